/- Parts of the proof, in order. -/
import Derived.Test.YtipjfckmopekaaaGreatDoorProg
import Derived.Test.YtipjfckmopekaaaGreatDoorMTagencEncodes3

set_option linter.unusedSimpArgs false
namespace Go.Proofs.YtipjfckmopekaaaGreatDoor.Va
open Go Am Rc Bt Br Up

def KD (sl:List (Int×V))(o:PO):Bool:=o.card==1 && !sl.any fun y=>y.1==o.num
theorem DA (g:PG)(sl:List (Int×V)):KA g sl=g.ops.any (KD sl):=rfl

theorem HK {l:List R}{i:Nat}{x:R}(h:l[i]? = some x):(l.map R.av)[i]? = some (.agg [.int .i64 x.num,.int .i64 x.wire,.int .u64 (x.bits:Nat),.str x.data]):=by
 rw[QYP,h,QYi,R.av]
theorem Qxa {l:List PO}{i:Nat}{o:PO}(h:l[i]? = some o):(l.map fun o=>AV.agg o.cells)[i]? = some (.agg [.int .i64 o.num,.str o.name,.str o.alias,.int .i64 o.card,.int .i64 o.key,.int .i64 o.kind,.int .i64 o.target,.int .i64 o.union]):=by
 rw[QYP,h,QYi,PO.cells]

section
variable {M:Nat}{P:PL}(hP:P.ok M){m:PG→V→Int}{lv:Int}(g:PG)(hg:g.ok M)(v:V)(hv:v.ok M)

def MrI (P:PL)(g:PG)(v:V)(k:Nat)(st:St):Prop :=
 ∃f fr i,st=⟨f,[fr],[]⟩∧k=v.raws.length-i∧Xe (Zm P g v.raws) v.raws.length 0=Xe (Zm P g v.raws) (v.raws.length-i) i∧f 4=.ptr 0 4 0∧f 5=.ptr 0 5 0∧f 63=.list (v.raws.map R.av)∧f 64=.int .i64 (v.raws.length:Nat)∧f 65=.int .i64 (i:Nat)∧fr 4=.cells [.list (P.progs.map Qh),.list (P.enums.map Qq)]∧fr 5=.cells g.cells∧∀s∈[14],(fr s).isRow=false

include hP hg hv in
theorem PA (f:Fr)(fr:Nat→Ob)(h4:f 4=.ptr 0 4 0)(h5:f 5=.ptr 0 5 0)(h63:f 63=.list (v.raws.map R.av))(h64:f 64=.int .i64 (v.raws.length:Nat))(h65:f 65=.int .i64 0)
  (m4:fr 4=.cells [.list (P.progs.map Qh),.list (P.enums.map Qq)]) (m5:fr 5=.cells g.cells) (Ww:∀s∈[14],(fr s).isRow=false) (Q:Exit→St→Prop)
  (q1:Xe (Zm P g v.raws) v.raws.length 0≠0→∀f fr,f 8=.int .i64 (Xe (Zm P g v.raws) v.raws.length 0)→Q .ret (⟨f,[fr],[]⟩:St))
  (q2:Xe (Zm P g v.raws) v.raws.length 0=0→∀f fr,Q (.exit 5) (⟨f,[fr],[]⟩:St)):QH Tryz.prog (.loop SG) ⟨f,[fr],[]⟩ Q:=by
 have e0:P.av=.agg [.list (P.progs.map Qh),.list (P.enums.map Qq)]:=rfl;refine Qd (MrI P g v) _ ⟨f,fr,0,rfl,rfl,rfl,h4,h5,h63,h64,h65,m4,m5,Ww⟩ ?_;clear h4 h5 h63 h64 h65 m4 m5 Ww;rintro _ st ⟨f0,fr0,i,rfl,rfl,hx,h40,h50,h630,h640,h650,m40,m50,Ww⟩;refine QJ (a:=_) [14] Ww ?_;intro f fr hf hm hn;have h4:f 4=.ptr 0 4 0:=by rw[hf,h40]<;>rfl
 have h5:f 5=.ptr 0 5 0:=by rw[hf,h50]<;>rfl
 have h63:f 63=.list (v.raws.map R.av):=by rw[hf,h630]<;>rfl
 have h64:f 64=.int .i64 (v.raws.length:Nat):=by rw[hf,h640]<;>rfl
 have h65:f 65=.int .i64 (i:Nat):=by rw[hf,h650]<;>rfl
 have m4:fr 4=.cells [.list (P.progs.map Qh),.list (P.enums.map Qq)]:=by rw[hm 4 (by decide),m40]<;>rfl
 have m5:fr 5=.cells g.cells:=by rw[hm 5 (by decide),m50]<;>rfl
 have n14:=hn 14 (by decide);clear hf hm hn h40 h50 h630 h640 h650 m40 m50 Ww;have m5':=m5;simp only[PG.cells]at m5;simp only[h64,h65,Qa,seval];by_cases hlt:i<v.raws.length
 ·obtain⟨x,hi⟩:∃x,v.raws[i]? = some x:=⟨v.raws[i],QXt hlt⟩;have hgi:=HK hi;have e1:=Ql i _ hlt (by have:=hv.nr;simp only[maxLen];omega);have c1:=v94 hP g hg x;rw[e0]at c1;simp only[Qh,PG.cells,R.av]at c1;simp only[Qm hlt,Qi,QYT,Qb,hgi,n14,h4,h5,h63,h65,m4,m5,eE,seval];refine aC c1 ?_;by_cases hy:JR P g x=0
  ·rw[KO hlt ((WA hi).trans hy)]at hx;have d0:((0:Int) != 0)=false:=rfl;simp only[hy,d0,h65,e1,Qa,seval];exact⟨v.raws.length-(i+1),by omega,_,_,i+1,rfl,rfl,hx,(by exact h4),(by exact h5),(by exact h63),(by exact h64),(by rfl),(by exact m4),(by exact m5'),by simp<;>rfl⟩
  ·rw[Zz hlt (WA hi) hy]at hx;have d1:(JR P g x != 0)=true:=by simp[hy]
   simp only[d1,Qa,seval];exact q1 (by rw[hx];exact hy) _ _ (by rw[hx];exact(by rfl))
 ·rw[JY hlt]at hx;simp only[Qw hlt,Qa,seval];exact q2 hx _ _

def MoI (P:PL)(g:PG)(v:V)(k:Nat)(st:St):Prop :=
 ∃f fr i,st=⟨f,[fr],[]⟩∧k=g.ops.length-i∧i≤g.ops.length∧(g.ops.take i).any (KD v.slots)=false∧f 4=.ptr 0 4 0∧f 5=.ptr 0 5 0∧f 6=.ptr 0 6 0∧f 45=.list (g.ops.map fun o=>.agg o.cells)∧f 46=.int .i64 (g.ops.length:Nat)∧f 47=.int .i64 (i:Nat)∧fr 4=.cells [.list (P.progs.map Qh),.list (P.enums.map Qq)]∧fr 5=.cells g.cells∧fr 6=.cells (vc v)∧∀s∈[12],(fr s).isRow=false

include hg hv in
theorem R9 (f:Fr)(fr:Nat→Ob)(h4:f 4=.ptr 0 4 0)(h5:f 5=.ptr 0 5 0)(h6:f 6=.ptr 0 6 0)(h45:f 45=.list (g.ops.map fun o=>.agg o.cells))(h46:f 46=.int .i64 (g.ops.length:Nat))(h47:f 47=.int .i64 0)
  (m4:fr 4=.cells [.list (P.progs.map Qh),.list (P.enums.map Qq)]) (m5:fr 5=.cells g.cells) (m6:fr 6=.cells (vc v)) (JX:∀s∈[12],(fr s).isRow=false) (Q:Exit→St→Prop)
  (q1:KA g v.slots=true→∀f fr,f 8=.int .i64 14→Q .ret (⟨f,[fr],[]⟩:St))
  (q2:KA g v.slots=false→∀f fr,f 4=.ptr 0 4 0→f 5=.ptr 0 5 0→f 6=.ptr 0 6 0→fr 4=.cells [.list (P.progs.map Qh),.list (P.enums.map Qq)]→fr 5=.cells g.cells→fr 6=.cells (vc v)→fr 14=.none→Q (.exit 3) (⟨f,[fr],[]⟩:St))
  (Ww:fr 14=.none):QH Tryz.prog (.loop SF) ⟨f,[fr],[]⟩ Q:=by
 let I:Nat→St→Prop:=fun k st=>MoI P g v k st∧∀f fr,st=⟨f,[fr],[]⟩→fr 14=.none
 have mk:∀k st,MoI P g v k st→∀f fr,st=⟨f,[fr],[]⟩→fr 14=.none→I k st:=fun k st h f fr e n=>⟨h,fun f' fr' e'=>by
  rw[e]at e'
  injection e' with _ e2 _
  injection e2 with e3 _
  rw[←e3];exact n⟩
 refine Qd I _ (mk _ _ ⟨f,fr,0,rfl,rfl,QXA _,by simp,h4,h5,h6,h45,h46,h47,m4,m5,m6,JX⟩ _ _ rfl Ww) ?_;clear h4 h5 h6 h45 h46 h47 m4 m5 m6 JX Ww;rintro _ st ⟨⟨f0,fr0,i,rfl,rfl,hil,hq,h40,h50,h60,h450,h460,h470,m40,m50,m60,JX⟩,Ww⟩;have Ww:=Ww _ _ rfl;refine QJ (a:=_) [12] JX ?_;intro f fr hf hm hn;have h4:f 4=.ptr 0 4 0:=by rw[hf,h40]<;>rfl
 have h5:f 5=.ptr 0 5 0:=by rw[hf,h50]<;>rfl
 have h6:f 6=.ptr 0 6 0:=by rw[hf,h60]<;>rfl
 have h45:f 45=.list (g.ops.map fun o=>.agg o.cells):=by rw[hf,h450]<;>rfl
 have h46:f 46=.int .i64 (g.ops.length:Nat):=by rw[hf,h460]<;>rfl
 have h47:f 47=.int .i64 (i:Nat):=by rw[hf,h470]<;>rfl
 have m4:fr 4=.cells [.list (P.progs.map Qh),.list (P.enums.map Qq)]:=by rw[hm 4 (by decide),m40]<;>rfl
 have m5:fr 5=.cells g.cells:=by rw[hm 5 (by decide),m50]<;>rfl
 have m6:fr 6=.cells (vc v):=by rw[hm 6 (by decide),m60]<;>rfl
 have n14:fr 14=.none:=by rw[hm 14 (by decide),Ww]<;>rfl
 have n12:=hn 12 (by decide);clear hf hm hn h40 h50 h60 h450 h460 h470 m40 m50 m60 JX Ww;have m6':=m6;simp only[vc]at m6;simp only[h46,h47,Qa,seval];by_cases hlt:i<g.ops.length
 ·obtain⟨o,hi⟩:∃o,g.ops[i]? = some o:=⟨g.ops[i],QXt hlt⟩;have hgi:=Qxa hi;have e1:=Ql i _ hlt hg.len;have ht:(g.ops.take (i+1)).any (KD v.slots)=KD v.slots o:=by
   rw[QZa,hi,List.any_append,hq];simp
  have hmi:KD v.slots o=(o.card==1 && !v.slots.any fun y=>y.1==o.num):=rfl;have fin:∀(f':Fr) (fr':Nat→Ob),KD v.slots o=false→f' 4=.ptr 0 4 0→f' 5=.ptr 0 5 0→f' 6=.ptr 0 6 0→f' 45=.list (g.ops.map fun o=>.agg o.cells)→f' 46=.int .i64 (g.ops.length:Nat)→f' 47=.int .i64 ((i+1:Nat):Int)→fr' 4=.cells [.list (P.progs.map Qh),.list (P.enums.map Qq)]→fr' 5=.cells g.cells→fr' 6=.cells (vc v)→(∀s∈[12],(fr' s).isRow=false)→fr' 14=.none→∃k,k<g.ops.length-i∧I k ⟨f',[fr'],[]⟩:=by
   intro f' fr' hu b4 b5 b6 b45 b46 b47 c4 c5 c6 c12 c14;exact⟨g.ops.length-(i+1),by omega,mk _ _ ⟨f',fr',i+1,rfl,rfl,by omega,by rw[ht,hu],b4,b5,b6,b45,b46,b47,c4,c5,c6,c12⟩ _ _ rfl c14⟩
  simp only[Qm hlt,Qi,QYT,Qb,hgi,n12,h45,h47,eE,seval];cases a1:(o.card==1)
  ·rw[a1,QYW]at hmi;simp only[h47,e1,Qa,seval];exact fin _ _ hmi (by exact h4) (by exact h5) (by exact h6) (by exact h45) (by exact h46) (by rfl) (by exact m4) (by exact m5) (by exact m6') (by simp<;>rfl) (by exact n14)
  ·rw[a1,QY3]at hmi;have hcl:=fun(fr:Nat→Ob) (h12:fr 12=.cells o.cells)=>v92 v.slots (by have:=hv.ns;simp only[maxLen];omega) (fun y=>y.1==o.num) 93 (.ptr 0 12 0) [fr] fun y _=>v93 y o fr h12
   simp only[PO.cells]at hcl;simp only[h6,m6,eE,seval];refine Qj (hcl _ (by rfl)) (by simp only[QXY,QYt,Qa,seval]<;>rfl) ?_;cases a2:v.slots.any (fun y=>y.1==o.num)
   ·rw[a2]at hmi;have hany:KA g v.slots=true:=QZg.2 ⟨o,QXF hi,by show KD v.slots o=true;rw[hmi];rfl⟩;simp only[Qa,seval];exact q1 hany _ _ (by rfl)
   ·rw[a2]at hmi;simp only[h47,e1,Qa,seval];exact fin _ _ hmi (by exact h4) (by exact h5) (by exact h6) (by exact h45) (by exact h46) (by rfl) (by exact m4) (by exact m5) (by exact m6') (by simp<;>rfl) (by exact n14)
 ·have hq':KA g v.slots=false:=by rw[DA,←hq,QX0 (by omega)]
  simp only[Qw hlt,Qa,seval];exact q2 hq' _ _ (by exact h4) (by exact h5) (by exact h6) (by exact m4) (by exact m5) (by exact m6') (by exact n14)

def MsI (m:PG→V→Int)(P:PL)(lv:Int)(g:PG)(v:V)(k:Nat)(st:St):Prop :=
 ∃f fr i,st=⟨f,[fr],[]⟩∧k=v.slots.length-i∧Xe (XB m P g v.slots) v.slots.length 0=Xe (XB m P g v.slots) (v.slots.length-i) i∧f 3=.int .i64 lv∧f 4=.ptr 0 4 0∧f 5=.ptr 0 5 0∧f 6=.ptr 0 6 0∧f 29=.int .i64 (v.slots.length:Nat)∧f 30=.int .i64 (i:Nat)∧fr 4=.cells [.list (P.progs.map Qh),.list (P.enums.map Qq)]∧fr 5=.cells g.cells∧fr 6=.cells (vc v)∧fr 12=.none∧fr 14=.none

include hv in
theorem CA (hsl:∀i,i<v.slots.length→Qk Tryz.prog 91 [P.av,Qh g,.list (v.slots.map V.sav),.int .i64 (i:Nat),.int .i64 lv] (.int .i64 (XB m P g v.slots i)))
  (f:Fr) (fr:Nat→Ob) (h3:f 3=.int .i64 lv) (h4:f 4=.ptr 0 4 0) (h5:f 5=.ptr 0 5 0) (h6:f 6=.ptr 0 6 0) (h29:f 29=.int .i64 (v.slots.length:Nat)) (h30:f 30=.int .i64 0)
  (m4:fr 4=.cells [.list (P.progs.map Qh),.list (P.enums.map Qq)]) (m5:fr 5=.cells g.cells) (m6:fr 6=.cells (vc v)) (n12:fr 12=.none) (n14:fr 14=.none) (Q:Exit→St→Prop)
  (q1:Xe (XB m P g v.slots) v.slots.length 0≠0→∀f fr,f 8=.int .i64 (Xe (XB m P g v.slots) v.slots.length 0)→Q .ret (⟨f,[fr],[]⟩:St))
  (q2:Xe (XB m P g v.slots) v.slots.length 0=0→∀f fr,f 4=.ptr 0 4 0→f 5=.ptr 0 5 0→f 6=.ptr 0 6 0→fr 4=.cells [.list (P.progs.map Qh),.list (P.enums.map Qq)]→fr 5=.cells g.cells→fr 6=.cells (vc v)→fr 12=.none→fr 14=.none→Q (.exit 1) (⟨f,[fr],[]⟩:St)) :
  QH Tryz.prog (.loop SE) ⟨f,[fr],[]⟩ Q:=by
 have e0:P.av=.agg [.list (P.progs.map Qh),.list (P.enums.map Qq)]:=rfl;refine Qd (MsI m P lv g v) _ ⟨f,fr,0,rfl,rfl,rfl,h3,h4,h5,h6,h29,h30,m4,m5,m6,n12,n14⟩ ?_;clear h3 h4 h5 h6 h29 h30 m4 m5 m6 n12 n14;rintro _ st ⟨f,fr,i,rfl,rfl,hx,h3,h4,h5,h6,h29,h30,m4,m5,m6,n12,n14⟩;have m5':=m5;have m6':=m6;simp only[PG.cells]at m5;simp only[vc]at m6;simp only[h29,h30,Qa,seval];by_cases hlt:i<v.slots.length
 ·have e1:=Ql i _ hlt (by have:=hv.ns;simp only[maxLen];omega);have c1:=hsl i hlt;rw[e0]at c1;simp only[Qh,PG.cells]at c1;simp only[Qm hlt,h3,h4,h5,h6,h30,m4,m5,m6,eE,seval];refine aC c1 ?_;by_cases hy:XB m P g v.slots i=0
  ·rw[KO hlt hy]at hx;have d0:((0:Int) != 0)=false:=rfl;simp only[hy,d0,h30,e1,Qa,seval];exact⟨v.slots.length-(i+1),by omega,_,_,i+1,rfl,rfl,hx,(by exact h3),(by exact h4),(by exact h5),(by exact h6),(by exact h29),(by rfl),(by exact m4),(by exact m5'),(by exact m6'),n12,n14⟩
  ·rw[Zz hlt rfl hy]at hx;have d1:(XB m P g v.slots i != 0)=true:=by simp[hy]
   simp only[d1,Qa,seval];exact q1 (by rw[hx];exact hy) _ _ (by rw[hx];exact(by rfl))
 ·rw[JY hlt]at hx;simp only[Qw hlt,Qa,seval];exact q2 hx _ _ (by exact h4) (by exact h5) (by exact h6) (by exact m4) (by exact m5') (by exact m6') n12 n14

include hP in
theorem v55 (hU:Yo P):∀n:Nat,n≤16→∀g∈P.progs,∀v:V,v.ok M→Qk Tryz.prog 55 [P.av,Qh g,v.av,.int .i64 (17-(n:Int))] (.int .i64 (Xl P n g v)):=by
 have e0:P.av=.agg [.list (P.progs.map Qh),.list (P.enums.map Qq)]:=rfl;intro n
 induction n with
 |zero=>
  intro _ g _ v hv;have co:=Cy v hv;rw[Qs]at co;rw[Qs];have d0:decide ((17:Int)-((0:Nat):Int) > 16)=true:=rfl;refine k55.fn (by simp) ?_;simp only[e0,Qh,PG.cells,Xl,eE,seval];cases a1:(v.kd != 10)
  ·simp only[QY7,eE,seval];refine aC co ?_;cases v.oth
   ·simp only[QXL,Qa,seval]
   ·simp only[Qa,seval]
  ·simp only[QY6,Qa,seval]
 |succ n ih=>
  intro hn16 g hgm v hv;have hg:=hP.progs g hgm;have hu:=hU g hgm;have hw:IntKind.i64.wrap (17-((n+1:Nat):Int)+1)=17-(n:Int):=by rw[QE];omega
  have hel:=fun(o:PO) (ho:o∈g.ops) (x:V) (hx:x.ok M)=>QRF hP hw (fun g hg v hv=>ih (by omega) g hg v hv) o (hu o ho) x hx
  have hfi:=fun(o:PO) (ho:o∈g.ops) (x:V) (hx:x.ok M)=>QRP hP o (hu o ho) x hx (hel o ho)
  have hsl:=fun(i:Nat) (hi:i<v.slots.length)=>v91 (P:=P) g hg v.slots (by have:=hv.ns;simp only[maxLen];omega) i hi hv.slots hfi
  have co:=Cy v hv;rw[Qs]at co;rw[Qs];have d0:decide ((17:Int)-((n+1:Nat):Int) > 16)=false:=QZd (by omega);refine k55.fn (by simp) ?_;simp only[e0,Qh,PG.cells,Xl,eE,seval];cases a1:(v.kd != 10)
  ·simp only[QY7,eE,seval];refine aC co ?_;cases v.oth
   ·simp only[d0,QXL,QYn,eE,seval];unfold W2;refine CA (lv:=17-((n+1:Nat):Int)) g v hv hsl _ _ (by rfl) (by rfl) (by rfl) (by rfl) (by rfl) (by rfl) (by rfl) (by rfl) (by rfl) (by rfl) (by rfl) _ (fun hx f fr h8=>?_) (fun hx f fr h4 h5 h6 m4 m5 m6 n12 n14=>?_)
    ·rw[QXG hx];simp only[h8,Qa,seval]
    ·rw[QXV hx];have m5':=m5;simp only[PG.cells]at m5;simp only[h5,m5,QYn,eE,seval];refine R9 g hg v hv _ _ (by exact h4) (by exact h5) (by exact h6) (by rfl) (by rfl) (by rfl) (by exact m4) (by exact m5') (by exact m6) (by simp only[QYO,QZw,or_false,forall_eq,n12]<;>rfl) _ (fun hx f fr h8=>?_) (fun hx f fr h4 h5 h6 m4 m5 m6 n14=>?_) (by exact n14)
     ·rw[hx];simp only[h8,Qa,seval]
     ·rw[hx];have m6':=m6;simp only[vc]at m6;simp only[QXL,h6,m6,QYn,eE,seval];refine PA hP g hg v hv _ _ (by exact h4) (by exact h5) (by rfl) (by rfl) (by rfl) (by exact m4) (by exact m5) (by simp only[QYO,QZw,or_false,forall_eq,n14]<;>rfl) _ (fun hx f fr h8=>?_) (fun hx f fr=>?_)
      ·simp only[h8,Qa,seval]
      ·simp only[hx,Qa,seval]
   ·simp only[Qa,seval]
  ·simp only[QY6,Qa,seval]

end
open So

theorem Yp {f:Nat→Int}:∀ {k i:Nat},(∀j,i≤j→j<i+k→f j=0)→Xe f k i=0
 |0,_,_=>rfl
 |k+1,i,h=>by
  rw[Xe,QXV (h i (QXq _) (by omega))];exact Yp fun j h1 h2=>h j (by omega) (by omega)

theorem J0 {α:Type}{l:List α}{p:α→Bool}{i:Nat}(hi:i≤l.length):(l.take i).any p=false↔∀j (h:j<i),p (l[j]'(by omega))=false:=by
 rw[List.any_eq_false]
 constructor
 ·intro h j hj;have:=h (l[j]'(by omega)) (QXF (i:=j) (by rw[QX5,QXV hj,QXt (by omega)]))
  simpa using this
 ·intro h x hx;obtain⟨j,hj⟩:=QXD.1 hx;have hl:=(QXs.1 hj).1;rw[QYp]at hl;rw[QX5,QXV (by omega)]at hj;obtain⟨hj1,rfl⟩:=QXs.1 hj;have:=h j (by omega);simp[this]

section
variable {m:PG→V→Int}{P:PL}

def SOK (m:PG→V→Int)(P:PL)(g:PG)(sl:List (Int×V)):Prop :=
 (∀x∈sl,∃o,XO g x.1=some o∧Q3 m P o x.2=0)∧sl.Pairwise (fun y x=>(y.1==x.1)=false)∧sl.Pairwise (fun y x=>∀o,XO g x.1=some o→Zr g o y=false)

theorem QaD {g:PG}{sl:List (Int×V)}:Xe (XB m P g sl) sl.length 0=0↔SOK m P g sl:=by
 have key:∀i (hi:i<sl.length),XB m P g sl i=0↔∃o,XO g sl[i].1=some o∧(sl.take i).any (fun y=>y.1==sl[i].1)=false∧(sl.take i).any (Zr g o)=false∧Q3 m P o sl[i].2=0:=by
  intro i hi;unfold XB;rw[QXt hi];dsimp only;cases XO g sl[i].1 with
  |none=>simp
  |some o=>
   simp only[QXR,exists_eq_left'];cases(sl.take i).any (fun y=>y.1==sl[i].1)<;>cases(sl.take i).any (Zr g o)<;>simp only[QXL,QZq,if_true,if_false,QYj,false_and,iff_false]<;>omega
 constructor
 ·intro h;have hz:∀i (hi:i<sl.length),_:=fun i hi=>(key i hi).1 (Js h i (QXA _) (by omega))
  refine⟨fun x hx=>?_,?_,?_⟩
  ·obtain⟨i,hi,rfl⟩:=QZx hx;obtain⟨o,h1,_,_,h4⟩:=hz i hi;exact⟨o,h1,h4⟩
  ·rw[QZt];intro i j hi hj hij;obtain⟨o,_,h2,_,_⟩:=hz j hj;exact(J0 (by omega)).1 h2 i hij
  ·rw[QZt];intro i j hi hj hij o ho;obtain⟨o',h1,_,h3,_⟩:=hz j hj;rw[h1]at ho;cases ho;exact(J0 (by omega)).1 h3 i hij
 ·rintro⟨h1,h2,h3⟩;refine Yp fun i _ hi=>?_
  rw[QX8]at hi;obtain⟨o,ho,hf⟩:=h1 sl[i] (QYk hi);rw[QZt]at h2 h3;exact(key i hi).2 ⟨o,ho,(J0 (by omega)).2 fun j hj=>h2 j i (by omega) hi hj,(J0 (by omega)).2 fun j hj=>h3 j i (by omega) hi hj o ho,hf⟩

def EOK (m:PG→V→Int)(P:PL)(o:PO)(ps:List (V×V)):Prop :=
 (∀x∈ps,x.1.one P o.key (-1)=0∧QN m P o x.2=0)∧ps.Pairwise fun q p=>Zo q.1 p.1=false

theorem Wp {o:PO}{ps:List (V×V)}:Xe (Kf m P o ps) ps.length 0=0↔EOK m P o ps:=by
 have key:∀i (hi:i<ps.length),Kf m P o ps i=0↔(ps[i].1.one P o.key (-1)=0∧(ps.take i).any (fun q=>Zo q.1 ps[i].1)=false∧QN m P o ps[i].2=0):=by
  intro i hi;rw[KB (QXt hi)];by_cases hz:ps[i].1.one P o.key (-1)=0
  ·rw[QXV hz];cases(ps.take i).any (fun q=>Zo q.1 ps[i].1)<;>simp[hz]
  ·rw[QXG hz];simp[hz]
 constructor
 ·intro h;have hz:∀i (hi:i<ps.length),_:=fun i hi=>(key i hi).1 (Js h i (QXA _) (by omega))
  refine⟨fun x hx=>?_,?_⟩
  ·obtain⟨i,hi,rfl⟩:=QZx hx;exact⟨(hz i hi).1,(hz i hi).2.2⟩
  ·rw[QZt];intro i j hi hj hij;exact(J0 (by omega)).1 (hz j hj).2.1 i hij
 ·rintro⟨h1,h2⟩;refine Yp fun i _ hi=>?_
  rw[QX8]at hi;rw[QZt]at h2;exact(key i hi).2 ⟨(h1 _ (QYk hi)).1,(J0 (by omega)).2 fun j hj=>h2 j i (by omega) hi hj,(h1 _ (QYk hi)).2⟩

theorem KE {o:PO}{l:List V}:Xe (YM m P o l) l.length 0=0↔∀x∈l,QN m P o x=0:=by
 constructor
 ·intro h x hx;obtain⟨i,hi,rfl⟩:=QZx hx;have:=Js h i (QXA _) (by omega)
  rwa [Wn (QXt hi)]at this
 ·intro h;refine Yp fun i _ hi=>?_
  rw[QX8]at hi;rw[Wn (QXt hi)];exact h _ (QYk hi)
theorem QaE {g:PG}{l:List R}:Xe (Zm P g l) l.length 0=0↔∀x∈l,JR P g x=0:=by
 constructor
 ·intro h x hx;obtain⟨i,hi,rfl⟩:=QZx hx;have:=Js h i (QXA _) (by omega)
  rwa [WA (QXt hi)]at this
 ·intro h;refine Yp fun i _ hi=>?_
  rw[QX8]at hi;rw[WA (QXt hi)];exact h _ (QYk hi)

theorem WG {g:PG}{v:V}:W2 m P g v=0↔SOK m P g v.slots∧KA g v.slots=false∧∀x∈v.raws,JR P g x=0:=by
 unfold W2;rw[←QaD,←QaE];split
 ·rename_i h;cases KA g v.slots<;>simp[h]
 ·rename_i h;simp[h]
end

theorem KF {P:PL}{n:Nat}{g:PG}{v:V}:Xl P (n+1) g v=0↔(v.kd=10∧v.oth=false)∧SOK (Xl P n) P g v.slots∧KA g v.slots=false∧∀x∈v.raws,JR P g x=0:=by
 rw[←WG];unfold Xl;by_cases h:v.kd=10
 ·cases ho:v.oth<;>simp[h]
 ·simp[h]

theorem BS {v:V}(h:v.kd≠6):v.nsc=v:=by
 cases v;unfold V.nsc XK;rw[QXG fun g=>h g.1];rfl
theorem QHy {P:PL}{tg:Int}{t:List UInt8}{l p s r:List AV}(b b':Nat):Yd P 6 tg 6 b t l p s r=Yd P 6 tg 6 b' t l p s r:=by
 have k1:(Za 6||(6:Int)==10||(6:Int)==11||(6:Int)==12)=false:=by decide
 have k2:((6:Int)==9)=false:=rfl;have t6:Za 6=false:=rfl;have f6:∀b,YH 6 b=true:=fun b=>by
  unfold YH;rw[QXG (by decide),QXG (by decide),QXG (by decide),QXG (by decide)]
 have h1:oth 6 b t l p s r=oth 6 b' t l p s r:=by
  unfold oth;rw[k1,QZk,QZk]
 have h2:Xo 6 6 b t l p s r=Xo 6 6 b' t l p s r:=by
  unfold Xo;rw[f6,f6,QXG (by rw[t6];exact Bool.false_ne_true),QXG (by rw[t6];exact Bool.false_ne_true)]
 unfold Yd;rw[h1,h2,k2,QYW,QYW]
theorem Vo {P:PL}{k tg:Int}{v:V}(h:v.one P k tg=0):v.nsc.one P k tg=0:=by
 by_cases hk:v.kd=6
 ·have e:=(Ym h).1;rw[←h];unfold V.one;have e1:v.nsc.kd=6:=hk;rw[e1,hk,show k=6 by omega];exact QHy _ _
 ·rw[BS hk];exact h

theorem Zj {g:PG}(hd:g.ops.Pairwise fun a b=>a.num<b.num){o:PO}(ho:o∈g.ops):XO g o.num=some o:=by
 unfold XO
 revert hd ho
 generalize g.ops=ops;intro hd ho
 induction ops with
 |nil=>cases ho
 |cons x l ih=>
  obtain⟨h1,h2⟩:=QYZ.1 hd;rw[List.find?_cons];rcases QYO.1 ho with rfl|ho
  ·simp
  ·have:=h1 o ho;rw[show(x.num==o.num)=false by simp;omega];exact ih h2 ho

section
variable {m:PG→V→Int}{nm:PG→V→V}{P:PL}

theorem HL (h:∀g∈P.progs,∀v,m g v=0→m g (nm g v)=0){o:PO}(ho:UO P o){v:V}(hv:QN m P o v=0):QN m P o (ZG nm P o v)=0:=by
 unfold QN ZG at *;by_cases hk:o.kind=10
 ·rw[QXV hk]at hv;rw[QXV hk,QXV hk];obtain⟨t0,t1⟩:=ho.tgt hk;refine h _ ?_ _ hv;unfold Q1;rw[QXt (by omega:o.target.toNat<P.progs.length)];exact QYk _
 ·rw[QXG hk]at hv;rw[QXG hk,QXG hk];exact Vo hv

theorem PB {o:PO}(ho:o.card=5→X3 o.key)(h5:o.card=5){ps:List (V×V)}(h:EOK m P o ps):∀p∈ps,p.1.nsc=p.1:=by
 intro p hp;have e:=(Ym (h.1 p hp).1).1;refine BS ?_;have:=ho h5;unfold X3 at this;omega

theorem Sa (h:∀g∈P.progs,∀v,m g v=0→m g (nm g v)=0){o:PO}(ho:UO P o){v:V}(hv:Q3 m P o v=0):Q3 m P o (ZT nm P o v)=0:=by
 unfold Q3 ZT at *;by_cases h5:o.card=5
 ·have n4:¬o.card=4:=by omega
  rw[QXV h5]at hv;rw[QXV h5,QXG n4,QXV h5];split at hv
  ·omega
  have hE:=Wp.1 hv;have hk:=PB ho.key h5 hE;rw[QXG (by simp[V.kd,V.oth,oth,V.bits,V.text,V.list,V.pairs,V.slots,V.raws,Za])];refine Wp.2 ?_;have hp:(Xj o.key v.pairs).Perm v.pairs:=Xc _;have hm:∀p∈Xj o.key v.pairs,p∈v.pairs:=fun p h=>hp.mem_iff.1 h
  refine⟨fun x hx=>?_,?_⟩
  ·obtain⟨p,hp,rfl⟩:=QYM.1 hx;have h1:=hE.1 p (hm p hp);exact⟨Vo h1.1,HL h ho h1.2⟩
  ·show(List.map _ (Xj o.key v.pairs)).Pairwise _;rw[List.pairwise_map];have h2:(Xj o.key v.pairs).Pairwise fun q p=>Zo q.1 p.1=false:=(hp.pairwise_iff fun {a b} h=>by unfold Zo at *;rw[←h,Bool.beq_comm (a:=b.1.bits),Bool.beq_comm (a:=b.1.text)]).2 hE.2
   refine h2.imp_of_mem fun {a b} ha hb h=>?_
   dsimp only;rw[hk a (hm a ha),hk b (hm b hb)];exact h
 ·rw[QXG h5]at hv;rw[QXG h5];by_cases h4:o.card=4
  ·rw[QXV h4]at hv;rw[QXV h4,QXV h4];split at hv
   ·omega
   have hL:=KE.1 hv;rw[QXG (by simp[V.kd,V.oth,oth,V.bits,V.text,V.list,V.pairs,V.slots,V.raws,Za])];refine KE.2 fun x hx=>?_
   obtain⟨y,hy,rfl⟩:=QYM.1 hx;exact HL h ho (hL y hy)
  ·rw[QXG h4]at hv;rw[QXG h4,QXG h4,QXG h5];exact HL h ho hv

theorem ZU {sl:List (Int×V)}{o:PO}{x:Int×V}(h:x∈XC nm P sl o):x.1=o.num∧∃s∈sl,s.1=o.num∧x.2=ZT nm P o s.2:=by
 unfold XC at h;cases hf:sl.find? (fun s=>s.1==o.num)with
 |none=>rw[hf]at h;cases h
 |some s=>
  rw[hf]at h;dsimp only at h;have h1:s.1=o.num:=by simpa using List.find?_some hf
  split at h
  ·simp only[QYO,QZw,or_false]at h;subst h;exact⟨rfl,s,QZh hf,h1,rfl⟩
  ·cases h

theorem HM {sl:List (Int×V)}{o:PO}{p:Int×V→Int×V→Prop}:(XC nm P sl o).Pairwise p:=by
 unfold XC;split
 ·exact .nil
 ·split
  ·exact List.pairwise_singleton _ _
  ·exact .nil

theorem PC (h:∀g∈P.progs,∀v,m g v=0→m g (nm g v)=0){g:PG}(hd:g.ops.Pairwise fun a b=>a.num<b.num)(hu:∀o∈g.ops,UO P o){v:V}(hv:W2 m P g v=0):W2 m P g (HI nm P g v)=0:=by
 obtain⟨⟨s1,s2,s3⟩,hmis,hraw⟩:=WG.1 hv;have uniq:∀ {a b:Int×V},a∈v.slots→b∈v.slots→a.1=b.1→a=b:=by
  intro a b ha hb e;obtain⟨i,hi,rfl⟩:=QZx ha;obtain⟨j,hj,rfl⟩:=QZx hb;rw[QZt]at s2;rcases Nat.lt_trichotomy i j with c|c|c
  ·have:=s2 i j hi hj c;rw[e]at this;simp at this
  ·subst c;rfl
  ·have:=s2 j i hj hi c;rw[e]at this;simp at this
 refine WG.2 ⟨⟨fun x hx=>?_,?_,?_⟩,?_,fun x hx=>?_⟩
 ·obtain⟨o,ho,hx⟩:=QYd.1 hx;obtain⟨e,s,hs,e1,e2⟩:=ZU hx;obtain⟨o',h1,h2⟩:=s1 s hs;rw[e1,Zj hd ho]at h1;cases h1;exact⟨o,by rw[e];exact Zj hd ho,by rw[e2];exact Sa h (hu o ho) h2⟩
 ·show(g.ops.flatMap (XC nm P v.slots)).Pairwise _;rw[List.pairwise_flatMap];refine⟨fun _ _=>HM,hd.imp fun {a b} hab x hx y hy=>?_⟩;have e1:=(ZU hx).1;have e2:=(ZU hy).1;simp;omega
 ·show(g.ops.flatMap (XC nm P v.slots)).Pairwise _;rw[List.pairwise_flatMap];refine⟨fun _ _=>HM,(hd.imp_of_mem fun {a b} ha hb hab x hx y hy o ho=>?_)⟩;obtain⟨e1,s,hs,es,_⟩:=ZU hx;obtain⟨e2,t,ht,et,_⟩:=ZU hy;rw[e2,Zj hd hb]at ho;cases ho;have hst:s≠t:=fun e=>by rw[e,et]at es;omega
  obtain⟨i,hi,rfl⟩:=QZx hs;obtain⟨j,hj,rfl⟩:=QZx ht;rw[QZt]at s3;have hx1:XO g x.1=some a:=by rw[e1];exact Zj hd ha
  unfold Zr;rw[hx1];rcases Nat.lt_trichotomy i j with c|c|c
  ·have:=s3 i j hi hj c b (by rw[et];exact Zj hd hb);unfold Zr at this;rw[es,Zj hd ha]at this;exact this
  ·subst c;exact absurd rfl hst
  ·have:=s3 j i hj hi c a (by rw[es];exact Zj hd ha);unfold Zr at this;rw[et,Zj hd hb]at this;simp only[QYC,QZn,bne_eq_false_iff_eq,QY8]at this ⊢;rcases this with e|e
   ·by_cases c:b.union = -1
    ·exact .inl c
    ·exact .inr fun g=>c (by omega)
   ·exact .inr fun g=>e g.symm
 ·have hm:=hmis;rw[DA,List.any_eq_false]at hm ⊢;intro o ho;have:=hm o ho;unfold KD at this ⊢;by_cases hc:o.card=1
  ·have hb:(o.card==1)=true:=by simp[hc]
   rw[hb,QY3,QZp,Bool.not_eq_false']at this;rw[hb,QY3,QZp,Bool.not_eq_false'];obtain⟨s,hs,e⟩:=QZg.1 this;obtain⟨t,ht⟩:∃t,v.slots.find? (fun s=>s.1==o.num)=some t:=by
    cases hf:v.slots.find? (fun s=>s.1==o.num)with
    |none=>exact absurd e (by simpa using List.find?_eq_none.1 hf s hs)
    |some t=>exact⟨t,rfl⟩
   refine QZg.2 ⟨(o.num,ZT nm P o t.2),QYd.2 ⟨o,ho,?_⟩,by simp⟩;unfold XC;rw[ht];dsimp only;rw[QXV (by simp[hc])];simp
  ·have hb:(o.card==1)=false:=by simp[hc]
   rw[hb,QYW];simp
 ·exact hraw x ((Xc v.raws).mem_iff.1 hx)

end

theorem WH {P:PL}(hU:Yo P)(hr:KI P):∀(n:Nat) (g:PG),g∈P.progs→∀v:V,Xl P n g v=0→Xl P n g (Xi P n g v)=0
 |0,_,_,v,h=>by
  unfold Xl at h;split at h<;>omega
 |n+1,g,hg,v,h=>by
  have hb:=WG.2 (KF.1 h).2;refine KF.2 ⟨⟨rfl,?_⟩,WG.1 (PC (fun g hg v h=>WH hU hr n g hg v h) (hr g hg) (hU g hg) hb)⟩;simp[V.oth,oth,Xi,HI,V.kd,V.bits,V.text,V.list,V.pairs,V.slots,V.raws,Za]

section
variable {m:PG→V→Int}{nm:PG→V→V}{P:PL}

end

def JS (l:List (Int×V)):List (Int×V):=QF (fun x y=>decide (x.1<y.1)) l
theorem QRR:SW fun x y:Int×V=>decide (x.1<y.1) where
 irr x:=by simp
 tr x y z h k:=by simp only[QXx]at *;omega
 nt x y z h k:=by simp only[QZj]at *;omega

theorem PD:∀ {a b:List (Int×V)},(a.Pairwise fun x y=>x.1<y.1)→(b.Pairwise fun x y=>x.1<y.1)→(∀x,x∈a↔x∈b)→a=b
 | [],[],_,_,_=>rfl
 | [],y :: b,_,_,h=>by have:=(h y).2 (by simp);cases this
 |x :: a,[],_,_,h=>by have:=(h x).1 (by simp);cases this
 |x :: a,y :: b,ha,hb,h=>by
  obtain⟨a1,a2⟩:=QYZ.1 ha;obtain⟨b1,b2⟩:=QYZ.1 hb;have e:x=y:=by
   rcases QYO.1 ((h x).1 (by simp))with e|e
   ·exact e
   ·rcases QYO.1 ((h y).2 (by simp))with e'|e'
    ·exact e'.symm
    ·have:=b1 x e;have:=a1 y e';omega
  subst e;congr 1
  refine PD a2 b2 fun z=>?_
  have hz:=h z;simp only[QYO]at hz
  constructor
  ·intro hm;rcases hz.1 (.inr hm)with e|e
   ·subst e;have:=a1 z hm;omega
   ·exact e
  ·intro hm;rcases hz.2 (.inr hm)with e|e
   ·subst e;have:=b1 z hm;omega
   ·exact e

section
variable {m:PG→V→Int}(nm:PG→V→V)(P:PL)

def ZJ (o:PO)(s:Int×V):List (Int×V):=if (decide (o.card<3) || !(ZT nm P o s.2).emp)=true then [(o.num,ZT nm P o s.2)]else []
def Jh (g:PG)(s:Int×V):List (Int×V):=match XO g s.1 with
 |none=>[]
 |some o=>ZJ nm P o s

theorem PF {o:PO}{s x:Int×V}:x∈ZJ nm P o s↔(decide (o.card<3) || !(ZT nm P o s.2).emp)=true∧x=(o.num,ZT nm P o s.2):=by
 unfold ZJ;split
 ·rename_i h;simp[h]
 ·rename_i h;simp[h]

theorem PH {sl:List (Int×V)}(hu:sl.Pairwise fun y x=>(y.1==x.1)=false){s:Int×V}(hs:s∈sl):sl.find? (fun t=>t.1==s.1)=some s:=by
 induction sl with
 |nil=>cases hs
 |cons x l ih=>
  obtain⟨h1,h2⟩:=QYZ.1 hu;rw[List.find?_cons];rcases QYO.1 hs with rfl|hs
  ·simp
  ·rw[h1 s hs];exact ih h2 hs

theorem Wj {sl:List (Int×V)}{o:PO}:XC nm P sl o=match sl.find? (fun s=>s.1==o.num)with
  |none=>[]
  |some s=>ZJ nm P o s:=rfl

theorem Sb {g:PG}(hd:g.ops.Pairwise fun a b=>a.num<b.num){sl:List (Int×V)}(hu:sl.Pairwise fun y x=>(y.1==x.1)=false):(JS sl).flatMap (Jh nm P g)=g.ops.flatMap (XC nm P sl):=by
 have hp:(JS sl).Perm sl:=Xc _;have hsu:(JS sl).Pairwise fun y x=>(y.1==x.1)=false:=(hp.pairwise_iff fun {a b} h=>by rw[Bool.beq_comm];exact h).2 hu
 have hss:Zi (fun x y:Int×V=>decide (x.1<y.1)) (JS sl):=ZA QRR _;have hst:(JS sl).Pairwise fun x y=>x.1<y.1:=by
  unfold Zi at hss;rw[QZt]at *;intro i j hi hj hij;have h1:=hss i j hi hj hij;have h2:=hsu i j hi hj hij;simp only[QZj,QY8]at h1 h2;omega
 have kpw:∀s,(Jh nm P g s).Pairwise fun x y:Int×V=>x.1<y.1:=fun s=>by
  unfold Jh;split
  ·exact .nil
  ·unfold ZJ;split
   ·exact List.pairwise_singleton _ _
   ·exact .nil
 have knum:∀ {s x:Int×V},x∈Jh nm P g s→x.1=s.1:=fun {s x} h=>by
  unfold Jh at h;cases ho:XO g s.1 with
  |none=>rw[ho]at h;cases h
  |some o=>
   rw[ho]at h;rw[((PF nm P).1 h).2];exact(Zu ho).2
 refine PD ?_ ?_ fun x=>?_
 ·rw[List.pairwise_flatMap];refine⟨fun s _=>kpw s,hst.imp fun {a b} hab x hx y hy=>?_⟩;rw[knum hx,knum hy];exact hab
 ·rw[List.pairwise_flatMap];refine⟨fun _ _=>HM,hd.imp fun {a b} hab x hx y hy=>?_⟩;rw[(ZU hx).1,(ZU hy).1];exact hab
 ·rw[QYd,QYd]
  constructor
  ·rintro⟨s,hs,h⟩;unfold Jh at h;cases ho:XO g s.1 with
   |none=>rw[ho]at h;cases h
   |some o=>
    rw[ho]at h;obtain⟨hom,hon⟩:=Zu ho;refine⟨o,hom,?_⟩;rw[Wj,hon,PH hu (hp.mem_iff.1 hs)];exact h
  ·rintro⟨o,ho,h⟩;rw[Wj]at h;cases hf:sl.find? (fun s=>s.1==o.num)with
   |none=>rw[hf]at h;cases h
   |some s=>
    rw[hf]at h;have hs:s.1=o.num:=by simpa using List.find?_some hf
    refine⟨s,hp.mem_iff.2 (QZh hf),?_⟩;unfold Jh;rw[hs,Zj hd ho];exact h

def TE (o:PO)(sl:List (Int×V)):List (Int×V):=sl.flatMap fun s=>if (s.1==o.num)=true then ZJ nm P o s else []
theorem BT {o:PO}{sl:List (Int×V)}(hu:sl.Pairwise fun y x=>(y.1==x.1)=false):TE nm P o sl=XC nm P sl o:=by
 rw[Wj];unfold TE
 induction sl with
 |nil=>rfl
 |cons x l ih=>
  obtain⟨h1,h2⟩:=QYZ.1 hu;rw[QYV,List.find?_cons];cases hx:(x.1==o.num)
  ·rw[QXG (by simp),QXP];exact ih h2
  ·rw[QXV rfl];have e:x.1=o.num:=by simpa using hx
   have:l.flatMap (fun s=>if (s.1==o.num)=true then ZJ nm P o s else [])=[]:=by
    rw[List.flatMap_eq_nil_iff];intro s hs;have:=h1 s hs;rw[e]at this;rw[QXG (by rw[Bool.beq_comm];simp[this])]
   rw[this,QYv]

end
end Go.Proofs.YtipjfckmopekaaaGreatDoor.Va

namespace Go.Proofs.YtipjfckmopekaaaGreatDoor.Va
open Go Am Rc Bt Br Up

theorem GM (a b:Int):IntKind.i64.wrap (IntKind.i64.wrap a+IntKind.i64.wrap b)=IntKind.i64.wrap (a+b):=by
 simp only[QE];omega
section
variable {M:Nat}

def C1I (v:V)(k:Nat)(st:St):Prop :=
 ∃f fr i,st=⟨f,[fr],[]⟩∧k=v.list.length-i∧i≤v.list.length∧f 1=.ptr 0 1 0∧f 3=.int .i64 (IntKind.i64.wrap ((1+v.raws.length+Xd (v.list.take i):Nat):Int))∧f 4=.int .i64 (i:Nat)∧fr 1=.cells (vc v)
def C2I (v:V)(k:Nat)(st:St):Prop :=
 ∃f fr i,st=⟨f,[fr],[]⟩∧k=v.pairs.length-i∧i≤v.pairs.length∧f 1=.ptr 0 1 0∧f 3=.int .i64 (IntKind.i64.wrap ((1+v.raws.length+Xd v.list+Xs (v.pairs.take i):Nat):Int))∧f 5=.int .i64 (i:Nat)∧fr 1=.cells (vc v)
def C3I (v:V)(k:Nat)(st:St):Prop :=
 ∃f fr i,st=⟨f,[fr],[]⟩∧k=v.slots.length-i∧i≤v.slots.length∧f 1=.ptr 0 1 0∧f 3=.int .i64 (IntKind.i64.wrap ((1+v.raws.length+Xd v.list+Xs v.pairs+Xh (v.slots.take i):Nat):Int))∧f 6=.int .i64 (i:Nat)∧fr 1=.cells (vc v)

theorem v32 (v:V)(hv:v.ok M):Qk Tryz.prog 32 [v.av] (.int .i64 (IntKind.i64.wrap (v.cnt:Int))):=by
 revert hv
 refine V.ind (P:=fun v=>v.ok M→Qk Tryz.prog 32 [v.av] (.int .i64 (IntKind.i64.wrap (v.cnt:Int)))) ?_ v;clear v;intro v hl hp hs hv;have n1:=hv.nl;have n2:=hv.np;have n3:=hv.ns;rw[Qs];refine k32.fn (by simp) ?_;simp only[QYn,eE,seval];refine Qd (C1I v) _ ⟨_,_,0,rfl,rfl,QXA _,(by rfl),(by simp only[QYA,Xd,QXX,Int.natCast_add,Int.natCast_one,Qa,seval]),(by rfl),(by rfl)⟩ ?_;rintro _ st ⟨f,fr,i,rfl,rfl,hil,h1,h3,h4,m1⟩;have m1':=m1;simp only[vc]at m1;simp only[QYn,h1,h4,m1,eE,seval];by_cases hlt:i<v.list.length
 ·obtain⟨x,hi⟩:∃x,v.list[i]? = some x:=⟨v.list[i],QXt hlt⟩;have hg:=WF hi;have e1:=Ql i _ hlt (by simp only[maxLen];omega);have c1:=hl x (QXF hi) (hv.list x (QXF hi));rw[Qs]at c1;simp only[Qm hlt,Qi,QYT,Qb,hg,h1,h3,h4,m1,eE,seval];refine aC c1 ?_;simp only[h4,e1,GM,Qa,seval];exact⟨v.list.length-(i+1),by omega,_,_,i+1,rfl,rfl,by omega,(by exact h1),(by rw[Uz hi];simp only[h3,←Int.natCast_add,QXp,Qa,seval]),(by rfl),(by exact m1')⟩
 have e:i=v.list.length:=by omega
 subst e;rw[QY1]at h3;simp only[Qw hlt,Qa,seval];refine Qd (C2I v) _ ⟨_,_,0,rfl,rfl,QXA _,(by exact h1),(by simp only[QYA,Xs,QXX,h3,Qa,seval]),(by rfl),(by exact m1')⟩ ?_;clear h1 h3 h4 m1 m1' hlt hil;rintro _ st ⟨f,fr,i,rfl,rfl,hil,h1,h3,h5,m1⟩;have m1':=m1;simp only[vc]at m1;simp only[QYn,h1,h5,m1,eE,seval];by_cases hlt:i<v.pairs.length
 ·obtain⟨x,hi⟩:∃x,v.pairs[i]? = some x:=⟨v.pairs[i],QXt hlt⟩;have hg:=Z0 hi;have e1:=Ql i _ hlt (by simp only[maxLen];omega);have hm:=QXF hi;have c1:=(hp x hm).1 (hv.keys x hm);have c2:=(hp x hm).2 (hv.vals x hm);rw[Qs]at c1 c2;simp only[Qm hlt,Qi,QYT,Qb,hg,QXZ,QYA,QX9,h1,h3,h5,m1,eE,seval];refine aC c1 ?_;simp only[Qi,QYT,Qb,hg,QXZ,QX2,QX9,h1,h5,m1,eE,seval];refine aC c2 ?_;simp only[h5,e1,GM,Qa,seval];exact⟨v.pairs.length-(i+1),by omega,_,_,i+1,rfl,rfl,by omega,(by exact h1),(by rw[Fa hi];simp only[h3,←Int.natCast_add,QXp,Qa,seval]),(by rfl),(by exact m1')⟩
 have e:i=v.pairs.length:=by omega
 subst e;rw[QY1]at h3;simp only[Qw hlt,Qa,seval];refine Qd (C3I v) _ ⟨_,_,0,rfl,rfl,QXA _,(by exact h1),(by simp only[QYA,Xh,QXX,h3,Qa,seval]),(by rfl),(by exact m1')⟩ ?_;clear h1 h3 h5 m1 m1' hlt hil;rintro _ st ⟨f,fr,i,rfl,rfl,hil,h1,h3,h6,m1⟩;have m1':=m1;simp only[vc]at m1;simp only[QYn,h1,h6,m1,eE,seval];by_cases hlt:i<v.slots.length
 ·obtain⟨x,hi⟩:∃x,v.slots[i]? = some x:=⟨v.slots[i],QXt hlt⟩;have hg:=Jv hi;have e1:=Ql i _ hlt (by simp only[maxLen];omega);have hm:=QXF hi;have c1:=hs x hm (hv.slots x hm);rw[Qs]at c1;simp only[Qm hlt,Qi,QYT,Qb,hg,QXZ,QX2,QX9,h1,h3,h6,m1,eE,seval];refine aC c1 ?_;simp only[h6,e1,GM,Qa,seval];exact⟨v.slots.length-(i+1),by omega,_,_,i+1,rfl,rfl,by omega,(by exact h1),(by rw[Fb hi];simp only[h3,←Int.natCast_add,QXp,Qa,seval]),(by rfl),(by exact m1')⟩
 have e:i=v.slots.length:=by omega
 subst e;rw[QY1]at h3;simp only[Qw hlt,h3,Xk,Qa,seval]

end

def JB (v:V):List V:=v.list++v.pairs.flatMap (fun p=>[p.1,p.2])++v.slots.map (·.2)

theorem HN (a b:List V):Xd (a++b)=Xd a+Xd b:=by
 induction a with
 |nil=>simp[Xd]
 |cons x a ih=>simp only[QXO,Xd,ih];omega
theorem QaF (v:V):v.cnt=1+v.raws.length+Xd (JB v):=by
 have h1:∀l:List (V×V),Xd (l.flatMap fun p=>[p.1,p.2])=Xs l:=by
  intro l
  induction l with
  |nil=>rfl
  |cons x l ih=>
   obtain⟨a,b⟩:=x;simp only[QYV,HN,ih,Xs,Xd,QXX]
 have h2:∀l:List (Int×V),Xd (l.map (·.2))=Xh l:=by
  intro l
  induction l with
  |nil=>rfl
  |cons x l ih=>
   obtain⟨a,b⟩:=x;simp only[QXY,Xd,ih,Xh]
 rw[Xk,JB,HN,HN,h1,h2];omega

theorem PJ {xs:List AV}(h:xs.all (fun e=>e.cells.length==7)=true)(hf:QO xs=[]):xs=[]:=by
 cases xs with
 |nil=>rfl
 |cons x xs=>
  have hl:x.cells.length=7:=by simpa using QXE.1 h x (by simp)
  have:x.cells=[]:=(List.append_eq_nil_iff.1 hf).1;rw[this]at hl;exact absurd hl.symm (by decide)

theorem QRS (xs:List AV)(fr:Nat→Ob)(m:Qo)(h:xs.all (fun e=>e.cells.length==7)=true)(hn:xs.length≤1099511627776)(hr:Qu (fr 1000)=true) :
  Qg Tryz.prog 180 [.list xs] (fr :: m) (fun x m1=>x=.vec 0 1000 (Xn (fr 1000)) 0 xs.length false∧m1=QK fr 1000 (.vec (Xn (fr 1000)) 7 xs) :: m):=by
 have hng:QC (fr :: m) 0 1000=Xn (fr 1000):=Jl;refine Rr.go (by simp) ?_;simp only[V4,Bb,Bc,Qa,seval];refine ZX (ys:=xs) (by simp only[Qa,seval]) ?_ ?_
 ·simp only[Be,Qa,seval];refine Zy rfl ?_;simp only[Qa,seval];refine QG (site:=5) (g:=1) (xs:=[]) (ys:=xs) rfl rfl rfl rfl rfl h (by simp[maxLen];omega) (by simp;omega) ?_;simp only[Qa,seval];refine XQ (l:=0) (site:=5) (g:=2) (o:=0) (n:=xs.length) (q:=false) (sz:=7) (xs:=xs) (by simp only[QX8,Qa,seval]) (by simp only[Qa,seval]) (by simp) (by decide) hr ?_;simp only[hng,Dk,eE,seval]
  try simp[AV.still,AV.un,XZ,Xm]
 ·intro he;have hx:xs=[]:=by
   rcases he with he|he
   ·exact he
   ·exact PJ h he
  subst hx;simp only[Bd,Qa,seval];refine XF (by simp only[Qa,seval]) rfl ?_;simp only[Qa,seval];refine XQ (l:=0) (site:=2) (g:=1) (o:=0) (n:=0) (q:=false) (sz:=7) (xs:=[]) (by simp only[Qa,seval]) (by simp only[Qa,seval]) (by simp) (by decide) hr ?_;simp only[hng,Dk,eE,seval]
  try simp[AV.still,AV.un,XZ,Xm]

theorem QP {P:Program}{K:St→Prop}{Qe:List Am.Item}{f:Fr}{m:Qo}{ds:List DF}{d sz len:Nat}{z y l:List AV}{ps:List (Nat×Nat×RA)}(hy:fill f ps (XJ z sz len)=some y)(h1:AV.rfL y=true)(h2:y.all AV.leaf=true)(hc:XS sz len (y.map nn0)=l)(h:QD P Qe ⟨QK f d (.list l),m,ds⟩ K) :
  QD P (⟨some d,.bsl sz len z ps,none⟩ :: Qe) ⟨f,m,ds⟩ K:=by
 subst hc;exact⟨y,hy,h1,h2,h⟩

def K4 (v:V)(i:Nat):List V:=v.list++(v.pairs.take i).flatMap fun p=>[p.1,p.2]
def WI (v:V)(i:Nat):List V:=K4 v v.pairs.length++(v.slots.take i).map (·.2)

theorem U2 (v:V)(i:Nat)(h:i≤v.pairs.length):(K4 v i).length=v.list.length+2*i:=by
 have:∀l:List (V×V),(l.flatMap fun p=>[p.1,p.2]).length=2*l.length:=by
  intro l
  induction l with
  |nil=>rfl
  |cons x l ih=>simp only[QYV,QX4,QXH,QYo,ih];omega
 rw[K4,QX4,this,QYp];omega
theorem DB (v:V)(i:Nat)(h:i≤v.slots.length):(WI v i).length=v.list.length+2*v.pairs.length+i:=by
 rw[WI,QX4,U2 v _ (QXq _),QYn,QYp];omega
theorem Sc {v:V}{i:Nat}{x:V×V}(h:v.pairs[i]? = some x):(K4 v (i+1)).map V.av=(K4 v i).map V.av++[x.1.av,x.2.av]:=by
 unfold K4;rw[QZa,h];simp
theorem Sd {v:V}{i:Nat}{x:Int×V}(h:v.slots[i]? = some x):(WI v (i+1)).map V.av=(WI v i).map V.av++[x.2.av]:=by
 unfold WI;rw[QZa,h];simp
theorem Vq (v:V):WI v v.slots.length=JB v:=by
 unfold WI K4 JB;rw[QY1,QY1]
theorem BU (l:List V):(l.map V.av).all (fun e=>e.cells.length==7)=true:=by
 rw[List.all_map,QXE];intro x _;simp[Qs,AV.cells]

def I1 (v:V)(k:Nat)(st:St):Prop :=
 ∃f fr i g,st=⟨f,[fr],[]⟩∧k=v.pairs.length-i∧i≤v.pairs.length∧f 1=.ptr 0 1 0∧f 3=.vec 0 1000 g 0 (K4 v i).length false∧f 12=.list (v.pairs.map V.pav)∧f 13=.int .i64 (v.pairs.length:Nat)∧f 14=.int .i64 (i:Nat)∧fr 1=.cells (vc v)∧fr 1000=.vec g 7 ((K4 v i).map V.av)∧fr 7=.none∧∀s∈[5],(fr s).isRow=false
def I2 (v:V)(k:Nat)(st:St):Prop :=
 ∃f fr i g,st=⟨f,[fr],[]⟩∧k=v.slots.length-i∧i≤v.slots.length∧f 3=.vec 0 1000 g 0 (WI v i).length false∧f 27=.list (v.slots.map V.sav)∧f 28=.int .i64 (v.slots.length:Nat)∧f 29=.int .i64 (i:Nat)∧fr 1000=.vec g 7 ((WI v i).map V.av)∧∀s∈[7],(fr s).isRow=false

theorem v95 (v:V)(h:v.list.length+2*v.pairs.length+v.slots.length≤1099511627776):Qk Tryz.prog 95 [v.av] (.list ((JB v).map V.av)):=by
 have cl:=fun fr hr=>QRS (v.list.map V.av) fr [] (BU _) (by rw[QYn];omega) hr
 rw[Qs];refine k95.fn (by simp) ?_;simp only[eE,seval];refine Qj (cl _ rfl) (by simp only[QXY,QYt,Qa,seval]) ?_;simp only[QYn,eE,seval];have e0:(K4 v 0).map V.av=v.list.map V.av:=by unfold K4;simp
 have l0:=U2 v 0 (QXA _);refine Qd (I1 v) _ ⟨_,_,0,_,rfl,rfl,QXA _,(by rfl),(by rw[l0];exact(by rfl)),(by rfl),(by rfl),(by rfl),(by rfl),(by rw[e0];exact(by rfl)),rfl,by simp<;>rfl⟩ ?_;rintro _ st ⟨f0,fr0,i,g,rfl,rfl,hil,h10,h30,h120,h130,h140,m10,mR0,n70,r5⟩;refine QJ (a:=_) [5] r5 ?_;intro f fr hf hm hn;have h1:f 1=.ptr 0 1 0:=by rw[hf,h10]<;>rfl
 have h3:f 3=.vec 0 1000 g 0 (K4 v i).length false:=by rw[hf,h30]<;>rfl
 have h12:f 12=.list (v.pairs.map V.pav):=by rw[hf,h120]<;>rfl
 have h13:f 13=.int .i64 (v.pairs.length:Nat):=by rw[hf,h130]<;>rfl
 have h14:f 14=.int .i64 (i:Nat):=by rw[hf,h140]<;>rfl
 have m1:fr 1=.cells (vc v):=by rw[hm 1 (by decide),m10]<;>rfl
 have mR:fr 1000=.vec g 7 ((K4 v i).map V.av):=by rw[hm 1000 (by decide),mR0]<;>rfl
 have n7:fr 7=.none:=by rw[hm 7 (by decide),n70]<;>rfl
 have n5:=hn 5 (by decide);clear hf hm hn h10 h30 h120 h130 h140 m10 mR0 n70 r5 e0 l0;have m1':=m1;simp only[vc]at m1;simp only[h13,h14,Qa,seval];by_cases hlt:i<v.pairs.length
 ·obtain⟨x,hi⟩:∃x,v.pairs[i]? = some x:=⟨v.pairs[i],QXt hlt⟩;have hg:=Z0 hi;have e1:=Ql i _ hlt (by simp only[maxLen];omega);have le:=U2 v i hil;have ln:=U2 v (i+1) hlt;simp only[Qm hlt,Qi,QYT,Qb,hg,n5,h3,h12,h14,eE,seval];refine QP (l:=[x.1.av,x.2.av]) rfl rfl rfl (by rw[Qs,Qs];rfl) ?_;refine QG (site:=1000) (g:=g) (n:=(K4 v i).length) (xs:=(K4 v i).map V.av) (ys:=[x.1.av,x.2.av]) (by rfl) (by exact mR) rfl (by rw[QYn]) rfl (BU [x.1,x.2]) (by simp only[QXH,QYo,maxLen];omega) (by simp only[QXH,QYo];omega) ?_;simp only[h14,e1,Qa,seval];exact⟨v.pairs.length-(i+1),by omega,_,_,i+1,g+1,rfl,rfl,by omega,(by exact h1),(by rw[ln];simp only[le,Qa,seval];rfl),(by exact h12),(by exact h13),(by rfl),(by exact m1'),(by rw[Sc hi];exact(by rfl)),(by exact n7),by simp<;>rfl⟩
 have e:i=v.pairs.length:=by omega
 subst e;simp only[Qw hlt,h1,m1,QYn,eE,seval];have e0:WI v 0=K4 v v.pairs.length:=by unfold WI;simp
 refine Qd (I2 v) _ ⟨_,_,0,g,rfl,rfl,QXA _,(by rw[e0];exact(by exact h3)),(by rfl),(by rfl),(by rfl),(by rw[e0];exact(by exact mR)),by simp only[QYO,QZw,or_false,forall_eq,n7]<;>rfl⟩ ?_;clear h1 h3 h12 h13 h14 m1 m1' mR n5 n7 hil hlt e0 g;rintro _ st ⟨f0,fr0,i,g,rfl,rfl,hil,h30,h270,h280,h290,mR0,r7⟩;refine QJ (a:=_) [7] r7 ?_;intro f fr hf hm hn;have h3:f 3=.vec 0 1000 g 0 (WI v i).length false:=by rw[hf,h30]<;>rfl
 have h27:f 27=.list (v.slots.map V.sav):=by rw[hf,h270]<;>rfl
 have h28:f 28=.int .i64 (v.slots.length:Nat):=by rw[hf,h280]<;>rfl
 have h29:f 29=.int .i64 (i:Nat):=by rw[hf,h290]<;>rfl
 have mR:fr 1000=.vec g 7 ((WI v i).map V.av):=by rw[hm 1000 (by decide),mR0]<;>rfl
 have n7:=hn 7 (by decide);clear hf hm hn h30 h270 h280 h290 mR0 r7;simp only[h28,h29,Qa,seval];by_cases hlt:i<v.slots.length
 ·obtain⟨x,hi⟩:∃x,v.slots[i]? = some x:=⟨v.slots[i],QXt hlt⟩;have hg:=Jv hi;have e1:=Ql i _ hlt (by simp only[maxLen];omega);have le:=DB v i hil;have ln:=DB v (i+1) hlt;simp only[Qm hlt,Qi,QYT,Qb,hg,n7,h3,h27,h29,eE,seval];refine QP (l:=[x.2.av]) rfl rfl rfl (by rw[Qs];rfl) ?_;refine QG (site:=1000) (g:=g) (n:=(WI v i).length) (xs:=(WI v i).map V.av) (ys:=[x.2.av]) (by rfl) (by exact mR) rfl (by rw[QYn]) rfl (BU [x.2]) (by simp only[QXH,QYo,maxLen];omega) (by simp only[QXH,QYo];omega) ?_;simp only[h29,e1,Qa,seval];exact⟨v.slots.length-(i+1),by omega,_,_,i+1,g+1,rfl,rfl,by omega,(by rw[ln];simp only[le,Qa,seval];rfl),(by exact h27),(by exact h28),(by rfl),(by rw[Sd hi];exact(by rfl)),by simp<;>rfl⟩
 have e:i=v.slots.length:=by omega
 subst e;rw[Vq]at h3 mR;simp only[Qw hlt,h3,eE,seval];simp[AV.un,XZ,Xm,mR];rw[QX0 (by rw[QYn];exact QXq _)]

def VcI (v:V)(k:Nat)(st:St):Prop :=
 ∃f fr i,st=⟨f,[fr],[]⟩∧k=(JB v).length-i∧i≤(JB v).length∧f 3=.int .i64 (IntKind.i64.wrap ((1+v.raws.length+Xd ((JB v).take i):Nat):Int))∧f 11=.list ((JB v).map V.av)∧f 12=.int .i64 ((JB v).length:Nat)∧f 13=.int .i64 (i:Nat)∧∀s∈[5],(fr s).isRow=false

theorem QaG {v x:V}(h:x∈JB v):x∈v.list∨(∃p∈v.pairs,x=p.1∨x=p.2)∨∃s∈v.slots,x=s.2:=by
 unfold JB at h;simp only[QYK,QYd,QYO,QZw,or_false,QYM]at h;rcases h with(h|⟨p,hp,h⟩)|⟨s,hs,rfl⟩
 ·exact .inl h
 ·exact .inr (.inl ⟨p,hp,h⟩)
 ·exact .inr (.inr ⟨s,hs,rfl⟩)

theorem v56 (v:V)(hv:Thin v):Qk Tryz.prog 56 [v.av] (.int .i64 (IntKind.i64.wrap (v.cnt:Int))):=by
 revert hv
 refine V.ind (P:=fun v=>Thin v→Qk Tryz.prog 56 [v.av] (.int .i64 (IntKind.i64.wrap (v.cnt:Int)))) ?_ v;clear v;intro v hl hp hs hv;obtain⟨n,t1,t2,t3,t4⟩:=hv;have hall:∀x∈JB v,Qk Tryz.prog 56 [x.av] (.int .i64 (IntKind.i64.wrap (x.cnt:Int))):=by
  intro x hx;rcases QaG hx with h|⟨p,h,rfl|rfl⟩|⟨s,h,rfl⟩
  ·exact hl x h (t1 x h)
  ·exact(hp p h).1 (t2 p h)
  ·exact(hp p h).2 (t3 p h)
  ·exact hs s h (t4 s h)
 have hin:(JB v).length≤maxLen:=by
  rw[←Vq,DB v _ (QXq _)];simp only[maxLen];omega
 have c0:=v95 v n;rw[Qs]at c0;rw[Qs];refine k56.fn (by simp) ?_;simp only[QYn,eE,seval];refine aC c0 ?_;simp only[QYn,Qa,seval];refine Qd (VcI v) _ ⟨_,_,0,rfl,rfl,QXA _,(by simp only[QYA,Xd,QXX,Int.natCast_add,Int.natCast_one,Qa,seval]),(by rfl),(by rfl),(by rfl),by simp<;>rfl⟩ ?_;rintro _ st ⟨f0,fr0,i,rfl,rfl,hil,h30,h110,h120,h130,r5⟩;refine QJ (a:=_) [5] r5 ?_;intro f fr hf hm hn;have h3:f 3=.int .i64 (IntKind.i64.wrap ((1+v.raws.length+Xd ((JB v).take i):Nat):Int)):=by rw[hf,h30]<;>rfl
 have h11:f 11=.list ((JB v).map V.av):=by rw[hf,h110]<;>rfl
 have h12:f 12=.int .i64 ((JB v).length:Nat):=by rw[hf,h120]<;>rfl
 have h13:f 13=.int .i64 (i:Nat):=by rw[hf,h130]<;>rfl
 have n5:=hn 5 (by decide);clear hf hm hn h30 h110 h120 h130 r5;simp only[h12,h13,Qa,seval];by_cases hlt:i<(JB v).length
 ·obtain⟨x,hi⟩:∃x,(JB v)[i]? = some x:=⟨(JB v)[i],QXt hlt⟩;have hg:=WF hi;have e1:=Ql i _ hlt hin;have c1:=hall x (QXF hi);rw[Qs]at c1;simp only[Qm hlt,Qi,QYT,Qb,hg,n5,h3,h11,h13,eE,seval];refine aC c1 ?_;simp only[h13,e1,GM,Qa,seval];exact⟨(JB v).length-(i+1),by omega,_,_,i+1,rfl,rfl,by omega,(by rw[Uz hi];simp only[h3,←Int.natCast_add,QXp,Qa,seval]),(by exact h11),(by exact h12),(by rfl),by simp<;>rfl⟩
 have e:i=(JB v).length:=by omega
 subst e;rw[QY1,←QaF]at h3;simp only[Qw hlt,h3,Qa,seval]

end Go.Proofs.YtipjfckmopekaaaGreatDoor.Va

set_option linter.unusedVariables false
namespace Go.Proofs.YtipjfckmopekaaaGreatDoor.Tg
open Go Am

def TF (z sr ro sm is st:Nat):List Am.Item:=[
  ⟨(some 10),.val (.mov (.c (.int .i64 0))),none⟩]
def TG (z sr ro sm is st:Nat):List Am.Item:=[
  ⟨(some 11),.val (.mov (.t 10)),none⟩,
  ⟨(some 12),.val (.mov (.t 3)),none⟩,
  ⟨(some 13),.val (.bin .num .lss (.t 11) (.t 12)),none⟩]
def TH (z sr ro sm is st:Nat):List Am.Item:=[
  ⟨(some 16),.val (.mov (.t 0)),none⟩,
  ⟨(some 17),.val (.mov (.t 1)),none⟩,
  ⟨(some 18),.val (.mov (.t 10)),none⟩,
  ⟨(some 19),.val (.bin .num .add (.t 17) (.t 18)),none⟩,
  ⟨(some 20),.val (.mov (.t 0)),none⟩,
  ⟨(some 21),.val (.mov (.t 2)),none⟩,
  ⟨(some 22),.val (.mov (.t 10)),none⟩,
  ⟨(some 23),.val (.bin .num .add (.t 21) (.t 22)),none⟩,
  ⟨(some 24),.val (.mov (.t 0)),none⟩,
  ⟨(some 25),.val (.mov (.t 2)),none⟩,
  ⟨(some 26),.val (.mov (.t 10)),none⟩,
  ⟨(some 27),.val (.bin .num .add (.t 25) (.t 26)),none⟩,
  ⟨(some 28),.val (.iaddr z none (.t 24) (.t 27)),none⟩,
  ⟨(some 29),.val (.loadr (some z) (.t 28)),none⟩,
  ⟨(some 30),.val (.mov (.t 0)),none⟩,
  ⟨(some 31),.val (.mov (.t 1)),none⟩,
  ⟨(some 32),.val (.mov (.t 10)),none⟩,
  ⟨(some 33),.val (.bin .num .add (.t 31) (.t 32)),none⟩,
  ⟨(some 34),.val (.iaddr z none (.t 30) (.t 33)),none⟩,
  ⟨(some 35),.val (.loadr (some z) (.t 34)),none⟩,
  ⟨(some 36),.val (.iaddr z none (.t 16) (.t 19)),none⟩,
  ⟨none,.store z (.t 36) (.t 29),none⟩,
  ⟨(some 37),.val (.iaddr z none (.t 20) (.t 23)),none⟩,
  ⟨none,.store z (.t 37) (.t 35),none⟩]
def TI (z sr ro sm is st:Nat):List Am.Item:=[
  ⟨(some 14),.val (.mov (.t 10)),none⟩,
  ⟨(some 15),.val (.bin .num .add (.t 14) (.c (.int .i64 1))),none⟩,
  ⟨(some 10),.val (.mov (.t 15)),none⟩]
def TJ (z sr ro sm is st:Nat):RC:=.seq (.seq (.reg (TG z sr ro sm is st)) (.cond (.t 13) (.skip) (.exit 0))) (.seq (.block 1 (.draw (TH z sr ro sm is st))) (.reg (TI z sr ro sm is st)))
def rsr (z sr ro sm is st:Nat):RC:=.seq (.reg (TF z sr ro sm is st)) (.block 0 (.loop (TJ z sr ro sm is st)))
def osr:List RR:=[]

def TK (z sr ro sm is st:Nat):List Am.Item:=[
  ⟨(some 12),.val (.mov (.t 2)),none⟩,
  ⟨(some 13),.val (.mov (.t 1)),none⟩,
  ⟨(some 14),.val (.bin .num .sub (.t 12) (.t 13)),none⟩,
  ⟨(some 10),.val (.mov (.t 14)),none⟩]
def TL (z sr ro sm is st:Nat):List Am.Item:=[
  ⟨(some 15),.val (.mov (.t 3)),none⟩,
  ⟨(some 16),.val (.mov (.t 2)),none⟩,
  ⟨(some 17),.val (.bin .num .sub (.t 15) (.t 16)),none⟩,
  ⟨(some 11),.val (.mov (.t 17)),none⟩]
def TM (z sr ro sm is st:Nat):List Am.Item:=[
  ⟨(some 18),.val (.mov (.t 10)),none⟩,
  ⟨(some 19),.val (.mov (.t 11)),none⟩,
  ⟨(some 20),.val (.bin .num .neq (.t 18) (.t 19)),none⟩]
def TN (z sr ro sm is st:Nat):List Am.Item:=[
  ⟨(some 21),.val (.mov (.t 10)),none⟩,
  ⟨(some 22),.val (.mov (.t 11)),none⟩,
  ⟨(some 23),.val (.bin .num .gtr (.t 21) (.t 22)),none⟩]
def TO (z sr ro sm is st:Nat):List Am.Item:=[
  ⟨(some 24),.val (.mov (.t 0)),none⟩,
  ⟨(some 25),.val (.mov (.t 2)),none⟩,
  ⟨(some 26),.val (.mov (.t 10)),none⟩,
  ⟨(some 27),.val (.bin .num .sub (.t 25) (.t 26)),none⟩,
  ⟨(some 28),.val (.mov (.t 2)),none⟩,
  ⟨(some 29),.val (.mov (.t 11)),none⟩,
  ⟨(some 30),.val (.mov (.t 4)),none⟩,
  ⟨(some 31),.callF (.f sr) [(.t 24),(.t 27),(.t 28),(.t 29),(.t 30)],none⟩]
def TP (z sr ro sm is st:Nat):List Am.Item:=[
  ⟨(some 32),.val (.mov (.t 10)),none⟩,
  ⟨(some 33),.val (.mov (.t 11)),none⟩,
  ⟨(some 34),.val (.bin .num .sub (.t 32) (.t 33)),none⟩,
  ⟨(some 10),.val (.mov (.t 34)),none⟩]
def TQ (z sr ro sm is st:Nat):List Am.Item:=[
  ⟨(some 35),.val (.mov (.t 0)),none⟩,
  ⟨(some 36),.val (.mov (.t 2)),none⟩,
  ⟨(some 37),.val (.mov (.t 10)),none⟩,
  ⟨(some 38),.val (.bin .num .sub (.t 36) (.t 37)),none⟩,
  ⟨(some 39),.val (.mov (.t 2)),none⟩,
  ⟨(some 40),.val (.mov (.t 11)),none⟩,
  ⟨(some 41),.val (.bin .num .add (.t 39) (.t 40)),none⟩,
  ⟨(some 42),.val (.mov (.t 10)),none⟩,
  ⟨(some 43),.val (.bin .num .sub (.t 41) (.t 42)),none⟩,
  ⟨(some 44),.val (.mov (.t 10)),none⟩,
  ⟨(some 45),.val (.mov (.t 4)),none⟩,
  ⟨(some 46),.callF (.f sr) [(.t 35),(.t 38),(.t 43),(.t 44),(.t 45)],none⟩]
def TR (z sr ro sm is st:Nat):List Am.Item:=[
  ⟨(some 47),.val (.mov (.t 11)),none⟩,
  ⟨(some 48),.val (.mov (.t 10)),none⟩,
  ⟨(some 49),.val (.bin .num .sub (.t 47) (.t 48)),none⟩,
  ⟨(some 11),.val (.mov (.t 49)),none⟩]
def TS (z sr ro sm is st:Nat):RC:=.seq (.seq (.reg (TM z sr ro sm is st)) (.cond (.t 20) (.skip) (.exit 0))) (.block 1 (.seq (.reg (TN z sr ro sm is st)) (.cond (.t 23) (.seq (.reg (TO z sr ro sm is st)) (.reg (TP z sr ro sm is st))) (.seq (.reg (TQ z sr ro sm is st)) (.reg (TR z sr ro sm is st))))))
def TT (z sr ro sm is st:Nat):List Am.Item:=[
  ⟨(some 50),.val (.mov (.t 0)),none⟩,
  ⟨(some 51),.val (.mov (.t 2)),none⟩,
  ⟨(some 52),.val (.mov (.t 10)),none⟩,
  ⟨(some 53),.val (.bin .num .sub (.t 51) (.t 52)),none⟩,
  ⟨(some 54),.val (.mov (.t 2)),none⟩,
  ⟨(some 55),.val (.mov (.t 10)),none⟩,
  ⟨(some 56),.val (.mov (.t 4)),none⟩,
  ⟨(some 57),.callF (.f sr) [(.t 50),(.t 53),(.t 54),(.t 55),(.t 56)],none⟩]
def rro (z sr ro sm is st:Nat):RC:=.seq (.reg (TK z sr ro sm is st)) (.seq (.reg (TL z sr ro sm is st)) (.seq (.block 0 (.loop (TS z sr ro sm is st))) (.reg (TT z sr ro sm is st))))
def oro:List RR:=[]

def Ft (z sr ro sm is st:Nat):List Am.Item:=[
  ⟨(some 25),.val (.mov (.t 2)),none⟩,
  ⟨(some 26),.val (.mov (.t 1)),none⟩,
  ⟨(some 27),.val (.bin .num .sub (.t 25) (.t 26)),none⟩,
  ⟨(some 28),.val (.bin .num .eql (.t 27) (.c (.int .i64 1))),none⟩]
def CB (z sr ro sm is st:Nat):List Am.Item:=[
  ⟨(some 29),.val (.mov (.t 2)),none⟩,
  ⟨(some 10),.val (.mov (.t 29)),none⟩]
def CC (z sr ro sm is st:Nat):List Am.Item:=[
  ⟨(some 30),.val (.mov (.t 3)),none⟩,
  ⟨(some 11),.val (.mov (.t 30)),none⟩]
def TU (z sr ro sm is st:Nat):List Am.Item:=[
  ⟨(some 31),.val (.mov (.t 10)),none⟩,
  ⟨(some 32),.val (.mov (.t 11)),none⟩,
  ⟨(some 33),.val (.bin .num .lss (.t 31) (.t 32)),none⟩]
def TV (z sr ro sm is st:Nat):List Am.Item:=[
  ⟨(some 34),.val (.mov (.t 10)),none⟩,
  ⟨(some 35),.val (.mov (.t 11)),none⟩,
  ⟨(some 36),.val (.bin .num .add (.t 34) (.t 35)),none⟩,
  ⟨(some 37),.val (.cvi .u64 (.t 36)),none⟩,
  ⟨(some 38),.val (.bin .num .shr (.t 37) (.c (.int .u64 1))),none⟩,
  ⟨(some 39),.val (.cvi .i64 (.t 38)),none⟩,
  ⟨(some 12),.val (.mov (.t 39)),none⟩]
def TW (z sr ro sm is st:Nat):List Am.Item:=[
  ⟨(some 40),.val (.mov (.t 4)),none⟩,
  ⟨(some 41),.val (.mov (.t 0)),none⟩,
  ⟨(some 42),.val (.mov (.t 12)),none⟩,
  ⟨(some 43),.val (.iaddr z none (.t 41) (.t 42)),none⟩,
  ⟨(some 44),.val (.loadr (some z) (.t 43)),none⟩,
  ⟨(some 45),.val (.mov (.t 0)),none⟩,
  ⟨(some 46),.val (.mov (.t 1)),none⟩,
  ⟨(some 47),.val (.iaddr z none (.t 45) (.t 46)),none⟩,
  ⟨(some 48),.val (.loadr (some z) (.t 47)),none⟩,
  ⟨(some 49),.call (.t 40) [(.t 44),(.t 48)],none⟩,
  ⟨(some 50),.val (.bin .num .lss (.t 49) (.c (.int .i64 0))),none⟩]
def TX (z sr ro sm is st:Nat):List Am.Item:=[
  ⟨(some 51),.val (.mov (.t 12)),none⟩,
  ⟨(some 52),.val (.bin .num .add (.t 51) (.c (.int .i64 1))),none⟩,
  ⟨(some 10),.val (.mov (.t 52)),none⟩]
def TY (z sr ro sm is st:Nat):List Am.Item:=[
  ⟨(some 53),.val (.mov (.t 12)),none⟩,
  ⟨(some 11),.val (.mov (.t 53)),none⟩]
def TZ (z sr ro sm is st:Nat):RC:=.seq (.seq (.reg (TU z sr ro sm is st)) (.cond (.t 33) (.skip) (.exit 0))) (.block 1 (.seq (.reg (TV z sr ro sm is st)) (.seq (.draw (TW z sr ro sm is st)) (.cond (.t 50) (.reg (TX z sr ro sm is st)) (.reg (TY z sr ro sm is st))))))
def CD (z sr ro sm is st:Nat):List Am.Item:=[
  ⟨(some 54),.val (.mov (.t 1)),none⟩,
  ⟨(some 13),.val (.mov (.t 54)),none⟩]
def T0 (z sr ro sm is st:Nat):List Am.Item:=[
  ⟨(some 55),.val (.mov (.t 13)),none⟩,
  ⟨(some 56),.val (.mov (.t 10)),none⟩,
  ⟨(some 57),.val (.bin .num .sub (.t 56) (.c (.int .i64 1))),none⟩,
  ⟨(some 58),.val (.bin .num .lss (.t 55) (.t 57)),none⟩]
def PK (z sr ro sm is st:Nat):List Am.Item:=[
  ⟨(some 61),.val (.mov (.t 0)),none⟩,
  ⟨(some 62),.val (.mov (.t 13)),none⟩,
  ⟨(some 63),.val (.mov (.t 0)),none⟩,
  ⟨(some 64),.val (.mov (.t 13)),none⟩,
  ⟨(some 65),.val (.bin .num .add (.t 64) (.c (.int .i64 1))),none⟩,
  ⟨(some 66),.val (.mov (.t 0)),none⟩,
  ⟨(some 67),.val (.mov (.t 13)),none⟩,
  ⟨(some 68),.val (.bin .num .add (.t 67) (.c (.int .i64 1))),none⟩,
  ⟨(some 69),.val (.iaddr z none (.t 66) (.t 68)),none⟩,
  ⟨(some 70),.val (.loadr (some z) (.t 69)),none⟩,
  ⟨(some 71),.val (.mov (.t 0)),none⟩,
  ⟨(some 72),.val (.mov (.t 13)),none⟩,
  ⟨(some 73),.val (.iaddr z none (.t 71) (.t 72)),none⟩,
  ⟨(some 74),.val (.loadr (some z) (.t 73)),none⟩,
  ⟨(some 75),.val (.iaddr z none (.t 61) (.t 62)),none⟩,
  ⟨none,.store z (.t 75) (.t 70),none⟩,
  ⟨(some 76),.val (.iaddr z none (.t 63) (.t 65)),none⟩,
  ⟨none,.store z (.t 76) (.t 74),none⟩]
def PM (z sr ro sm is st:Nat):List Am.Item:=[
  ⟨(some 59),.val (.mov (.t 13)),none⟩,
  ⟨(some 60),.val (.bin .num .add (.t 59) (.c (.int .i64 1))),none⟩,
  ⟨(some 13),.val (.mov (.t 60)),none⟩]
def T1 (z sr ro sm is st:Nat):RC:=.seq (.seq (.reg (T0 z sr ro sm is st)) (.cond (.t 58) (.skip) (.exit 2))) (.seq (.block 3 (.draw (PK z sr ro sm is st))) (.reg (PM z sr ro sm is st)))
def GN (z sr ro sm is st:Nat):List Am.Item:=[
  ⟨(some 77),.val (.mov (.t 3)),none⟩,
  ⟨(some 78),.val (.mov (.t 2)),none⟩,
  ⟨(some 79),.val (.bin .num .sub (.t 77) (.t 78)),none⟩,
  ⟨(some 80),.val (.bin .num .eql (.t 79) (.c (.int .i64 1))),none⟩]
def BW (z sr ro sm is st:Nat):List Am.Item:=[
  ⟨(some 81),.val (.mov (.t 1)),none⟩,
  ⟨(some 14),.val (.mov (.t 81)),none⟩]
def BX (z sr ro sm is st:Nat):List Am.Item:=[
  ⟨(some 82),.val (.mov (.t 2)),none⟩,
  ⟨(some 15),.val (.mov (.t 82)),none⟩]
def BY (z sr ro sm is st:Nat):List Am.Item:=[
  ⟨(some 83),.val (.mov (.t 14)),none⟩,
  ⟨(some 84),.val (.mov (.t 15)),none⟩,
  ⟨(some 85),.val (.bin .num .lss (.t 83) (.t 84)),none⟩]
def BZ (z sr ro sm is st:Nat):List Am.Item:=[
  ⟨(some 86),.val (.mov (.t 14)),none⟩,
  ⟨(some 87),.val (.mov (.t 15)),none⟩,
  ⟨(some 88),.val (.bin .num .add (.t 86) (.t 87)),none⟩,
  ⟨(some 89),.val (.cvi .u64 (.t 88)),none⟩,
  ⟨(some 90),.val (.bin .num .shr (.t 89) (.c (.int .u64 1))),none⟩,
  ⟨(some 91),.val (.cvi .i64 (.t 90)),none⟩,
  ⟨(some 16),.val (.mov (.t 91)),none⟩]
def B0 (z sr ro sm is st:Nat):List Am.Item:=[
  ⟨(some 92),.val (.mov (.t 4)),none⟩,
  ⟨(some 93),.val (.mov (.t 0)),none⟩,
  ⟨(some 94),.val (.mov (.t 2)),none⟩,
  ⟨(some 95),.val (.iaddr z none (.t 93) (.t 94)),none⟩,
  ⟨(some 96),.val (.loadr (some z) (.t 95)),none⟩,
  ⟨(some 97),.val (.mov (.t 0)),none⟩,
  ⟨(some 98),.val (.mov (.t 16)),none⟩,
  ⟨(some 99),.val (.iaddr z none (.t 97) (.t 98)),none⟩,
  ⟨(some 100),.val (.loadr (some z) (.t 99)),none⟩,
  ⟨(some 101),.call (.t 92) [(.t 96),(.t 100)],none⟩,
  ⟨(some 102),.val (.bin .num .lss (.t 101) (.c (.int .i64 0))),none⟩,
  ⟨(some 103),.val (.un .not (.t 102)),none⟩]
def B1 (z sr ro sm is st:Nat):List Am.Item:=[
  ⟨(some 104),.val (.mov (.t 16)),none⟩,
  ⟨(some 105),.val (.bin .num .add (.t 104) (.c (.int .i64 1))),none⟩,
  ⟨(some 14),.val (.mov (.t 105)),none⟩]
def B4 (z sr ro sm is st:Nat):List Am.Item:=[
  ⟨(some 106),.val (.mov (.t 16)),none⟩,
  ⟨(some 15),.val (.mov (.t 106)),none⟩]
def CE (z sr ro sm is st:Nat):RC:=.seq (.seq (.reg (BY z sr ro sm is st)) (.cond (.t 85) (.skip) (.exit 4))) (.block 5 (.seq (.reg (BZ z sr ro sm is st)) (.seq (.draw (B0 z sr ro sm is st)) (.cond (.t 103) (.reg (B1 z sr ro sm is st)) (.reg (B4 z sr ro sm is st))))))
def B5 (z sr ro sm is st:Nat):List Am.Item:=[
  ⟨(some 107),.val (.mov (.t 2)),none⟩,
  ⟨(some 17),.val (.mov (.t 107)),none⟩]
def B6 (z sr ro sm is st:Nat):List Am.Item:=[
  ⟨(some 108),.val (.mov (.t 17)),none⟩,
  ⟨(some 109),.val (.mov (.t 14)),none⟩,
  ⟨(some 110),.val (.bin .num .gtr (.t 108) (.t 109)),none⟩]
def B7 (z sr ro sm is st:Nat):List Am.Item:=[
  ⟨(some 113),.val (.mov (.t 0)),none⟩,
  ⟨(some 114),.val (.mov (.t 17)),none⟩,
  ⟨(some 115),.val (.mov (.t 0)),none⟩,
  ⟨(some 116),.val (.mov (.t 17)),none⟩,
  ⟨(some 117),.val (.bin .num .sub (.t 116) (.c (.int .i64 1))),none⟩,
  ⟨(some 118),.val (.mov (.t 0)),none⟩,
  ⟨(some 119),.val (.mov (.t 17)),none⟩,
  ⟨(some 120),.val (.bin .num .sub (.t 119) (.c (.int .i64 1))),none⟩,
  ⟨(some 121),.val (.iaddr z none (.t 118) (.t 120)),none⟩,
  ⟨(some 122),.val (.loadr (some z) (.t 121)),none⟩,
  ⟨(some 123),.val (.mov (.t 0)),none⟩,
  ⟨(some 124),.val (.mov (.t 17)),none⟩,
  ⟨(some 125),.val (.iaddr z none (.t 123) (.t 124)),none⟩,
  ⟨(some 126),.val (.loadr (some z) (.t 125)),none⟩,
  ⟨(some 127),.val (.iaddr z none (.t 113) (.t 114)),none⟩,
  ⟨none,.store z (.t 127) (.t 122),none⟩,
  ⟨(some 128),.val (.iaddr z none (.t 115) (.t 117)),none⟩,
  ⟨none,.store z (.t 128) (.t 126),none⟩]
def B8 (z sr ro sm is st:Nat):List Am.Item:=[
  ⟨(some 111),.val (.mov (.t 17)),none⟩,
  ⟨(some 112),.val (.bin .num .sub (.t 111) (.c (.int .i64 1))),none⟩,
  ⟨(some 17),.val (.mov (.t 112)),none⟩]
def CF (z sr ro sm is st:Nat):RC:=.seq (.seq (.reg (B6 z sr ro sm is st)) (.cond (.t 110) (.skip) (.exit 6))) (.seq (.block 7 (.draw (B7 z sr ro sm is st))) (.reg (B8 z sr ro sm is st)))
def GP (z sr ro sm is st:Nat):List Am.Item:=[
  ⟨(some 129),.val (.mov (.t 1)),none⟩,
  ⟨(some 130),.val (.mov (.t 3)),none⟩,
  ⟨(some 131),.val (.bin .num .add (.t 129) (.t 130)),none⟩,
  ⟨(some 132),.val (.cvi .u64 (.t 131)),none⟩,
  ⟨(some 133),.val (.bin .num .shr (.t 132) (.c (.int .u64 1))),none⟩,
  ⟨(some 134),.val (.cvi .i64 (.t 133)),none⟩,
  ⟨(some 18),.val (.mov (.t 134)),none⟩]
def GQ (z sr ro sm is st:Nat):List Am.Item:=[
  ⟨(some 135),.val (.mov (.t 18)),none⟩,
  ⟨(some 136),.val (.mov (.t 2)),none⟩,
  ⟨(some 137),.val (.bin .num .add (.t 135) (.t 136)),none⟩,
  ⟨(some 19),.val (.mov (.t 137)),none⟩]
def GR (z sr ro sm is st:Nat):List Am.Item:=[
  ⟨(some 20),.val (.mov (.c (.int .i64 0))),none⟩,
  ⟨(some 21),.val (.mov (.c (.int .i64 0))),none⟩]
def GS (z sr ro sm is st:Nat):List Am.Item:=[
  ⟨(some 138),.val (.mov (.t 2)),none⟩,
  ⟨(some 139),.val (.mov (.t 18)),none⟩,
  ⟨(some 140),.val (.bin .num .gtr (.t 138) (.t 139)),none⟩]
def GT (z sr ro sm is st:Nat):List Am.Item:=[
  ⟨(some 141),.val (.mov (.t 19)),none⟩,
  ⟨(some 142),.val (.mov (.t 3)),none⟩,
  ⟨(some 143),.val (.bin .num .sub (.t 141) (.t 142)),none⟩,
  ⟨(some 20),.val (.mov (.t 143)),none⟩]
def GU (z sr ro sm is st:Nat):List Am.Item:=[
  ⟨(some 144),.val (.mov (.t 18)),none⟩,
  ⟨(some 21),.val (.mov (.t 144)),none⟩]
def GV (z sr ro sm is st:Nat):List Am.Item:=[
  ⟨(some 145),.val (.mov (.t 1)),none⟩,
  ⟨(some 20),.val (.mov (.t 145)),none⟩]
def GW (z sr ro sm is st:Nat):List Am.Item:=[
  ⟨(some 146),.val (.mov (.t 2)),none⟩,
  ⟨(some 21),.val (.mov (.t 146)),none⟩]
def GX (z sr ro sm is st:Nat):List Am.Item:=[
  ⟨(some 147),.val (.mov (.t 19)),none⟩,
  ⟨(some 148),.val (.bin .num .sub (.t 147) (.c (.int .i64 1))),none⟩,
  ⟨(some 22),.val (.mov (.t 148)),none⟩]
def GY (z sr ro sm is st:Nat):List Am.Item:=[
  ⟨(some 149),.val (.mov (.t 20)),none⟩,
  ⟨(some 150),.val (.mov (.t 21)),none⟩,
  ⟨(some 151),.val (.bin .num .lss (.t 149) (.t 150)),none⟩]
def GZ (z sr ro sm is st:Nat):List Am.Item:=[
  ⟨(some 152),.val (.mov (.t 20)),none⟩,
  ⟨(some 153),.val (.mov (.t 21)),none⟩,
  ⟨(some 154),.val (.bin .num .add (.t 152) (.t 153)),none⟩,
  ⟨(some 155),.val (.cvi .u64 (.t 154)),none⟩,
  ⟨(some 156),.val (.bin .num .shr (.t 155) (.c (.int .u64 1))),none⟩,
  ⟨(some 157),.val (.cvi .i64 (.t 156)),none⟩,
  ⟨(some 23),.val (.mov (.t 157)),none⟩]
def G0 (z sr ro sm is st:Nat):List Am.Item:=[
  ⟨(some 158),.val (.mov (.t 4)),none⟩,
  ⟨(some 159),.val (.mov (.t 0)),none⟩,
  ⟨(some 160),.val (.mov (.t 22)),none⟩,
  ⟨(some 161),.val (.mov (.t 23)),none⟩,
  ⟨(some 162),.val (.bin .num .sub (.t 160) (.t 161)),none⟩,
  ⟨(some 163),.val (.iaddr z none (.t 159) (.t 162)),none⟩,
  ⟨(some 164),.val (.loadr (some z) (.t 163)),none⟩,
  ⟨(some 165),.val (.mov (.t 0)),none⟩,
  ⟨(some 166),.val (.mov (.t 23)),none⟩,
  ⟨(some 167),.val (.iaddr z none (.t 165) (.t 166)),none⟩,
  ⟨(some 168),.val (.loadr (some z) (.t 167)),none⟩,
  ⟨(some 169),.call (.t 158) [(.t 164),(.t 168)],none⟩,
  ⟨(some 170),.val (.bin .num .lss (.t 169) (.c (.int .i64 0))),none⟩,
  ⟨(some 171),.val (.un .not (.t 170)),none⟩]
def G3 (z sr ro sm is st:Nat):List Am.Item:=[
  ⟨(some 172),.val (.mov (.t 23)),none⟩,
  ⟨(some 173),.val (.bin .num .add (.t 172) (.c (.int .i64 1))),none⟩,
  ⟨(some 20),.val (.mov (.t 173)),none⟩]
def G4 (z sr ro sm is st:Nat):List Am.Item:=[
  ⟨(some 174),.val (.mov (.t 23)),none⟩,
  ⟨(some 21),.val (.mov (.t 174)),none⟩]
def G5 (z sr ro sm is st:Nat):RC:=.seq (.seq (.reg (GY z sr ro sm is st)) (.cond (.t 151) (.skip) (.exit 8))) (.block 9 (.seq (.reg (GZ z sr ro sm is st)) (.seq (.draw (G0 z sr ro sm is st)) (.cond (.t 171) (.reg (G3 z sr ro sm is st)) (.reg (G4 z sr ro sm is st))))))
def Yq (z sr ro sm is st:Nat):List Am.Item:=[
  ⟨(some 175),.val (.mov (.t 19)),none⟩,
  ⟨(some 176),.val (.mov (.t 20)),none⟩,
  ⟨(some 177),.val (.bin .num .sub (.t 175) (.t 176)),none⟩,
  ⟨(some 24),.val (.mov (.t 177)),none⟩]
def Yr (z sr ro sm is st:Nat):List Am.Item:=[
  ⟨(some 178),.val (.mov (.t 20)),none⟩,
  ⟨(some 179),.val (.mov (.t 2)),none⟩,
  ⟨(some 180),.val (.bin .num .lss (.t 178) (.t 179)),none⟩,
  ⟨(some 181),.val (.mov (.t 180)),none⟩,
  ⟨(some 182),.val (.mov (.t 2)),(some (181,true))⟩,
  ⟨(some 183),.val (.mov (.t 24)),(some (181,true))⟩,
  ⟨(some 184),.val (.bin .num .lss (.t 182) (.t 183)),(some (181,true))⟩,
  ⟨(some 185),.val (.pick (.t 181) (.t 184) (.c (.bool false))),none⟩]
def Ys (z sr ro sm is st:Nat):List Am.Item:=[
  ⟨(some 186),.val (.mov (.t 0)),none⟩,
  ⟨(some 187),.val (.mov (.t 20)),none⟩,
  ⟨(some 188),.val (.mov (.t 2)),none⟩,
  ⟨(some 189),.val (.mov (.t 24)),none⟩,
  ⟨(some 190),.val (.mov (.t 4)),none⟩,
  ⟨(some 191),.callF (.f ro) [(.t 186),(.t 187),(.t 188),(.t 189),(.t 190)],none⟩]
def WJ (z sr ro sm is st:Nat):List Am.Item:=[
  ⟨(some 192),.val (.mov (.t 1)),none⟩,
  ⟨(some 193),.val (.mov (.t 20)),none⟩,
  ⟨(some 194),.val (.bin .num .lss (.t 192) (.t 193)),none⟩,
  ⟨(some 195),.val (.mov (.t 194)),none⟩,
  ⟨(some 196),.val (.mov (.t 20)),(some (195,true))⟩,
  ⟨(some 197),.val (.mov (.t 18)),(some (195,true))⟩,
  ⟨(some 198),.val (.bin .num .lss (.t 196) (.t 197)),(some (195,true))⟩,
  ⟨(some 199),.val (.pick (.t 195) (.t 198) (.c (.bool false))),none⟩]
def WK (z sr ro sm is st:Nat):List Am.Item:=[
  ⟨(some 200),.val (.mov (.t 0)),none⟩,
  ⟨(some 201),.val (.mov (.t 1)),none⟩,
  ⟨(some 202),.val (.mov (.t 20)),none⟩,
  ⟨(some 203),.val (.mov (.t 18)),none⟩,
  ⟨(some 204),.val (.mov (.t 4)),none⟩,
  ⟨(some 205),.callF (.f sm) [(.t 200),(.t 201),(.t 202),(.t 203),(.t 204)],none⟩]
def Kh (z sr ro sm is st:Nat):List Am.Item:=[
  ⟨(some 206),.val (.mov (.t 18)),none⟩,
  ⟨(some 207),.val (.mov (.t 24)),none⟩,
  ⟨(some 208),.val (.bin .num .lss (.t 206) (.t 207)),none⟩,
  ⟨(some 209),.val (.mov (.t 208)),none⟩,
  ⟨(some 210),.val (.mov (.t 24)),(some (209,true))⟩,
  ⟨(some 211),.val (.mov (.t 3)),(some (209,true))⟩,
  ⟨(some 212),.val (.bin .num .lss (.t 210) (.t 211)),(some (209,true))⟩,
  ⟨(some 213),.val (.pick (.t 209) (.t 212) (.c (.bool false))),none⟩]
def Ki (z sr ro sm is st:Nat):List Am.Item:=[
  ⟨(some 214),.val (.mov (.t 0)),none⟩,
  ⟨(some 215),.val (.mov (.t 18)),none⟩,
  ⟨(some 216),.val (.mov (.t 24)),none⟩,
  ⟨(some 217),.val (.mov (.t 3)),none⟩,
  ⟨(some 218),.val (.mov (.t 4)),none⟩,
  ⟨(some 219),.callF (.f sm) [(.t 214),(.t 215),(.t 216),(.t 217),(.t 218)],none⟩]
def T2 (z sr ro sm is st:Nat):RC:=.seq (.seq (.reg (Ft z sr ro sm is st)) (.cond (.t 28) (.seq (.reg (CB z sr ro sm is st)) (.seq (.reg (CC z sr ro sm is st)) (.seq (.block 0 (.loop (TZ z sr ro sm is st))) (.seq (.seq (.reg (CD z sr ro sm is st)) (.block 2 (.loop (T1 z sr ro sm is st)))) (.ret))))) (.skip))) (.seq (.seq (.reg (GN z sr ro sm is st)) (.cond (.t 80) (.seq (.reg (BW z sr ro sm is st)) (.seq (.reg (BX z sr ro sm is st)) (.seq (.block 4 (.loop (CE z sr ro sm is st))) (.seq (.seq (.reg (B5 z sr ro sm is st)) (.block 6 (.loop (CF z sr ro sm is st)))) (.ret))))) (.skip))) (.seq (.reg (GP z sr ro sm is st)) (.seq (.reg (GQ z sr ro sm is st)) (.seq (.reg (GR z sr ro sm is st)) (.seq (.seq (.reg (GS z sr ro sm is st)) (.cond (.t 140) (.seq (.reg (GT z sr ro sm is st)) (.reg (GU z sr ro sm is st))) (.seq (.reg (GV z sr ro sm is st)) (.reg (GW z sr ro sm is st))))) (.seq (.reg (GX z sr ro sm is st)) (.seq (.block 8 (.loop (G5 z sr ro sm is st))) (.seq (.reg (Yq z sr ro sm is st)) (.seq (.seq (.reg (Yr z sr ro sm is st)) (.cond (.t 185) (.reg (Ys z sr ro sm is st)) (.skip))) (.seq (.seq (.reg (WJ z sr ro sm is st)) (.cond (.t 199) (.reg (WK z sr ro sm is st)) (.skip))) (.seq (.reg (Kh z sr ro sm is st)) (.cond (.t 213) (.reg (Ki z sr ro sm is st)) (.skip)))))))))))))
def G6:List RR:=[]

def T3 (z sr ro sm is st:Nat):List Am.Item:=[
  ⟨(some 10),.val (.mov (.t 1)),none⟩,
  ⟨(some 11),.val (.bin .num .add (.t 10) (.c (.int .i64 1))),none⟩,
  ⟨(some 8),.val (.mov (.t 11)),none⟩]
def T4 (z sr ro sm is st:Nat):List Am.Item:=[
  ⟨(some 12),.val (.mov (.t 8)),none⟩,
  ⟨(some 13),.val (.mov (.t 2)),none⟩,
  ⟨(some 14),.val (.bin .num .lss (.t 12) (.t 13)),none⟩]
def T5 (z sr ro sm is st:Nat):List Am.Item:=[
  ⟨(some 17),.val (.mov (.t 8)),none⟩,
  ⟨(some 9),.val (.mov (.t 17)),none⟩]
def T6 (z sr ro sm is st:Nat):List Am.Item:=[
  ⟨(some 18),.val (.mov (.t 9)),none⟩,
  ⟨(some 19),.val (.mov (.t 1)),none⟩,
  ⟨(some 20),.val (.bin .num .gtr (.t 18) (.t 19)),none⟩,
  ⟨(some 21),.val (.mov (.t 20)),none⟩,
  ⟨(some 22),.val (.mov (.t 3)),(some (21,true))⟩,
  ⟨(some 23),.val (.mov (.t 0)),(some (21,true))⟩,
  ⟨(some 24),.val (.mov (.t 9)),(some (21,true))⟩,
  ⟨(some 25),.val (.iaddr z none (.t 23) (.t 24)),(some (21,true))⟩,
  ⟨(some 26),.val (.loadr (some z) (.t 25)),(some (21,true))⟩,
  ⟨(some 27),.val (.mov (.t 0)),(some (21,true))⟩,
  ⟨(some 28),.val (.mov (.t 9)),(some (21,true))⟩,
  ⟨(some 29),.val (.bin .num .sub (.t 28) (.c (.int .i64 1))),(some (21,true))⟩,
  ⟨(some 30),.val (.iaddr z none (.t 27) (.t 29)),(some (21,true))⟩,
  ⟨(some 31),.val (.loadr (some z) (.t 30)),(some (21,true))⟩,
  ⟨(some 32),.call (.t 22) [(.t 26),(.t 31)],(some (21,true))⟩,
  ⟨(some 33),.val (.bin .num .lss (.t 32) (.c (.int .i64 0))),(some (21,true))⟩,
  ⟨(some 34),.val (.pick (.t 21) (.t 33) (.c (.bool false))),none⟩]
def T7 (z sr ro sm is st:Nat):List Am.Item:=[
  ⟨(some 37),.val (.mov (.t 0)),none⟩,
  ⟨(some 38),.val (.mov (.t 9)),none⟩,
  ⟨(some 39),.val (.mov (.t 0)),none⟩,
  ⟨(some 40),.val (.mov (.t 9)),none⟩,
  ⟨(some 41),.val (.bin .num .sub (.t 40) (.c (.int .i64 1))),none⟩,
  ⟨(some 42),.val (.mov (.t 0)),none⟩,
  ⟨(some 43),.val (.mov (.t 9)),none⟩,
  ⟨(some 44),.val (.bin .num .sub (.t 43) (.c (.int .i64 1))),none⟩,
  ⟨(some 45),.val (.iaddr z none (.t 42) (.t 44)),none⟩,
  ⟨(some 46),.val (.loadr (some z) (.t 45)),none⟩,
  ⟨(some 47),.val (.mov (.t 0)),none⟩,
  ⟨(some 48),.val (.mov (.t 9)),none⟩,
  ⟨(some 49),.val (.iaddr z none (.t 47) (.t 48)),none⟩,
  ⟨(some 50),.val (.loadr (some z) (.t 49)),none⟩,
  ⟨(some 51),.val (.iaddr z none (.t 37) (.t 38)),none⟩,
  ⟨none,.store z (.t 51) (.t 46),none⟩,
  ⟨(some 52),.val (.iaddr z none (.t 39) (.t 41)),none⟩,
  ⟨none,.store z (.t 52) (.t 50),none⟩]
def T8 (z sr ro sm is st:Nat):List Am.Item:=[
  ⟨(some 35),.val (.mov (.t 9)),none⟩,
  ⟨(some 36),.val (.bin .num .sub (.t 35) (.c (.int .i64 1))),none⟩,
  ⟨(some 9),.val (.mov (.t 36)),none⟩]
def T9 (z sr ro sm is st:Nat):RC:=.seq (.seq (.draw (T6 z sr ro sm is st)) (.cond (.t 34) (.skip) (.exit 2))) (.seq (.block 3 (.draw (T7 z sr ro sm is st))) (.reg (T8 z sr ro sm is st)))
def Aa (z sr ro sm is st:Nat):List Am.Item:=[
  ⟨(some 15),.val (.mov (.t 8)),none⟩,
  ⟨(some 16),.val (.bin .num .add (.t 15) (.c (.int .i64 1))),none⟩,
  ⟨(some 8),.val (.mov (.t 16)),none⟩]
def Ab (z sr ro sm is st:Nat):RC:=.seq (.seq (.reg (T4 z sr ro sm is st)) (.cond (.t 14) (.skip) (.exit 0))) (.seq (.block 1 (.seq (.reg (T5 z sr ro sm is st)) (.block 2 (.loop (T9 z sr ro sm is st))))) (.reg (Aa z sr ro sm is st)))
def ris (z sr ro sm is st:Nat):RC:=.seq (.reg (T3 z sr ro sm is st)) (.block 0 (.loop (Ab z sr ro sm is st)))
def ois:List RR:=[]

def Ac (z sr ro sm is st:Nat):List Am.Item:=[
  ⟨(some 6),.val (.mov (.c (.int .i64 20))),none⟩]
def Ad (z sr ro sm is st:Nat):List Am.Item:=[
  ⟨(some 10),.val (.mov (.t 6)),none⟩,
  ⟨(some 7),.val (.mov (.c (.int .i64 0))),none⟩,
  ⟨(some 8),.val (.mov (.t 10)),none⟩]
def Ae (z sr ro sm is st:Nat):List Am.Item:=[
  ⟨(some 11),.val (.mov (.t 8)),none⟩,
  ⟨(some 12),.val (.mov (.t 1)),none⟩,
  ⟨(some 13),.val (.bin .num .leq (.t 11) (.t 12)),none⟩]
def Af (z sr ro sm is st:Nat):List Am.Item:=[
  ⟨(some 14),.val (.mov (.t 0)),none⟩,
  ⟨(some 15),.val (.mov (.t 7)),none⟩,
  ⟨(some 16),.val (.mov (.t 8)),none⟩,
  ⟨(some 17),.val (.mov (.t 2)),none⟩,
  ⟨(some 18),.callF (.f is) [(.t 14),(.t 15),(.t 16),(.t 17)],none⟩]
def Ag (z sr ro sm is st:Nat):List Am.Item:=[
  ⟨(some 19),.val (.mov (.t 8)),none⟩,
  ⟨(some 7),.val (.mov (.t 19)),none⟩]
def Ah (z sr ro sm is st:Nat):List Am.Item:=[
  ⟨(some 20),.val (.mov (.t 8)),none⟩,
  ⟨(some 21),.val (.mov (.t 6)),none⟩,
  ⟨(some 22),.val (.bin .num .add (.t 20) (.t 21)),none⟩,
  ⟨(some 8),.val (.mov (.t 22)),none⟩]
def Ai (z sr ro sm is st:Nat):RC:=.seq (.seq (.reg (Ae z sr ro sm is st)) (.cond (.t 13) (.skip) (.exit 0))) (.block 1 (.seq (.reg (Af z sr ro sm is st)) (.seq (.reg (Ag z sr ro sm is st)) (.reg (Ah z sr ro sm is st)))))
def Aj (z sr ro sm is st:Nat):List Am.Item:=[
  ⟨(some 23),.val (.mov (.t 0)),none⟩,
  ⟨(some 24),.val (.mov (.t 7)),none⟩,
  ⟨(some 25),.val (.mov (.t 1)),none⟩,
  ⟨(some 26),.val (.mov (.t 2)),none⟩,
  ⟨(some 27),.callF (.f is) [(.t 23),(.t 24),(.t 25),(.t 26)],none⟩]
def Ak (z sr ro sm is st:Nat):List Am.Item:=[
  ⟨(some 28),.val (.mov (.t 6)),none⟩,
  ⟨(some 29),.val (.mov (.t 1)),none⟩,
  ⟨(some 30),.val (.bin .num .lss (.t 28) (.t 29)),none⟩]
def Al (z sr ro sm is st:Nat):List Am.Item:=[
  ⟨(some 31),.val (.mov (.t 6)),none⟩,
  ⟨(some 32),.val (.bin .num .mul (.c (.int .i64 2)) (.t 31)),none⟩,
  ⟨(some 7),.val (.mov (.c (.int .i64 0))),none⟩,
  ⟨(some 8),.val (.mov (.t 32)),none⟩]
def An (z sr ro sm is st:Nat):List Am.Item:=[
  ⟨(some 33),.val (.mov (.t 8)),none⟩,
  ⟨(some 34),.val (.mov (.t 1)),none⟩,
  ⟨(some 35),.val (.bin .num .leq (.t 33) (.t 34)),none⟩]
def PP (z sr ro sm is st:Nat):List Am.Item:=[
  ⟨(some 36),.val (.mov (.t 0)),none⟩,
  ⟨(some 37),.val (.mov (.t 7)),none⟩,
  ⟨(some 38),.val (.mov (.t 7)),none⟩,
  ⟨(some 39),.val (.mov (.t 6)),none⟩,
  ⟨(some 40),.val (.bin .num .add (.t 38) (.t 39)),none⟩,
  ⟨(some 41),.val (.mov (.t 8)),none⟩,
  ⟨(some 42),.val (.mov (.t 2)),none⟩,
  ⟨(some 43),.callF (.f sm) [(.t 36),(.t 37),(.t 40),(.t 41),(.t 42)],none⟩]
def PQ (z sr ro sm is st:Nat):List Am.Item:=[
  ⟨(some 44),.val (.mov (.t 8)),none⟩,
  ⟨(some 7),.val (.mov (.t 44)),none⟩]
def PR (z sr ro sm is st:Nat):List Am.Item:=[
  ⟨(some 45),.val (.mov (.t 8)),none⟩,
  ⟨(some 46),.val (.mov (.t 6)),none⟩,
  ⟨(some 47),.val (.bin .num .mul (.c (.int .i64 2)) (.t 46)),none⟩,
  ⟨(some 48),.val (.bin .num .add (.t 45) (.t 47)),none⟩,
  ⟨(some 8),.val (.mov (.t 48)),none⟩]
def Ao (z sr ro sm is st:Nat):RC:=.seq (.seq (.reg (An z sr ro sm is st)) (.cond (.t 35) (.skip) (.exit 4))) (.block 5 (.seq (.reg (PP z sr ro sm is st)) (.seq (.reg (PQ z sr ro sm is st)) (.reg (PR z sr ro sm is st)))))
def PT (z sr ro sm is st:Nat):List Am.Item:=[
  ⟨(some 49),.val (.mov (.t 7)),none⟩,
  ⟨(some 50),.val (.mov (.t 6)),none⟩,
  ⟨(some 51),.val (.bin .num .add (.t 49) (.t 50)),none⟩,
  ⟨(some 9),.val (.mov (.t 51)),none⟩]
def PU (z sr ro sm is st:Nat):List Am.Item:=[
  ⟨(some 52),.val (.mov (.t 9)),none⟩,
  ⟨(some 53),.val (.mov (.t 1)),none⟩,
  ⟨(some 54),.val (.bin .num .lss (.t 52) (.t 53)),none⟩]
def PV (z sr ro sm is st:Nat):List Am.Item:=[
  ⟨(some 55),.val (.mov (.t 0)),none⟩,
  ⟨(some 56),.val (.mov (.t 7)),none⟩,
  ⟨(some 57),.val (.mov (.t 9)),none⟩,
  ⟨(some 58),.val (.mov (.t 1)),none⟩,
  ⟨(some 59),.val (.mov (.t 2)),none⟩,
  ⟨(some 60),.callF (.f sm) [(.t 55),(.t 56),(.t 57),(.t 58),(.t 59)],none⟩]
def B9 (z sr ro sm is st:Nat):List Am.Item:=[
  ⟨(some 61),.val (.mov (.t 6)),none⟩,
  ⟨(some 62),.val (.bin .num .mul (.t 61) (.c (.int .i64 2))),none⟩,
  ⟨(some 6),.val (.mov (.t 62)),none⟩]
def Ap (z sr ro sm is st:Nat):RC:=.seq (.seq (.reg (Ak z sr ro sm is st)) (.cond (.t 30) (.skip) (.exit 2))) (.block 3 (.seq (.reg (Al z sr ro sm is st)) (.seq (.block 4 (.loop (Ao z sr ro sm is st))) (.seq (.seq (.reg (PT z sr ro sm is st)) (.seq (.reg (PU z sr ro sm is st)) (.cond (.t 54) (.reg (PV z sr ro sm is st)) (.skip)))) (.reg (B9 z sr ro sm is st))))))
def rst (z sr ro sm is st:Nat):RC:=.seq (.reg (Ac z sr ro sm is st)) (.seq (.reg (Ad z sr ro sm is st)) (.seq (.block 0 (.loop (Ai z sr ro sm is st))) (.seq (.reg (Aj z sr ro sm is st)) (.block 2 (.loop (Ap z sr ro sm is st))))))
def ost:List RR:=[]

def Aq (z sr ro sm is st:Nat):List Am.Item:=[
  ⟨(some 4),.val (.mov (.t 0)),none⟩,
  ⟨(some 5),.val (.mov (.t 0)),none⟩,
  ⟨(some 6),.val (.len 1 (.t 5)),none⟩,
  ⟨(some 7),.val (.mov (.t 1)),none⟩,
  ⟨(some 8),.callF (.f st) [(.t 4),(.t 6),(.t 7)],none⟩]
def rss (z sr ro sm is st:Nat):RC:=.reg (Aq z sr ro sm is st)
def oss:List RR:=[]

structure Cs (P:Program)(z sr ro sm is st ss:Nat):Prop where
 csr:CK P sr 38 (rsr z sr ro sm is st) osr
 cro:CK P ro 58 (rro z sr ro sm is st) oro
 csm:CK P sm 220 (T2 z sr ro sm is st) G6
 cis:CK P is 53 (ris z sr ro sm is st) ois
 cst:CK P st 63 (rst z sr ro sm is st) ost
 css:CK P ss 9 (rss z sr ro sm is st) oss

end Go.Proofs.YtipjfckmopekaaaGreatDoor.Tg

namespace Go.Proofs.YtipjfckmopekaaaGreatDoor.Am
open Go Bt

def Ez (E:AV→Prop)(sz:Nat)(x:AV):Prop:=E x∧∃l,x=.agg l∧l.length=sz∧AV.rfL l=true∧l.all AV.leaf=true∧∀m,AV.stillL false m l=some l

variable {E:AV→Prop}

theorem Ez.part {sz:Nat}{x:AV}(h:Ez E sz x):Am.part x.cells 0 (some sz)=some x:=by
 obtain⟨_,l,rfl,rfl,_,_,_⟩:=h;simp[Am.part,AV.cells]
theorem Ez.len {sz:Nat}{x:AV}(h:Ez E sz x):x.cells.length=sz:=by
 obtain⟨_,l,rfl,rfl,_,_,_⟩:=h;rfl
theorem Ez.leaf {sz:Nat}{x:AV}(h:Ez E sz x):x.cells.all AV.leaf=true:=by
 obtain⟨_,l,rfl,_,_,h,_⟩:=h;exact h
theorem Ez.rf {sz:Nat}{x:AV}(h:Ez E sz x):x.rf=true:=by
 obtain⟨_,l,rfl,_,h,_,_⟩:=h;exact h

theorem Ez.still {sz:Nat}{x:AV}(h:Ez E sz x)(m:Qo):x.still false m=some x:=by
 obtain⟨_,l,rfl,_,_,_,h⟩:=h;simp only[AV.still,h m,QYi]
theorem W5 {sz:Nat}{x y:AV}(h:Ez E sz x)(k:Ez E sz y)(m:Qo):AV.stillL false m [x,y]=some [x,y]:=by
 simp only[AV.stillL,h.still,k.still]
theorem KQ {sz:Nat}{x y:AV}(h:Ez E sz x)(k:Ez E sz y):AV.rfL [x,y]=true:=by
 simp only[AV.rfL,h.rf,k.rf,Bool.and_self]

theorem Wk {P:Program}{f:Fr}{m:Qo}{ds:List DF}{Qe:List Item}{d:Nat}{K:St→Prop}{k:Nat}{r:RA}{args:List RA}{ys:List AV}{v:AV}(hr:r.ev f=.fn (.func k) [] [])(hk:Qk P k ys v)(hy:AV.stillL false m (args.map (RA.ev f))=some ys)(h1:AV.rfL ys=true)(h2:v.rf=true)(h3:AV.rfL (args.map (RA.ev f))=true∨v.nl=true)(h:QD P Qe ⟨QK f d v,m,ds⟩ K) :
  QD P (⟨some d,.call r args,none⟩ :: Qe) ⟨f,m,ds⟩ K:=by
 refine⟨k,[],[],ys,v,hr,?_,h1,hk,h2,?_,h⟩
 ·simpa using hy
 ·simpa using h3

theorem Wq:∀ {m:Qo} {l s:Nat} {o o':Ob},Am.put (Am.put m l s o) l s o'=Am.put m l s o'
 | [],_,_,_,_=>rfl
 |fr :: m,0,s,o,o'=>by simp only[Am.put,upd_upd']
 |fr :: m,l+1,s,o,o'=>by simp only[Am.put,Wq (m:=m)]
where
 upd_upd' {f:Nat→Ob} {d:Nat} {x y:Ob}:QK (QK f d x) d y=QK f d y:=by
  funext i;simp only[QK];cases Nat.beq i d<;>rfl

theorem Jw:∀ {m:Qo} {l s:Nat} {o:Ob},Qf m l s=o→Am.put m l s o=m
 | [],_,_,_,_=>rfl
 |fr :: m,0,s,o,h=>by
  simp only[Am.put];congr 1
  funext i;simp only[QK];cases hb:Nat.beq i s with
  |false=>rfl
  |true=>rw[QXo hb];exact h.symm
 |fr :: m,l+1,s,o,h=>by simp only[Am.put,Jw (m:=m) h]

section
variable {m:Qo}{fr:Nat→Ob}{lv s g sz n i:Nat}{cur:List AV}{x y:AV}

theorem K5 (hlv:lv<m.length)(hx:cur[i]? = some x)(he:Ez E sz x):Xb (fr :: Am.put m lv s (.vec g sz cur)) (some sz) (.vptr (lv+1) s g i 0)=some x:=by
 have e:Qf (fr :: Am.put m lv s (.vec g sz cur)) (lv+1) s=.vec g sz cur:=Qz hlv;simp only[Xb,e,if_true,hx,he.part]

theorem UE (hlv:lv<m.length)(hx:cur[i]? = some x)(he:Ez E sz x)(hy:Ez E sz y)(h0:sz≠0):QV (fr :: Am.put m lv s (.vec g sz cur)) (.vptr (lv+1) s g i 0) y.cells=some (fr :: Am.put m lv s (.vec g sz (cur.set i y))):=by
 have e:Qf (fr :: Am.put m lv s (.vec g sz cur)) (lv+1) s=.vec g sz cur:=Qz hlv;obtain⟨_,l,rfl,hl,_,_,_⟩:=he;obtain⟨_,k,rfl,hk,hf,_,_⟩:=hy;have hc:0+(AV.agg k).cells.length≤(AV.agg l).cells.length∧(AV.agg k).cells.length≠0∧AV.rfL (AV.agg k).cells=true:=by
  simp only[AV.cells];exact⟨by omega,by omega,hf⟩
 simp only[QV,e,if_true,hx,QXV hc];have hs:splice l 0 k=k:=by
  simp only[splice,QYA,QXP,QX8];rw[QX3 (by omega),QYv]
 simp only[ZL,AV.cells,hs,Am.put,Wq]

theorem K6 (hlv:lv<m.length)(hi:i<n):Qb (fr :: Am.put m lv s (.vec g sz cur)) sz none (.vec (lv+1) s g 0 n false) ((i:Nat):Int)=some (.vptr (lv+1) s g i 0):=by
 have e:Qf (fr :: Am.put m lv s (.vec g sz cur)) (lv+1) s=.vec g sz cur:=Qz hlv;simp only[Qb,e,QYT];rw[QXV (by omega),QXV ⟨trivial,trivial,hi⟩,QX8]

end

theorem put_len:∀ {m:Qo} {l s:Nat} {o:Ob},(Am.put m l s o).length=m.length
 | [],_,_,_=>rfl
 |_ :: _,0,_,_=>rfl
 |fr :: m,l+1,s,o=>by simp only[Am.put,QXH,put_len (m:=m)]

end Go.Proofs.YtipjfckmopekaaaGreatDoor.Am

namespace Go.Proofs.YtipjfckmopekaaaGreatDoor.Tz
open Go Am Bt Tg
variable {Pg:Program}{cz sr ro sm is st ss:Nat}(hC:Tg.Cs Pg cz sr ro sm is st ss)(hcz:cz≠0)

variable {E:AV→Prop}

def SwI (X cur:List AV)(p q i:Nat):Prop :=
 cur.length=X.length∧∀j,cur[j]? = if p≤j∧j<p+i then X[q+(j-p)]? else if q≤j∧j<q+i then X[p+(j-q)]? else X[j]?

theorem SwI.step {X cur:List AV}{p q i n:Nat}(h:SwI X cur p q i)(hi:i<n)(hpq:p+n≤q)(hq:q+n≤X.length){x y:AV}(hx:X[q+i]? = some x)(hy:X[p+i]? = some y) :
  SwI X ((cur.set (p+i) x).set (q+i) y) p q (i+1):=by
 obtain⟨h1,h2⟩:=h;refine⟨by simp[h1],fun j=>?_⟩;rw[List.getElem?_set,List.length_set,h1,List.getElem?_set,h1,h2 j];by_cases a:q+i=j
 ·subst a;rw[QXV rfl,QXV (by omega),QXG (by omega),QXV (by omega),show p+(q+i-q)=p+i by omega,hy]
 ·rw[QXG a];by_cases b:p+i=j
  ·subst b;rw[QXV rfl,QXV (by omega),QXV (by omega),show q+(p+i-p)=q+i by omega,hx]
  ·rw[QXG b]
   repeat' split
   all_goals first|rfl|(exfalso;omega)|(congr 1;omega)

theorem SwI.done {P A M B S cur:List AV}(h:SwI (P++A++M++B++S) cur P.length (P.length+A.length+M.length) A.length)(hAB:A.length=B.length):cur=P++B++M++A++S:=by
 apply List.ext_getElem?
 intro j;rw[h.2 j];simp only[List.getElem?_append,QX4]
 repeat' split
 all_goals first|rfl|(exfalso;omega)|(congr 1;omega)

def SwS (cz:Nat)(m:Qo)(lv s g N p q n:Nat)(X:List AV)(k:Nat)(st:St):Prop :=
 ∃f i cur,st=⟨f,[Qc]++Am.put m lv s (.vec g cz cur),[]⟩∧k=n-i∧i≤n∧SwI X cur p q i∧
  f 0=.vec (lv+1) s g 0 N false∧f 1=.int .i64 (p:Nat)∧f 2=.int .i64 (q:Nat)∧f 3=.int .i64 (n:Nat)∧f 10=.int .i64 (i:Nat)

include hC hcz in
theorem QRT (cmp:AV)(lv s g:Nat)(P A M B S:List AV)(m:Qo)(hl:Am.Qf m lv s=.vec g cz (P++A++M++B++S))(hAB:A.length=B.length)(he:∀x∈P++A++M++B++S,Ez E cz x)
  (hn:(P++A++M++B++S).length<4611686018427387904) :
  Qg Pg sr [.vec lv s g 0 (P++A++M++B++S).length false,.int .i64 (P.length:Nat),.int .i64 ((P.length+A.length+M.length:Nat):Int),.int .i64 (A.length:Nat),cmp] m
   (fun x m1=>x=.tup []∧m1=Am.put m lv s (.vec g cz (P++B++M++A++S))):=by
 have _:=hC;have _:=hcz;have hlv:lv<m.length:=QW (by rw[hl];simp);have hlen:(P++A++M++B++S).length=P.length+A.length+M.length+B.length+S.length:=by simp only[QX4]
 refine hC.csr.go (by simp) ?_;simp only[TF,rsr,osr,Qa,seval];have h0:m=Am.put m lv s (.vec g cz (P++A++M++B++S)):=(Jw hl).symm;generalize hX:P++A++M++B++S=X at *;generalize hp:P.length=p at *;generalize hq:p+A.length+M.length=q at *;generalize hnn:A.length=n at *;refine Qd (SwS cz m lv s g X.length p q n X) _ ⟨_,0,X,by rw[←h0]<;>rfl,rfl,QXA _,⟨rfl,fun j=>?_⟩,by simp only[Qa,seval],by simp only[Qa,seval],by simp only[Qa,seval],by simp only[Qa,seval],by simp only[Qa,seval]<;>rfl⟩ ?_
 ·rw[QXG (by omega),QXG (by omega)]
 rintro k st ⟨f,i,cur,rfl,rfl,hi,hsw,f0,f1,f2,f3,f10⟩;simp only[TJ,TG,TH,TI,f3,f10,Qa,seval];by_cases hlt:i<n
 ·have d0:decide ((i:Int)<(n:Int))=true:=by simp;omega
  have e1:IntKind.i64.wrap ((p:Int)+(i:Int))=((p+i:Nat):Int):=by rw[QE];omega
  have e2:IntKind.i64.wrap ((q:Int)+(i:Int))=((q+i:Nat):Int):=by rw[QE];omega
  have e3:IntKind.i64.wrap ((i:Int)+1)=((i+1:Nat):Int):=by rw[QE];omega
  obtain⟨x,hx⟩:∃x,X[q+i]? = some x:=⟨_,QXt (by omega)⟩;obtain⟨y,hy⟩:∃y,X[p+i]? = some y:=⟨_,QXt (by omega)⟩;have ex:=he x (QXF hx);have ey:=he y (QXF hy);have cx:cur[q+i]? = some x:=by rw[hsw.2,QXG (by omega),QXG (by omega),hx]
  have cy:cur[p+i]? = some y:=by rw[hsw.2,QXG (by omega),QXG (by omega),hy]
  have cx':(cur.set (p+i) x)[q+i]? = some x:=by rw[QZo (by omega),cx]
  simp only[d0,e1,e2,e3,f0,f1,f2,f10,K6 hlv (show q+i<X.length by omega),K6 hlv (show p+i<X.length by omega),K5 hlv cx ex,K5 hlv cy ey,ex.len,ey.len,ex.leaf,ey.leaf,UE hlv cy ey ex hcz,UE hlv cx' ex ey hcz,Qa,seval];exact⟨n-(i+1),by omega,_,i+1,_,rfl,rfl,by omega,hsw.step hlt (by omega) (by omega) hx hy,by simp only[f0,Qa,seval],by simp only[f1,Qa,seval],by simp only[f2,Qa,seval],by simp only[f3,Qa,seval],by simp only[Qa,seval]⟩
 ·have d0:decide ((i:Int)<(n:Int))=false:=by simp;omega
  have hin:i=n:=by omega
  subst hin;have hc:=SwI.done (P:=P) (A:=A) (M:=M) (B:=B) (S:=S) (cur:=cur) (by rw[hX,hp,hnn,hq];exact hsw) (by omega);simp only[d0,hc,put_len,Qa,seval]

include hC hcz in
theorem DC (cmp:AV){fr:Nat→Ob}{lv s g N a b n:Nat}(P A M B S:List AV){m:Qo}(hlv:lv<m.length)(hAB:A.length=B.length)(he:∀x∈P++A++M++B++S,Ez E cz x)
  (hn:(P++A++M++B++S).length<4611686018427387904) (hN:N=(P++A++M++B++S).length) (ha:a=P.length) (hb:b=P.length+A.length+M.length) (hc:n=A.length) :
  Qg Pg sr [.vec (lv+1) s g 0 N false,.int .i64 (a:Nat),.int .i64 (b:Nat),.int .i64 (n:Nat),cmp] (fr :: Am.put m lv s (.vec g cz (P++A++M++B++S)))
   (fun x m1=>x=.tup []∧m1=fr :: Am.put m lv s (.vec g cz (P++B++M++A++S))):=by
 have _:=hC;have _:=hcz;subst hN ha hb hc;refine(QRT hC hcz cmp (lv+1) s g P A M B S (fr :: Am.put m lv s (.vec g cz (P++A++M++B++S))) (Qz (m:=m) hlv) hAB he hn).mono fun x m1 h=>⟨h.1,?_⟩
 rw[h.2];simp only[Am.put,Wq]

def RoS (cz:Nat)(E:AV→Prop)(m:Qo)(lv s g N mid:Nat)(T:List AV)(cmp:AV)(k:Nat)(st:St):Prop :=
 ∃f P A B S,st=⟨f,[Qc]++Am.put m lv s (.vec g cz (P++A++B++S)),[]⟩∧k=A.length+B.length∧0<A.length∧0<B.length∧P.length+A.length=mid∧P++B++A++S=T∧(P++A++B++S).length=N∧(∀x∈P++A++B++S,Ez E cz x)∧
  f 0=.vec (lv+1) s g 0 N false∧f 2=.int .i64 (mid:Nat)∧f 4=cmp∧f 10=.int .i64 (A.length:Nat)∧f 11=.int .i64 (B.length:Nat)

include hC hcz in
theorem QRU (cmp:AV)(lv s g:Nat)(P X Y S:List AV)(m:Qo)(hl:Am.Qf m lv s=.vec g cz (P++X++Y++S))(hX:0<X.length)(hY:0<Y.length)(he:∀x∈P++X++Y++S,Ez E cz x)
  (hn:(P++X++Y++S).length<4611686018427387904) :
  Qg Pg ro [.vec lv s g 0 (P++X++Y++S).length false,.int .i64 (P.length:Nat),.int .i64 ((P.length+X.length:Nat):Int),.int .i64 ((P.length+X.length+Y.length:Nat):Int),cmp] m
   (fun x m1=>x=.tup []∧m1=Am.put m lv s (.vec g cz (P++Y++X++S))):=by
 have _:=hC;have _:=hcz;have hlv:lv<m.length:=QW (by rw[hl];simp);have hlen:(P++X++Y++S).length=P.length+X.length+Y.length+S.length:=by simp only[QX4]
 refine hC.cro.go (by simp) ?_;have e1:IntKind.i64.wrap (((P.length+X.length:Nat):Int)-(P.length:Int))=((X.length:Nat):Int):=by rw[QE];omega
 have e2:IntKind.i64.wrap (((P.length+X.length+Y.length:Nat):Int)-((P.length+X.length:Nat):Int))=((Y.length:Nat):Int):=by rw[QE];omega
 simp only[TK,TL,TT,rro,oro,e1,e2,Qa,seval];have h0:m=Am.put m lv s (.vec g cz (P++X++Y++S)):=(Jw hl).symm;refine Qd (RoS cz E m lv s g (P++X++Y++S).length (P.length+X.length) (P++Y++X++S) cmp.sh) _ ⟨_,P,X,Y,S,by rw[←h0]<;>rfl,rfl,hX,hY,rfl,rfl,rfl,he,by simp only[Qa,seval],by simp only[Qa,seval],by simp only[Qa,seval],by simp only[Qa,seval],by simp only[Qa,seval]⟩ ?_;generalize hT:P++Y++X++S=T;generalize hN:(P++X++Y++S).length=N at *;generalize hmid:P.length+X.length=mid at *;clear hl he h0 hX hY e1 e2;rintro k st ⟨f,P',A,B,S',rfl,rfl,hA,hB,hm,hTT,hNN,hee,f0,f2,f4,f10,f11⟩;have hlen':(P'++A++B++S').length=P'.length+A.length+B.length+S'.length:=by simp only[QX4]
 simp only[TS,TM,TN,TO,TP,TQ,TR,f10,f11,Qa,seval];by_cases hij:A.length=B.length
 ·have d0:((A.length:Int) != (B.length:Int))=false:=by simp;omega
  have e1:IntKind.i64.wrap ((mid:Int)-(A.length:Int))=((P'.length:Nat):Int):=by rw[QE];omega
  simp only[d0,e1,f0,f2,f4,f10,Qa,seval];have hc:=DC hC hcz cmp.sh (fr:=Qc) (g:=g) (s:=s) (N:=N) (a:=P'.length) (b:=mid) (n:=A.length) P' A [] B S' hlv hij (by simpa using hee) (by simp only[QYv];omega) (by simp only[QYv];omega) rfl (by simp only[QYo];omega) rfl;simp only[QYv]at hc;refine Qj hc rfl ?_;simp only[hTT,put_len,Qa,seval]
 ·have d0:((A.length:Int) != (B.length:Int))=true:=by simp;omega
  simp only[d0,f10,f11,Qa,seval];by_cases hgt:B.length<A.length
  ·have d1:decide ((A.length:Int) > (B.length:Int))=true:=by simp;omega
   have e1:IntKind.i64.wrap ((mid:Int)-(A.length:Int))=((P'.length:Nat):Int):=by rw[QE];omega
   have e2:IntKind.i64.wrap ((A.length:Int)-(B.length:Int))=((A.length-B.length:Nat):Int):=by rw[QE];omega
   simp only[d1,e1,f0,f2,f4,f10,f11,Qa,seval];have hcut:P'++A++B++S'=P'++A.take B.length++A.drop B.length++B++S':=by
    rw[QXN P' (A.take _),QYI]
   have hl1:(A.take B.length).length=B.length:=by simp;omega
   rw[hcut]at hee hNN ⊢;refine Qj (DC hC hcz cmp.sh (a:=P'.length) (b:=mid) (n:=B.length) P' (A.take B.length) (A.drop B.length) B S' hlv hl1 hee (by omega) hNN.symm rfl (by rw[hl1];simp;omega) hl1.symm) rfl ?_;simp only[e2,f10,f11,Qa,seval];have hcat:P'++B++A.drop B.length++A.take B.length++S'=(P'++B)++A.drop B.length++A.take B.length++S':=rfl;refine⟨(A.drop B.length).length+(A.take B.length).length,?_,_,P'++B,A.drop B.length,A.take B.length,S',rfl,rfl,by simp;omega,by omega,by simp;omega,?_,?_,?_,by simp only[f0,Qa,seval],by simp only[f2,Qa,seval],by simp only[f4,Qa,seval],by simp only[QX7,Qa,seval],by simp only[f11,hl1,Qa,seval]⟩
   ·simp;omega
   ·rw[←hTT];simp only[QXN];rw[←QXN (A.take _),QYI]
   ·rw[←hNN];simp only[QX4];omega
   ·intro x hx;refine hee x ?_;simp only[QYK]at hx ⊢
    grind
  ·have d1:decide ((A.length:Int) > (B.length:Int))=false:=by simp;omega
   have e1:IntKind.i64.wrap ((mid:Int)-(A.length:Int))=((P'.length:Nat):Int):=by rw[QE];omega
   have e2:IntKind.i64.wrap ((B.length:Int)-(A.length:Int))=((B.length-A.length:Nat):Int):=by rw[QE];omega
   have e3:IntKind.i64.wrap ((mid:Int)+(B.length:Int))=((mid+B.length:Nat):Int):=by rw[QE];omega
   have e4:IntKind.i64.wrap (((mid+B.length:Nat):Int)-(A.length:Int))=((mid+B.length-A.length:Nat):Int):=by rw[QE];omega
   simp only[d1,e1,e3,e4,f0,f2,f4,f10,f11,Qa,seval];have hcut:P'++A++B++S'=P'++A++B.take (B.length-A.length)++B.drop (B.length-A.length)++S':=by
    rw[QXN (P'++A) (B.take _),QYI]
   have hl1:(B.take (B.length-A.length)).length=B.length-A.length:=by simp
   have hl2:(B.drop (B.length-A.length)).length=A.length:=by simp;omega
   rw[hcut]at hee hNN ⊢;refine Qj (DC hC hcz cmp.sh (a:=P'.length) (b:=mid+B.length-A.length) (n:=A.length) P' A (B.take (B.length-A.length)) (B.drop (B.length-A.length)) S' hlv hl2.symm hee (by omega) hNN.symm rfl (by rw[hl1];omega) rfl) rfl ?_;simp only[e2,f10,f11,Qa,seval];refine⟨(B.drop (B.length-A.length)).length+(B.take (B.length-A.length)).length,?_,_,P',B.drop (B.length-A.length),B.take (B.length-A.length),A++S',by simp only[QXN]<;>rfl,rfl,by omega,by omega,by omega,?_,?_,?_,by simp only[f0,Qa,seval],by simp only[f2,Qa,seval],by simp only[f4,Qa,seval],by simp only[f10,hl2,Qa,seval],by simp only[hl1,Qa,seval]⟩
   ·omega
   ·rw[←hTT];simp only[QXN];rw[←QXN (B.take _),QYI]
   ·rw[←hNN];simp only[QX4];omega
   ·intro x hx;refine hee x ?_;simp only[QYK]at hx ⊢
    grind

end Go.Proofs.YtipjfckmopekaaaGreatDoor.Tz

namespace Go.Proofs.YtipjfckmopekaaaGreatDoor.Tz
open Go Am Bt Tg So
variable {Pg:Program}{cz sr ro sm is st ss:Nat}(hC:Tg.Cs Pg cz sr ro sm is st ss)(hcz:cz≠0)

variable {E:AV→Prop}

def lt (c:AV→AV→Int)(x y:AV):Bool:=decide (c x y<0)

structure Cp (Pg:Program)(cz:Nat)(E:AV→Prop)(kc:Nat)(c:AV→AV→Int):Prop where
 call:∀x y,Ez E cz x→Ez E cz y→Qk Pg kc [x,y] (.int .i64 (c x y))
 sw:SW (lt c)

def InS (cz:Nat)(m:Qo)(lv s g N i p:Nat)(kc:Nat)(c:AV→AV→Int)(P L S:List AV)(x:AV)(k:Nat)(st:St):Prop :=
 ∃f U V,st=⟨f,[Qc]++Am.put m lv s (.vec g cz (P++U++[x]++V++S)),[]⟩∧k=U.length∧U++V=L∧(∀v∈V,lt c x v=true)∧
  f 0=.vec (lv+1) s g 0 N false∧f 1=.int .i64 (P.length:Nat)∧f 2=.int .i64 (p:Nat)∧f 3=.fn (.func kc) [] []∧f 8=.int .i64 (i:Nat)∧f 9=.int .i64 ((P.length+U.length:Nat):Int)

def IoS (cz:Nat)(m:Qo)(lv s g N:Nat)(kc:Nat)(c:AV→AV→Int)(P X S:List AV)(k:Nat)(st:St):Prop :=
 ∃f i,st=⟨f,[Qc]++Am.put m lv s (.vec g cz (P++QF (lt c) (X.take i)++X.drop i++S)),[]⟩∧k=X.length+1-i∧1≤i∧(i≤X.length∨(i=1∧X=[]))∧
  f 0=.vec (lv+1) s g 0 N false∧f 1=.int .i64 (P.length:Nat)∧f 2=.int .i64 ((P.length+X.length:Nat):Int)∧f 3=.fn (.func kc) [] []∧f 8=.int .i64 ((P.length+i:Nat):Int)

theorem CG {α:Type}(U:List α)(h:0<U.length):∃W u,U=W++[u]:=by
 rcases List.eq_nil_or_concat U with rfl|⟨W,u,e⟩
 ·simp at h
 ·exact⟨W,u,by simpa using e⟩

theorem UF {α:Type}{P W V:List α}{u:α}{i:Nat}(h:i=P.length+W.length):(P++(W++[u])++V)[i]? = some u:=by
 subst h;simp

include hC hcz in
theorem QRV {kc:Nat}{c:AV→AV→Int}(hc:Cp Pg cz E kc c)(lv s g:Nat)(P X S:List AV)(m:Qo)(hl:Am.Qf m lv s=.vec g cz (P++X++S))(he:∀x∈P++X++S,Ez E cz x)
  (hn:(P++X++S).length<4611686018427387904) :
  Qg Pg is [.vec lv s g 0 (P++X++S).length false,.int .i64 (P.length:Nat),.int .i64 ((P.length+X.length:Nat):Int),.fn (.func kc) [] []] m
   (fun x m1=>x=.tup []∧m1=Am.put m lv s (.vec g cz (P++QF (lt c) X++S))):=by
 have _:=hC;have _:=hcz;have hlv:lv<m.length:=QW (by rw[hl];simp);have hlen:(P++X++S).length=P.length+X.length+S.length:=by simp only[QX4]
 refine hC.cis.go (by simp) ?_;have e1:IntKind.i64.wrap ((P.length:Int)+1)=((P.length+1:Nat):Int):=by rw[QE];omega
 simp only[T3,ris,ois,e1,Qa,seval];have h0:m=Am.put m lv s (.vec g cz (P++QF (lt c) (X.take 1)++X.drop 1++S)):=by
  have:P++QF (lt c) (X.take 1)++X.drop 1++S=P++X++S:=by
   cases X with
   |nil=>simp[QF]
   |cons x X=>simp[QF,ZF]
  rw[this];exact(Jw hl).symm
 generalize hN:(P++X++S).length=N at *;refine Qd (IoS cz m lv s g N kc c P X S) _ ⟨_,1,by rw[←h0]<;>rfl,rfl,QXq _,by
  cases X with
  |nil=>exact .inr ⟨rfl,rfl⟩
  |cons x X=>exact .inl (by simp),by simp only[Qa,seval],by simp only[Qa,seval],by simp only[Qa,seval],by simp only[Qa,seval],by simp only[Qa,seval]⟩ ?_
 clear h0 e1;rintro k st ⟨f,i,rfl,rfl,hi1,hi2,f0,f1,f2,f3,f8⟩;simp only[T9,Ab,T4,T5,T6,T7,T8,Aa,f2,f8,Qa,seval];by_cases hlt:i<X.length
 ·have d0:decide (((P.length+i:Nat):Int)<((P.length+X.length:Nat):Int))=true:=by simp only[QXx];omega
  simp only[d0,f8,Qa,seval];obtain⟨x,hx⟩:∃x,X[i]? = some x:=⟨_,QXt hlt⟩;have ex:Ez E cz x:=he x (by simp[QXF hx]);have hL:(QF (lt c) (X.take i)).length=i:=by rw[Ju,QYp];omega
  have heL:∀z∈QF (lt c) (X.take i),Ez E cz z:=fun z hz=>he z (by simp[QYf (UA hz)])
  have hdrop:X.drop i=[x]++X.drop (i+1):=by
   rw[List.singleton_append,QYa hlt];congr 1
   exact(QXs.1 hx).2
  have htake:QF (lt c) (X.take (i+1))=mg (lt c) (QF (lt c) (X.take i)) [x]:=by
   rw[QZa,hx,QZb,←WC hc.sw]<;>rfl
  refine Qd (InS cz m lv s g N (P.length+i) (P.length+X.length) kc c P (QF (lt c) (X.take i)) (X.drop (i+1)++S) x) _ ⟨_,QF (lt c) (X.take i),[],by rw[hdrop];simp only[QXN,QYv]<;>rfl,rfl,QYv _,by simp,by simp only[f0,Qa,seval],by simp only[f1,Qa,seval],by simp only[f2,Qa,seval],by simp only[f3,Qa,seval],by simp only[f8,Qa,seval],by simp only[hL,Qa,seval]⟩ ?_;rintro k' st ⟨f,U,V,rfl,rfl,hUV,hV,f0,f1,f2,f3,f8,f9⟩;have hUVl:U.length+V.length=i:=by rw[←QX4,hUV,hL]
  have hrow:(P++U++[x]++V++(X.drop (i+1)++S)).length=N:=by
   rw[←hN];simp only[QX4,QX7,QYX];omega
  simp only[f1,f9,Qa,seval];have e4:IntKind.i64.wrap (((P.length+i:Nat):Int)+1)=((P.length+(i+1):Nat):Int):=by rw[QE];omega
  have fin:(∀u∈U,lt c x u=false)→P++U++[x]++V++(X.drop (i+1)++S)=P++QF (lt c) (X.take (i+1))++X.drop (i+1)++S:=by
   intro h;rw[htake,←hUV,YP h hV];simp
  by_cases hU:0<U.length
  ·obtain⟨W,u,rfl⟩:=CG U hU;simp only[QX4,QYX]at hUVl hrow f9;have d1:decide (((P.length+(W.length+1):Nat):Int) > (P.length:Int))=true:=by simp only[QXx];omega
   have e2:IntKind.i64.wrap (((P.length+(W.length+1):Nat):Int)-1)=((P.length+W.length:Nat):Int):=by rw[QE];omega
   have eu:Ez E cz u:=heL u (by rw[←hUV];simp);have hx1:(P++(W++[u])++[x]++V++(X.drop (i+1)++S))[P.length+(W.length+1)]? = some x:=by
    have:=UF (P:=P) (W:=W++[u]) (u:=x) (V:=V++(X.drop (i+1)++S)) (i:=P.length+(W.length+1)) (by simp)
    simpa only [QXN]using this
   have hu1:(P++(W++[u])++[x]++V++(X.drop (i+1)++S))[P.length+W.length]? = some u:=by
    have:=UF (P:=P) (W:=W) (u:=u) (V:=[x]++V++(X.drop (i+1)++S)) (i:=P.length+W.length) rfl
    simpa only [QXN]using this
   simp only[d1,e2,f0,f3,f9,QX4,K6 hlv (show P.length+(W.length+1)<N by omega),K6 hlv (show P.length+W.length<N by omega),K5 hlv hx1 ex,K5 hlv hu1 eu,Qa,seval];refine Wk (by simp only[Qa,seval]) (hc.call x u ex eu) (W5 ex eu _) (KQ ex eu) rfl (.inl (KQ ex eu)) ?_;cases hcx:decide (c x u<0)with
   |true=>
    have hset:((P++(W++[u])++[x]++V++(X.drop (i+1)++S)).set (P.length+(W.length+1)) u).set (P.length+W.length) x=P++W++[x]++([u]++V)++(X.drop (i+1)++S):=by
     simp[QXN]
    have hx2:((P++(W++[u])++[x]++V++(X.drop (i+1)++S)).set (P.length+(W.length+1)) u)[P.length+W.length]? = some u:=by
     rw[QZo (by omega),hu1]
    simp only[hcx,e2,f0,f9,K6 hlv (show P.length+(W.length+1)<N by omega),K6 hlv (show P.length+W.length<N by omega),K5 hlv hx1 ex,K5 hlv hu1 eu,ex.len,eu.len,ex.leaf,eu.leaf,UE hlv hx1 ex eu hcz,UE hlv hx2 eu ex hcz,Qa,seval];exact⟨W.length,by simp,_,W,[u]++V,by rw[hset]<;>rfl,rfl,by rw[←hUV];simp,by
     intro v hv;rcases QYK.1 hv with hv|hv
     ·rw[QZs.1 hv];exact hcx
     ·exact hV v hv,by simp only[f0,Qa,seval],by simp only[f1,Qa,seval],by simp only[f2,Qa,seval],by simp only[f3,Qa,seval],by simp only[f8,Qa,seval],by simp only[Qa,seval]⟩
   |false=>
    have hz:∀z∈W++[u],lt c x z=false:=by
     have hsrt:=ZA hc.sw (X.take i);have hsrt:Zi (lt c) ((W++[u])++V):=by rw[hUV];exact hsrt
     have hs2:=(List.pairwise_append.1 (List.pairwise_append.1 hsrt).1).2.2;intro z hz;rcases QYK.1 hz with hz|hz
     ·exact hc.sw.nt x u z hcx (hs2 z hz u (by simp))
     ·rw[QZs.1 hz];exact hcx
    simp only[hcx,f8,e4,Qa,seval];exact⟨X.length+1-(i+1),by omega,_,i+1,by rw[fin hz]<;>rfl,rfl,by omega,.inl (by omega),by simp only[f0,Qa,seval],by simp only[f1,Qa,seval],by simp only[f2,Qa,seval],by simp only[f3,Qa,seval],by simp only[Qa,seval]⟩
  ·have hU0:U=[]:=QYw (by omega);subst hU0;have d1:decide (((P.length+0:Nat):Int) > (P.length:Int))=false:=by simp
   have fin0:=fin (by simp);simp only[QYv]at fin0;simp only[QYo]at f9;simp only[d1,f8,e4,QYo,Qa,seval];exact⟨X.length+1-(i+1),by omega,_,i+1,by rw[fin0]<;>rfl,rfl,by omega,.inl (by omega),by simp only[f0,Qa,seval],by simp only[f1,Qa,seval],by simp only[f2,Qa,seval],by simp only[f3,Qa,seval],by simp only[Qa,seval]⟩
 ·have d0:decide (((P.length+i:Nat):Int)<((P.length+X.length:Nat):Int))=false:=by simp only[QZj];omega
  have hX:QF (lt c) (X.take i)++X.drop i=QF (lt c) X:=by
   rcases hi2 with h|⟨_,rfl⟩
   ·rw[QX0 (by omega),QX3 (by omega),QYv]
   ·simp[QF]
  have hX2:P++QF (lt c) (X.take i)++X.drop i++S=P++QF (lt c) X++S:=by rw[QXN P (QF (lt c) (X.take i)) (X.drop i),hX]
  simp only[d0,hX2,put_len,Qa,seval]

end Go.Proofs.YtipjfckmopekaaaGreatDoor.Tz

namespace Go.Proofs.YtipjfckmopekaaaGreatDoor.Tz
open Go Am Bt Tg So
variable {Pg:Program}{cz sr ro sm is st ss:Nat}(hC:Tg.Cs Pg cz sr ro sm is st ss)(hcz:cz≠0)

variable {E:AV→Prop}

theorem CH (a b:Nat)(h:a+b<9223372036854775808):IntKind.i64.wrap ((IntKind.u64.wrap ((a+b:Nat):Int)).fdiv (2 ^ min 1 64))=(((a+b) / 2:Nat):Int):=by
 rw[QE,Jm,show min 1 64=1 from rfl,show(2:Int) ^ 1=2 from rfl];have:(((a+b:Nat):Int) % 18446744073709551616)=((a+b:Nat):Int):=by omega
 rw[this,QZy _ (by omega)];omega

def SaS (cz:Nat)(m:Qo)(lv s g N:Nat)(kc:Nat)(c:AV→AV→Int)(P Y S:List AV)(x:AV)(k:Nat)(st:St):Prop :=
 ∃f i j,st=⟨f,[Qc]++Am.put m lv s (.vec g cz (P++[x]++Y++S)),[]⟩∧k=j-i∧i≤j∧j≤Y.length∧(∀k y,k<i→Y[k]? = some y→lt c y x=true)∧(∀k y,j≤k→Y[k]? = some y→lt c y x=false)∧
  f 0=.vec (lv+1) s g 0 N false∧f 1=.int .i64 (P.length:Nat)∧f 4=.fn (.func kc) [] []∧f 10=.int .i64 ((P.length+1+i:Nat):Int)∧f 11=.int .i64 ((P.length+1+j:Nat):Int)

def SaT (cz:Nat)(m:Qo)(lv s g N i:Nat)(P Y S:List AV)(x:AV)(k:Nat)(st:St):Prop :=
 ∃f t,st=⟨f,[Qc]++Am.put m lv s (.vec g cz (P++Y.take t++[x]++Y.drop t++S)),[]⟩∧k=i-t∧t≤i∧
  f 0=.vec (lv+1) s g 0 N false∧f 10=.int .i64 ((P.length+1+i:Nat):Int)∧f 13=.int .i64 ((P.length+t:Nat):Int)

include hC hcz in
theorem QRW {kc:Nat}{c:AV→AV→Int}(hc:Cp Pg cz E kc c)(lv s g:Nat)(P:List AV)(x:AV)(Y S:List AV)(m:Qo)(hl:Am.Qf m lv s=.vec g cz (P++[x]++Y++S))(he:∀z∈P++[x]++Y++S,Ez E cz z)
  (hn:(P++[x]++Y++S).length<4611686018427387904) (hY:Zi (lt c) Y) :
  Qg Pg sm [.vec lv s g 0 (P++[x]++Y++S).length false,.int .i64 (P.length:Nat),.int .i64 ((P.length+1:Nat):Int),.int .i64 ((P.length+1+Y.length:Nat):Int),.fn (.func kc) [] []] m
   (fun v m1=>v=.tup []∧m1=Am.put m lv s (.vec g cz (P++mg (lt c) [x] Y++S))):=by
 have _:=hC;have _:=hcz;have hlv:lv<m.length:=QW (by rw[hl];simp);have hlen:(P++[x]++Y++S).length=P.length+1+Y.length+S.length:=by simp only[QX4,QYX]
 have ex:Ez E cz x:=he x (by simp);have eY:∀y∈Y,Ez E cz y:=fun y hy=>he y (by simp[hy])
 refine hC.csm.go (by simp) ?_;have e1:IntKind.i64.wrap (((P.length+1:Nat):Int)-(P.length:Int))=1:=by rw[QE];omega
 simp only[Ft,CB,CC,CD,GN,BW,BX,B5,GP,GQ,GR,GS,GT,GU,GV,GW,GX,Yq,Yr,Ys,WJ,WK,Kh,Ki,T2,G6,e1,QYB,Qa,seval];have h0:m=Am.put m lv s (.vec g cz (P++[x]++Y++S)):=(Jw hl).symm;generalize hN:(P++[x]++Y++S).length=N at *;refine Qd (SaS cz m lv s g N kc c P Y S x) _ ⟨_,0,Y.length,by rw[←h0]<;>rfl,rfl,QXA _,QXq _,(by intro k y hk;exact absurd hk (Nat.not_lt_zero _)),(by intro k y hk hy;rw[QYQ hk]at hy;cases hy),by simp only[Qa,seval],by simp only[Qa,seval],by simp only[Qa,seval],by simp only[QXX,Qa,seval],by simp only[Qa,seval]⟩ ?_;clear h0 e1;rintro k st ⟨f,i,j,rfl,rfl,hij,hj,hp,hq,f0,f1,f4,f10,f11⟩;simp only[TZ,T1,CE,CF,G5,TU,TV,TW,TX,TY,T0,PK,PM,BY,BZ,B0,B1,B4,B6,B7,B8,GY,GZ,G0,G3,G4,f10,f11,Qa,seval];by_cases hlt:i<j
 ·have d0:decide (((P.length+1+i:Nat):Int)<((P.length+1+j:Nat):Int))=true:=by simp only[QXx];omega
  have e2:IntKind.i64.wrap (((P.length+1+i:Nat):Int)+((P.length+1+j:Nat):Int))=(((P.length+1+i)+(P.length+1+j):Nat):Int):=by rw[QE];omega
  have e3:=CH (P.length+1+i) (P.length+1+j) (by omega);have e4:((P.length+1+i)+(P.length+1+j)) / 2=P.length+1+(i+j) / 2:=by omega
  rw[e4]at e3;generalize hh:(i+j) / 2=h at *;have hh1:h<j:=by omega
  have hh2:i≤h:=by omega
  have e5:IntKind.i64.wrap (((P.length+1+h:Nat):Int)+1)=((P.length+1+(h+1):Nat):Int):=by rw[QE];omega
  obtain⟨y,hy⟩:∃y,Y[h]? = some y:=⟨_,QXt (by omega)⟩;have ey:=eY y (QXF hy);have gy:(P++[x]++Y++S)[P.length+1+h]? = some y:=by
   rw[QYR (by simp only[QX4,QYX];omega),QYS (by simp only[QX4,QYX];omega)];rw[←hy];congr 1;simp only[QX4,QYX];omega
  have gx:(P++[x]++Y++S)[P.length]? = some x:=by
   have:=UF (P:=P) (W:=[]) (u:=x) (V:=Y++S) (i:=P.length) rfl
   simpa only [QXN,QXP]using this
  simp only[d0,e2,e3,f0,f1,f4,f10,f11,K6 hlv (show P.length+1+h<N by omega),K6 hlv (show P.length<N by omega),K5 hlv gy ey,K5 hlv gx ex,Qa,seval];refine Wk (by simp only[Qa,seval]) (hc.call y x ey ex) (W5 ey ex _) (KQ ey ex) rfl (.inl (KQ ey ex)) ?_;cases hcx:decide (c y x<0)with
  |true=>
   simp only[hcx,e5,Qa,seval];exact⟨j-(h+1),by omega,_,h+1,j,rfl,rfl,by omega,hj,fun k z hk hz=>KC hc.sw hY (Nat.le_of_lt_succ hk) hz hy hcx,hq,by simp only[f0,Qa,seval],by simp only[f1,Qa,seval],by simp only[f4,Qa,seval],by simp only[Qa,seval],by simp only[f11,Qa,seval]⟩
  |false=>
   simp only[hcx,Qa,seval];exact⟨h-i,by omega,_,i,h,rfl,rfl,by omega,by omega,hp,fun k z hk hz=>by
    cases hb:lt c z x with
    |false=>rfl
    |true=>exact absurd (KC hc.sw hY hk hy hz hb) (by show ¬(decide _=true);rw[hcx];simp),by simp only[f0,Qa,seval],by simp only[f1,Qa,seval],by simp only[f4,Qa,seval],by simp only[f10,Qa,seval],by simp only[Qa,seval]⟩
 ·have d0:decide (((P.length+1+i:Nat):Int)<((P.length+1+j:Nat):Int))=false:=by simp only[QZj];omega
  have hij':j=i:=by omega
  subst hij';simp only[d0,f1,Qa,seval];have hres:mg (lt c) [x] Y=Y.take j++x :: Y.drop j:=by
   have:=Qaz (lt:=lt c) (x:=x) (Y1:=Y.take j) (Y2:=Y.drop j) (fun y hy=>by
    obtain⟨k,hk⟩:=QZz hy;rw[QX5]at hk;split at hk
    ·rename_i h;exact hp k y h hk
    ·cases hk) (fun y hy=>by
    obtain⟨k,hk⟩:=QZz hy;rw[QX6]at hk;exact hq _ y (by omega) hk)
   rwa [QYI]at this
  refine Qd (SaT cz m lv s g N j P Y S x) _ ⟨_,0,by rw[show P++Y.take 0++[x]++Y.drop 0++S=P++[x]++Y++S by simp]<;>rfl,rfl,QXA _,by simp only[f0,Qa,seval],by simp only[f10,Qa,seval],by simp only[QXX,Qa,seval]⟩ ?_;clear f0 f1 f4 f10 f11 d0 hp hq f;rintro k st ⟨f,t,rfl,rfl,ht,f0,f10,f13⟩;have e6:IntKind.i64.wrap (((P.length+1+j:Nat):Int)-1)=((P.length+j:Nat):Int):=by rw[QE];omega
  have e7:IntKind.i64.wrap (((P.length+t:Nat):Int)+1)=((P.length+(t+1):Nat):Int):=by rw[QE];omega
  simp only[e6,f10,f13,Qa,seval];by_cases hlt:t<j
  ·have d0:decide (((P.length+t:Nat):Int)<((P.length+j:Nat):Int))=true:=by simp only[QXx];omega
   obtain⟨y,hy⟩:∃y,Y[t]? = some y:=⟨_,QXt (by omega)⟩;have ey:=eY y (QXF hy);have hdrop:Y.drop t=[y]++Y.drop (t+1):=by
    rw[List.singleton_append,QYa (by omega)];congr 1
    exact(QXs.1 hy).2
   have htake:Y.take (t+1)=Y.take t++[y]:=by rw[QZa,hy]<;>rfl
   have hlt':(Y.take t).length=t:=by rw[QYp];omega
   have g1:(P++Y.take t++[x]++Y.drop t++S)[P.length+t]? = some x:=by
    have:=UF (P:=P) (W:=Y.take t) (u:=x) (V:=Y.drop t++S) (i:=P.length+t) (by rw[hlt'])
    simpa only [QXN]using this
   have g2:(P++Y.take t++[x]++Y.drop t++S)[P.length+(t+1)]? = some y:=by
    have:=UF (P:=P) (W:=Y.take t++[x]) (u:=y) (V:=Y.drop (t+1)++S) (i:=P.length+(t+1)) (by rw[QX4,hlt']<;>rfl);rw[hdrop]
    simpa only [QXN]using this
   have g3:((P++Y.take t++[x]++Y.drop t++S).set (P.length+t) y)[P.length+(t+1)]? = some y:=by
    rw[QZo (by omega),g2]
   have hset:((P++Y.take t++[x]++Y.drop t++S).set (P.length+t) y).set (P.length+(t+1)) x=P++Y.take (t+1)++[x]++Y.drop (t+1)++S:=by
    rw[hdrop,htake];simp[hlt']
   simp only[d0,e7,f0,f13,K6 hlv (show P.length+(t+1)<N by omega),K6 hlv (show P.length+t<N by omega),K5 hlv g1 ex,K5 hlv g2 ey,ex.len,ey.len,ex.leaf,ey.leaf,UE hlv g1 ex ey hcz,UE hlv g3 ey ex hcz,Qa,seval];exact⟨j-(t+1),by omega,_,t+1,by rw[hset]<;>rfl,rfl,by omega,by simp only[f0,Qa,seval],by simp only[f10,Qa,seval],by simp only[Qa,seval]⟩
  ·have d0:decide (((P.length+t:Nat):Int)<((P.length+j:Nat):Int))=false:=by simp only[QZj];omega
   have htj:t=j:=by omega
   subst htj;have hfin:P++Y.take t++[x]++Y.drop t++S=P++mg (lt c) [x] Y++S:=by rw[hres];simp
   simp only[d0,hfin,put_len,Qa,seval]

end Go.Proofs.YtipjfckmopekaaaGreatDoor.Tz

namespace Go.Proofs.YtipjfckmopekaaaGreatDoor.Tz
open Go Am Bt Tg So
variable {Pg:Program}{cz sr ro sm is st ss:Nat}(hC:Tg.Cs Pg cz sr ro sm is st ss)(hcz:cz≠0)

variable {E:AV→Prop}

def SbS (cz:Nat)(m:Qo)(lv s g N:Nat)(kc:Nat)(c:AV→AV→Int)(P X S:List AV)(y:AV)(k:Nat)(st:St):Prop :=
 ∃f i j,st=⟨f,[Qc]++Am.put m lv s (.vec g cz (P++X++[y]++S)),[]⟩∧k=j-i∧i≤j∧j≤X.length∧(∀k x,k<i→X[k]? = some x→lt c y x=false)∧(∀k x,j≤k→X[k]? = some x→lt c y x=true)∧
  f 0=.vec (lv+1) s g 0 N false∧f 2=.int .i64 ((P.length+X.length:Nat):Int)∧f 4=.fn (.func kc) [] []∧f 14=.int .i64 ((P.length+i:Nat):Int)∧f 15=.int .i64 ((P.length+j:Nat):Int)

def SbT (cz:Nat)(m:Qo)(lv s g N i:Nat)(P X S:List AV)(y:AV)(k:Nat)(st:St):Prop :=
 ∃f t,st=⟨f,[Qc]++Am.put m lv s (.vec g cz (P++X.take t++[y]++X.drop t++S)),[]⟩∧k=t-i∧i≤t∧t≤X.length∧
  f 0=.vec (lv+1) s g 0 N false∧f 14=.int .i64 ((P.length+i:Nat):Int)∧f 17=.int .i64 ((P.length+t:Nat):Int)

include hC hcz in
theorem QRX {kc:Nat}{c:AV→AV→Int}(hc:Cp Pg cz E kc c)(lv s g:Nat)(P X:List AV)(y:AV)(S:List AV)(m:Qo)(hl:Am.Qf m lv s=.vec g cz (P++X++[y]++S))(he:∀x∈P++X++[y]++S,Ez E cz x)
  (hn:(P++X++[y]++S).length<4611686018427387904) (hX:Zi (lt c) X) (hX1:X.length≠1) :
  Qg Pg sm [.vec lv s g 0 (P++X++[y]++S).length false,.int .i64 (P.length:Nat),.int .i64 ((P.length+X.length:Nat):Int),.int .i64 ((P.length+X.length+1:Nat):Int),.fn (.func kc) [] []] m
   (fun v m1=>v=.tup []∧m1=Am.put m lv s (.vec g cz (P++mg (lt c) X [y]++S))):=by
 have _:=hC;have _:=hcz;have hlv:lv<m.length:=QW (by rw[hl];simp);have hlen:(P++X++[y]++S).length=P.length+X.length+1+S.length:=by simp only[QX4,QYX]
 have ey:Ez E cz y:=he y (by simp);have eX:∀x∈X,Ez E cz x:=fun x hx=>he x (by simp[hx])
 refine hC.csm.go (by simp) ?_;have e1:(IntKind.i64.wrap (((P.length+X.length:Nat):Int)-(P.length:Int))==1)=false:=by rw[QE];simp only[QY8,ne_eq];omega
 have e2:(IntKind.i64.wrap (((P.length+X.length+1:Nat):Int)-((P.length+X.length:Nat):Int))==1)=true:=by rw[QE];simp only[QXy];omega
 simp only[Ft,CB,CC,CD,GN,BW,BX,B5,GP,GQ,GR,GS,GT,GU,GV,GW,GX,Yq,Yr,Ys,WJ,WK,Kh,Ki,T2,G6,e1,e2,Qa,seval];have h0:m=Am.put m lv s (.vec g cz (P++X++[y]++S)):=(Jw hl).symm;generalize hN:(P++X++[y]++S).length=N at *;refine Qd (SbS cz m lv s g N kc c P X S y) _ ⟨_,0,X.length,by rw[←h0]<;>rfl,rfl,QXA _,QXq _,(by intro k y hk;exact absurd hk (Nat.not_lt_zero _)),(by intro k y hk hy;rw[QYQ hk]at hy;cases hy),by simp only[Qa,seval],by simp only[Qa,seval],by simp only[Qa,seval],by simp only[QXX,Qa,seval],by simp only[Qa,seval]⟩ ?_;clear h0 e1 e2;rintro k st ⟨f,i,j,rfl,rfl,hij,hj,hp,hq,f0,f2,f4,f14,f15⟩;simp only[CE,CF,G5,BY,BZ,B0,B1,B4,B6,B7,B8,GY,GZ,G0,G3,G4,f14,f15,Qa,seval];by_cases hlt:i<j
 ·have d0:decide (((P.length+i:Nat):Int)<((P.length+j:Nat):Int))=true:=by simp only[QXx];omega
  have e2:IntKind.i64.wrap (((P.length+i:Nat):Int)+((P.length+j:Nat):Int))=(((P.length+i)+(P.length+j):Nat):Int):=by rw[QE];omega
  have e3:=CH (P.length+i) (P.length+j) (by omega);have e4:((P.length+i)+(P.length+j)) / 2=P.length+(i+j) / 2:=by omega
  rw[e4]at e3;generalize hh:(i+j) / 2=h at *;have hh1:h<j:=by omega
  have hh2:i≤h:=by omega
  have e5:IntKind.i64.wrap (((P.length+h:Nat):Int)+1)=((P.length+(h+1):Nat):Int):=by rw[QE];omega
  obtain⟨x,hx⟩:∃x,X[h]? = some x:=⟨_,QXt (by omega)⟩;have ex:=eX x (QXF hx);have gx:(P++X++[y]++S)[P.length+h]? = some x:=by
   rw[QXN,QXN,QYS (by omega),QYR (by omega),←hx];congr 1;omega
  have gy:(P++X++[y]++S)[P.length+X.length]? = some y:=by
   have:=UF (P:=P) (W:=X) (u:=y) (V:=S) (i:=P.length+X.length) rfl
   simpa only [QXN]using this
  simp only[d0,e2,e3,f0,f2,f4,f14,f15,K6 hlv (show P.length+h<N by omega),K6 hlv (show P.length+X.length<N by omega),K5 hlv gy ey,K5 hlv gx ex,Qa,seval];refine Wk (by simp only[Qa,seval]) (hc.call y x ey ex) (W5 ey ex _) (KQ ey ex) rfl (.inl (KQ ey ex)) ?_;cases hcx:decide (c y x<0)with
  |true=>
   simp only[hcx,Qa,seval];exact⟨h-i,by omega,_,i,h,rfl,rfl,by omega,by omega,hp,fun k z hk hz=>by
    have:=KP hX hc.sw hk hx hz;cases hb:lt c y z with
    |true=>rfl
    |false=>exact absurd (hc.sw.nt y z x hb this) (by show ¬(decide _=false);rw[hcx];simp),by simp only[f0,Qa,seval],by simp only[f2,Qa,seval],by simp only[f4,Qa,seval],by simp only[f14,Qa,seval],by simp only[Qa,seval]⟩
  |false=>
   simp only[hcx,e5,Qa,seval];exact⟨j-(h+1),by omega,_,h+1,j,rfl,rfl,by omega,hj,fun k z hk hz=>hc.sw.nt y x z hcx (KP hX hc.sw (Nat.le_of_lt_succ hk) hz hx),hq,by simp only[f0,Qa,seval],by simp only[f2,Qa,seval],by simp only[f4,Qa,seval],by simp only[Qa,seval],by simp only[f15,Qa,seval]⟩
 ·have d0:decide (((P.length+i:Nat):Int)<((P.length+j:Nat):Int))=false:=by simp only[QZj];omega
  have hij':j=i:=by omega
  subst hij';simp only[d0,f2,Qa,seval];have hres:mg (lt c) X [y]=X.take j++y :: X.drop j:=by
   have:=YP (lt:=lt c) (y:=y) (X1:=X.take j) (X2:=X.drop j) (fun x hx=>by
    obtain⟨k,hk⟩:=QZz hx;rw[QX5]at hk;split at hk
    ·rename_i h;exact hp k x h hk
    ·cases hk) (fun x hx=>by
    obtain⟨k,hk⟩:=QZz hx;rw[QX6]at hk;exact hq _ x (by omega) hk)
   rwa [QYI]at this
  refine Qd (SbT cz m lv s g N j P X S y) _ ⟨_,X.length,by rw[show P++X.take X.length++[y]++X.drop X.length++S=P++X++[y]++S by simp]<;>rfl,rfl,hj,QXq _,by simp only[f0,Qa,seval],by simp only[f14,Qa,seval],by simp only[Qa,seval]⟩ ?_;clear f0 f2 f4 f14 f15 d0 hp hq f;rintro k st ⟨f,t,rfl,rfl,ht,htl,f0,f14,f17⟩;simp only[f14,f17,Qa,seval];by_cases hlt:j<t
  ·have d0:decide (((P.length+t:Nat):Int) > ((P.length+j:Nat):Int))=true:=by simp only[QXx];omega
   obtain⟨r,rfl⟩:∃r,t=r+1:=⟨t-1,by omega⟩;have e7:IntKind.i64.wrap (((P.length+(r+1):Nat):Int)-1)=((P.length+r:Nat):Int):=by rw[QE];omega
   obtain⟨x,hx⟩:∃x,X[r]? = some x:=⟨_,QXt (by omega)⟩;have ex:=eX x (QXF hx);have hdrop:X.drop r=[x]++X.drop (r+1):=by
    rw[List.singleton_append,QYa (by omega)];congr 1
    exact(QXs.1 hx).2
   have htake:X.take (r+1)=X.take r++[x]:=by rw[QZa,hx]<;>rfl
   have hlt':(X.take r).length=r:=by rw[QYp];omega
   have g1:(P++X.take (r+1)++[y]++X.drop (r+1)++S)[P.length+r]? = some x:=by
    have:=UF (P:=P) (W:=X.take r) (u:=x) (V:=[y]++X.drop (r+1)++S) (i:=P.length+r) (by rw[hlt']);rw[htake]
    simpa only [QXN]using this
   have g2:(P++X.take (r+1)++[y]++X.drop (r+1)++S)[P.length+(r+1)]? = some y:=by
    have:=UF (P:=P) (W:=X.take (r+1)) (u:=y) (V:=X.drop (r+1)++S) (i:=P.length+(r+1)) (by rw[QYp];omega)
    simpa only [QXN]using this
   have g3:((P++X.take (r+1)++[y]++X.drop (r+1)++S).set (P.length+(r+1)) x)[P.length+r]? = some x:=by
    rw[QZo (by omega),g1]
   have hset:((P++X.take (r+1)++[y]++X.drop (r+1)++S).set (P.length+(r+1)) x).set (P.length+r) y=P++X.take r++[y]++X.drop r++S:=by
    rw[hdrop,htake];simp[hlt']
   simp only[d0,e7,f0,f17,K6 hlv (show P.length+(r+1)<N by omega),K6 hlv (show P.length+r<N by omega),K5 hlv g1 ex,K5 hlv g2 ey,ex.len,ey.len,ex.leaf,ey.leaf,UE hlv g2 ey ex hcz,UE hlv g3 ex ey hcz,Qa,seval];exact⟨r-j,by omega,_,r,by rw[hset]<;>rfl,rfl,by omega,by omega,by simp only[f0,Qa,seval],by simp only[f14,Qa,seval],by simp only[Qa,seval]⟩
  ·have d0:decide (((P.length+t:Nat):Int) > ((P.length+j:Nat):Int))=false:=by simp only[QZj];omega
   have htj:t=j:=by omega
   subst htj;have hfin:P++X.take t++[y]++X.drop t++S=P++mg (lt c) X [y]++S:=by rw[hres];simp
   simp only[d0,hfin,put_len,Qa,seval]

end Go.Proofs.YtipjfckmopekaaaGreatDoor.Tz

namespace Go.Proofs.YtipjfckmopekaaaGreatDoor.Tz
open Go Am Bt Tg So
variable {Pg:Program}{cz sr ro sm is st ss:Nat}(hC:Tg.Cs Pg cz sr ro sm is st ss)(hcz:cz≠0)

variable {E:AV→Prop}

include hC hcz in
theorem QaH (cmp:AV){fr:Nat→Ob}{lv s g N a b n:Nat}(P X Y S:List AV){m:Qo}(hlv:lv<m.length)(hX:0<X.length)(hY:0<Y.length)(he:∀x∈P++X++Y++S,Ez E cz x)
  (hn:(P++X++Y++S).length<4611686018427387904) (hN:N=(P++X++Y++S).length) (ha:a=P.length) (hb:b=P.length+X.length) (hc:n=P.length+X.length+Y.length) :
  Qg Pg ro [.vec (lv+1) s g 0 N false,.int .i64 (a:Nat),.int .i64 (b:Nat),.int .i64 (n:Nat),cmp] (fr :: Am.put m lv s (.vec g cz (P++X++Y++S)))
   (fun x m1=>x=.tup []∧m1=fr :: Am.put m lv s (.vec g cz (P++Y++X++S))):=by
 have _:=hC;have _:=hcz;subst hN ha hb hc;refine(QRU hC hcz cmp (lv+1) s g P X Y S (fr :: Am.put m lv s (.vec g cz (P++X++Y++S))) (Qz (m:=m) hlv) hX hY he hn).mono fun x m1 h=>⟨h.1,?_⟩
 rw[h.2];simp only[Am.put,Wq]

def U3 (Pg:Program)(cz sm:Nat)(E:AV→Prop)(kc:Nat)(c:AV→AV→Int)(n:Nat):Prop :=
 ∀(lv s g:Nat) (P X Y S:List AV) (m:Qo),X.length+Y.length=n→0<X.length→0<Y.length→Am.Qf m lv s=.vec g cz (P++X++Y++S)→(∀x∈P++X++Y++S,Ez E cz x)→
  (P++X++Y++S).length<4611686018427387904→Zi (lt c) X→Zi (lt c) Y→
  Qg Pg sm [.vec lv s g 0 (P++X++Y++S).length false,.int .i64 (P.length:Nat),.int .i64 ((P.length+X.length:Nat):Int),.int .i64 ((P.length+X.length+Y.length:Nat):Int),.fn (.func kc) [] []] m
   (fun v m1=>v=.tup []∧m1=Am.put m lv s (.vec g cz (P++mg (lt c) X Y++S)))

include hC hcz in
theorem YR {kc:Nat}{c:AV→AV→Int}{n:Nat}(h:U3 Pg cz sm E kc c n){fr:Nat→Ob}{lv s g N a b e:Nat}(P X Y S:List AV){m:Qo}(hlv:lv<m.length)(hXY:X.length+Y.length=n)(hX:0<X.length)(hY:0<Y.length)(he:∀x∈P++X++Y++S,Ez E cz x)
  (hn:(P++X++Y++S).length<4611686018427387904) (sX:Zi (lt c) X) (sY:Zi (lt c) Y) (hN:N=(P++X++Y++S).length) (ha:a=P.length) (hb:b=P.length+X.length) (hc:e=P.length+X.length+Y.length) :
  Qg Pg sm [.vec (lv+1) s g 0 N false,.int .i64 (a:Nat),.int .i64 (b:Nat),.int .i64 (e:Nat),.fn (.func kc) [] []] (fr :: Am.put m lv s (.vec g cz (P++X++Y++S)))
   (fun x m1=>x=.tup []∧m1=fr :: Am.put m lv s (.vec g cz (P++mg (lt c) X Y++S))):=by
 have _:=hC;have _:=hcz;subst hN ha hb hc;refine(h (lv+1) s g P X Y S (fr :: Am.put m lv s (.vec g cz (P++X++Y++S))) hXY hX hY (Qz (m:=m) hlv) he hn sX sY).mono fun x m1 h=>⟨h.1,?_⟩
 rw[h.2];simp only[Am.put,Wq]

def ScS (cz:Nat)(m:Qo)(lv s g N mid s0 r0:Nat)(kc:Nat)(c:AV→AV→Int)(P X Y S:List AV)(k:Nat)(st:St):Prop :=
 ∃f i j,st=⟨f,[Qc]++Am.put m lv s (.vec g cz (P++X++Y++S)),[]⟩∧k=j-i∧s0≤i∧i≤j∧j≤r0∧
  (∀k x y,s0≤k→k<i→X[k-P.length]? = some x→Y[mid-1-k]? = some y→lt c y x=false)∧(∀k x y,j≤k→k<r0→X[k-P.length]? = some x→Y[mid-1-k]? = some y→lt c y x=true)∧
  f 0=.vec (lv+1) s g 0 N false∧f 1=.int .i64 (P.length:Nat)∧f 2=.int .i64 ((P.length+X.length:Nat):Int)∧f 3=.int .i64 ((P.length+X.length+Y.length:Nat):Int)∧f 4=.fn (.func kc) [] []∧
  f 18=.int .i64 (mid:Nat)∧f 19=.int .i64 ((mid+(P.length+X.length):Nat):Int)∧f 22=.int .i64 ((mid+(P.length+X.length)-1:Nat):Int)∧f 20=.int .i64 (i:Nat)∧f 21=.int .i64 (j:Nat)

theorem Se {c:AV→AV→Int}(hsw:SW (lt c)){X Y:List AV}{p mid t:Nat}{s0 r0:Nat}(sX:Zi (lt c) X)(sY:Zi (lt c) Y)(h1:s0≤t)(h2:t≤r0)(hp:p≤t)(htm:t≤mid)(hr:r0=mid∨r0=p+X.length)(hs:mid-s0≥Y.length∨s0=p)(hs2:mid-s0≤Y.length)(hr2:r0≤p+X.length)
  (hlow:∀k x y,s0≤k→k<t→X[k-p]? = some x→Y[mid-1-k]? = some y→lt c y x=false) (hhigh:∀k x y,t≤k→k<r0→X[k-p]? = some x→Y[mid-1-k]? = some y→lt c y x=true) :
  mg (lt c) X Y=mg (lt c) (X.take (t-p)) (Y.take (mid-t))++mg (lt c) (X.drop (t-p)) (Y.drop (mid-t)):=by
 have key:=WD (lt:=lt c) _ (X.take (t-p)) (Y.take (mid-t)) (X.drop (t-p)) (Y.drop (mid-t)) rfl ?_ ?_
 ·rwa [QYI,QYI]at key
 ·intro y hy x hx;obtain⟨k,hk⟩:=QZz hy;obtain⟨l,hl⟩:=QZz hx;rw[QX5]at hk;split at hk
  ·rename_i hkt;rw[QX6]at hl;have hlX:t-p+l<X.length:=(QXs.1 hl).1;have hkY:k<Y.length:=(QXs.1 hk).1;have htr:t<r0:=by rcases hr with h|h<;>omega
   by_cases hY2:mid-1-t<Y.length
   ·obtain⟨x0,hx0⟩:∃x,X[t-p]? = some x:=⟨_,QXt (by omega)⟩;obtain⟨y0,hy0⟩:∃y,Y[mid-1-t]? = some y:=⟨_,QXt hY2⟩;have h0:=hhigh t x0 y0 (QXq _) htr hx0 hy0;have h3:=KC hsw sY (show k≤mid-1-t by omega) hk hy0 h0;have h4:=KP sX hsw (show t-p≤t-p+l by omega) hx0 hl;cases hb:lt c y x with
    |true=>rfl
    |false=>
     have:=hsw.nt y x x0 hb h4;rw[h3]at this;cases this
   ·exfalso;omega
  ·cases hk
 ·intro x hx y hy;obtain⟨k,hk⟩:=QZz hy;obtain⟨l,hl⟩:=QZz hx;rw[QX5]at hl;split at hl
  ·rename_i hlt;rw[QX6]at hk;have hkY:mid-t+k<Y.length:=(QXs.1 hk).1;have hlX:l<X.length:=(QXs.1 hl).1;have hst:s0<t:=by rcases hs with h|h<;>omega
   by_cases hX2:t-1-p<X.length
   ·obtain⟨x0,hx0⟩:∃x,X[t-1-p]? = some x:=⟨_,QXt hX2⟩;obtain⟨y0,hy0⟩:∃y,Y[mid-1-(t-1)]? = some y:=⟨_,QXt (by omega)⟩;have h0:=hlow (t-1) x0 y0 (by omega) (by omega) hx0 hy0;have h3:=KP sX hsw (show l≤t-1-p by omega) hl hx0;have h4:lt c y x0=false:=by
     cases hb:lt c y x0 with
     |false=>rfl
     |true=>
      have:=KC hsw sY (show mid-1-(t-1)≤mid-t+k by omega) hy0 hk hb;rw[h0]at this;cases this
    exact hsw.nt y x0 x h4 h3
   ·exfalso;omega
  ·cases hl

section
variable {kc:Nat}{c:AV→AV→Int}{nn lv s g N:Nat}{P X1 X2 Y1 Y2 S:List AV}{m:Qo}{f:Fr}

include hC hcz in
theorem QHz (ih:∀n,n<nn→U3 Pg cz sm E kc c n)(hnn:X2.length+Y2.length<nn)(hlv:lv<m.length)(he:∀x∈P++X2++Y2++S,Ez E cz x)(hN:N=(P++X2++Y2++S).length)(hn:N<4611686018427387904)
  (sX:Zi (lt c) X2) (sY:Zi (lt c) Y2) (f0:f 0=.vec (lv+1) s g 0 N false) (f3:f 3=.int .i64 ((P.length+X2.length+Y2.length:Nat):Int)) (f4:f 4=.fn (.func kc) [] []) (f18:f 18=.int .i64 (P.length:Nat)) (f24:f 24=.int .i64 ((P.length+X2.length:Nat):Int)) :
  QH Pg (.seq (.reg (Kh cz sr ro sm is st)) (.cond (.t 213) (.reg (Ki cz sr ro sm is st)) (.skip))) ⟨f,Qc :: Am.put m lv s (.vec g cz (P++X2++Y2++S)),[]⟩
   (Zl G6 m.length (fun v m1=>v=.tup []∧m1=Am.put m lv s (.vec g cz (P++mg (lt c) X2 Y2++S)))):=by
 have _:=hC;have _:=hcz;simp only[Kh,Ki,G6,f18,f24,Qa,seval];by_cases h1:0<X2.length
 ·have d1:decide ((P.length:Int)<((P.length+X2.length:Nat):Int))=true:=by simp only[QXx];omega
  by_cases h2:0<Y2.length
  ·have d2:decide (((P.length+X2.length:Nat):Int)<((P.length+X2.length+Y2.length:Nat):Int))=true:=by simp only[QXx];omega
   simp only[d1,d2,f0,f3,f4,f18,f24,Qa,seval];refine Qj (YR hC hcz (ih _ hnn) P X2 Y2 S hlv rfl h1 h2 he (by omega) sX sY hN rfl rfl rfl) rfl ?_;simp only[put_len,Qa,seval]
  ·have d2:decide (((P.length+X2.length:Nat):Int)<((P.length+X2.length+Y2.length:Nat):Int))=false:=by simp only[QZj];omega
   have hy:Y2=[]:=QYw (by omega);have hfin:P++X2++Y2++S=P++mg (lt c) X2 Y2++S:=by rw[hy,Jt];simp
   simp only[d1,d2,f3,f24,hfin,put_len,Qa,seval]
 ·have d1:decide ((P.length:Int)<((P.length+X2.length:Nat):Int))=false:=by simp only[QZj];omega
  have hx:X2=[]:=QYw (by omega);have hfin:P++X2++Y2++S=P++mg (lt c) X2 Y2++S:=by rw[hx,Z4];simp
  simp only[d1,hfin,put_len,Qa,seval]

include hC hcz in
theorem QHA (ih:∀n,n<nn→U3 Pg cz sm E kc c n)(hn1:X1.length+Y1.length<nn)(hn2:X2.length+Y2.length<nn)(hlv:lv<m.length)(he:∀x∈P++X1++Y1++(X2++Y2++S),Ez E cz x)(hN:N=(P++X1++Y1++(X2++Y2++S)).length)(hn:N<4611686018427387904)
  (sX1:Zi (lt c) X1) (sY1:Zi (lt c) Y1) (sX:Zi (lt c) X2) (sY:Zi (lt c) Y2) (f0:f 0=.vec (lv+1) s g 0 N false) (f1:f 1=.int .i64 (P.length:Nat)) (f3:f 3=.int .i64 ((P.length+X1.length+Y1.length+X2.length+Y2.length:Nat):Int)) (f4:f 4=.fn (.func kc) [] []) (f18:f 18=.int .i64 ((P.length+X1.length+Y1.length:Nat):Int)) (f20:f 20=.int .i64 ((P.length+X1.length:Nat):Int)) (f24:f 24=.int .i64 ((P.length+X1.length+Y1.length+X2.length:Nat):Int)) :
  QH Pg (.seq (.seq (.reg (WJ cz sr ro sm is st)) (.cond (.t 199) (.reg (WK cz sr ro sm is st)) (.skip))) (.seq (.reg (Kh cz sr ro sm is st)) (.cond (.t 213) (.reg (Ki cz sr ro sm is st)) (.skip)))) ⟨f,Qc :: Am.put m lv s (.vec g cz (P++X1++Y1++(X2++Y2++S))),[]⟩
   (Zl G6 m.length (fun v m1=>v=.tup []∧m1=Am.put m lv s (.vec g cz (P++(mg (lt c) X1 Y1++mg (lt c) X2 Y2)++S)))):=by
 have _:=hC;have _:=hcz;have hlm:(mg (lt c) X1 Y1).length=X1.length+Y1.length:=QwW _ _ _ rfl;have hlen:N=P.length+X1.length+Y1.length+X2.length+Y2.length+S.length:=by rw[hN];simp only[QX4];omega
 have hem:∀x∈P++mg (lt c) X1 Y1++X2++Y2++S,Ez E cz x:=by
  intro x hx;refine he x ?_;simp only[QYK]at hx ⊢;rcases hx with(((hx|hx)|hx)|hx)|hx
  ·exact .inl (.inl (.inl hx))
  ·exact(QwX _ _ _ rfl hx).elim (fun h=>.inl (.inl (.inr h))) (fun h=>.inl (.inr h))
  ·exact .inr (.inl (.inl hx))
  ·exact .inr (.inl (.inr hx))
  ·exact .inr (.inr hx)
 have go:∀f:Fr,f 0=.vec (lv+1) s g 0 N false→f 3=.int .i64 ((P.length+X1.length+Y1.length+X2.length+Y2.length:Nat):Int)→f 4=.fn (.func kc) [] []→f 18=.int .i64 ((P.length+X1.length+Y1.length:Nat):Int)→f 24=.int .i64 ((P.length+X1.length+Y1.length+X2.length:Nat):Int)→
   QH Pg (.seq (.reg (Kh cz sr ro sm is st)) (.cond (.t 213) (.reg (Ki cz sr ro sm is st)) (.skip))) ⟨f,Qc :: Am.put m lv s (.vec g cz (P++mg (lt c) X1 Y1++(X2++Y2++S))),[]⟩
   (Zl G6 m.length (fun v m1=>v=.tup []∧m1=Am.put m lv s (.vec g cz (P++(mg (lt c) X1 Y1++mg (lt c) X2 Y2)++S)))):=by
  intro f f0 f3 f4 f18 f24;have hpl:(P++mg (lt c) X1 Y1).length=P.length+X1.length+Y1.length:=by rw[QX4,hlm];omega
  have:=QHz hC hcz (P:=P++mg (lt c) X1 Y1) (X2:=X2) (Y2:=Y2) (S:=S) (m:=m) (f:=f) (g:=g) (s:=s) ih hn2 hlv hem (by rw[hlen];simp only[QX4,hlm];omega) hn sX sY f0 (by rw[hpl];exact f3) f4 (by rw[hpl];exact f18) (by rw[hpl];exact f24);rw[show P++mg (lt c) X1 Y1++(X2++Y2++S)=P++mg (lt c) X1 Y1++X2++Y2++S by simp only[QXN],show P++(mg (lt c) X1 Y1++mg (lt c) X2 Y2)++S=P++mg (lt c) X1 Y1++mg (lt c) X2 Y2++S by simp only[QXN]];exact this
 rw[YC,YC];simp only[WJ,WK,f1,f20,YB,J8,ZN,J7,J9,Hh,Un,Qt,QT,Q0,cond_true,cond_false,QYj,seval,Jk];by_cases h1:0<X1.length
 ·have d1:decide ((P.length:Int)<((P.length+X1.length:Nat):Int))=true:=by simp only[QXx];omega
  by_cases h2:0<Y1.length
  ·have d2:decide (((P.length+X1.length:Nat):Int)<((P.length+X1.length+Y1.length:Nat):Int))=true:=by simp only[QXx];omega
   simp only[d1,d2,f0,f1,f4,f18,f20,YB,ZM,J6,J8,ZN,J7,J9,Hh,Ku,Un,DV,KM,YD,Qt,QT,Q0,cond_true,cond_false,QYj,seval,Jk];refine Qj (YR hC hcz (ih _ hn1) P X1 Y1 (X2++Y2++S) hlv rfl h1 h2 he (by omega) sX1 sY1 hN rfl rfl rfl) rfl ?_;rw[J6,ZM];refine go _ ?_ ?_ ?_ ?_ ?_
   ·simp only[f0,Qa,seval]
   ·simp only[f3,Qa,seval]
   ·simp only[f4,Qa,seval]
   ·simp only[f18,Qa,seval]
   ·simp only[f24,Qa,seval]
  ·have d2:decide (((P.length+X1.length:Nat):Int)<((P.length+X1.length+Y1.length:Nat):Int))=false:=by simp only[QZj];omega
   have hy:Y1=[]:=QYw (by omega);have hres:mg (lt c) X1 Y1=X1++Y1:=by rw[hy,Jt,QYv]
   rw[hres,←QXN P X1 Y1]at go;simp only[d1,d2,hres,f18,f20,ZM,J6,J8,ZN,J7,J9,Hh,Ku,Un,DV,KM,Kt,Yh,Qt,QT,Q0,cond_true,cond_false,QYj,seval,Jk];refine go _ ?_ ?_ ?_ ?_ ?_
   ·simp only[f0,Qa,seval]
   ·simp only[f3,Qa,seval]
   ·simp only[f4,Qa,seval]
   ·simp only[f18,Qa,seval]
   ·simp only[f24,Qa,seval]
 ·have d1:decide ((P.length:Int)<((P.length+X1.length:Nat):Int))=false:=by simp only[QZj];omega
  have hx:X1=[]:=QYw (by omega);have hres:mg (lt c) X1 Y1=X1++Y1:=by rw[hx,Z4,QXP]
  rw[hres,←QXN P X1 Y1]at go;simp only[d1,hres,ZM,J6,J8,ZN,J7,J9,Hh,WT,Un,DV,KM,Kt,Yh,Qt,cond_true,cond_false,QYj,seval,Jk];refine go _ ?_ ?_ ?_ ?_ ?_
  ·simp only[f0,Qa,seval]
  ·simp only[f3,Qa,seval]
  ·simp only[f4,Qa,seval]
  ·simp only[f18,Qa,seval]
  ·simp only[f24,Qa,seval]

include hC hcz in
theorem QHB (ih:∀n,n<nn→U3 Pg cz sm E kc c n)(hn1:X1.length+Y1.length<nn)(hn2:X2.length+Y2.length<nn)(hlv:lv<m.length)(he:∀x∈P++X1++X2++Y1++(Y2++S),Ez E cz x)(hN:N=(P++X1++X2++Y1++(Y2++S)).length)(hn:N<4611686018427387904)
  (sX1:Zi (lt c) X1) (sY1:Zi (lt c) Y1) (sX:Zi (lt c) X2) (sY:Zi (lt c) Y2) (f0:f 0=.vec (lv+1) s g 0 N false) (f1:f 1=.int .i64 (P.length:Nat)) (f2:f 2=.int .i64 ((P.length+X1.length+X2.length:Nat):Int)) (f3:f 3=.int .i64 ((P.length+X1.length+Y1.length+X2.length+Y2.length:Nat):Int)) (f4:f 4=.fn (.func kc) [] []) (f18:f 18=.int .i64 ((P.length+X1.length+Y1.length:Nat):Int)) (f19:f 19=.int .i64 ((P.length+X1.length+Y1.length+(P.length+X1.length+X2.length):Nat):Int)) (f20:f 20=.int .i64 ((P.length+X1.length:Nat):Int)) :
  QH Pg (.seq (.reg (Yq cz sr ro sm is st)) (.seq (.seq (.reg (Yr cz sr ro sm is st)) (.cond (.t 185) (.reg (Ys cz sr ro sm is st)) (.skip))) (.seq (.seq (.reg (WJ cz sr ro sm is st)) (.cond (.t 199) (.reg (WK cz sr ro sm is st)) (.skip))) (.seq (.reg (Kh cz sr ro sm is st)) (.cond (.t 213) (.reg (Ki cz sr ro sm is st)) (.skip)))))) ⟨f,Qc :: Am.put m lv s (.vec g cz (P++X1++X2++Y1++(Y2++S))),[]⟩
   (Zl G6 m.length (fun v m1=>v=.tup []∧m1=Am.put m lv s (.vec g cz (P++(mg (lt c) X1 Y1++mg (lt c) X2 Y2)++S)))):=by
 have _:=hC;have _:=hcz;have hlen:N=P.length+X1.length+Y1.length+X2.length+Y2.length+S.length:=by rw[hN];simp only[QX4];omega
 have hem:∀x∈P++X1++Y1++(X2++Y2++S),Ez E cz x:=by
  intro x hx;refine he x ?_;simp only[QYK]at hx ⊢;rcases hx with((hx|hx)|hx)|((hx|hx)|hx)
  ·exact .inl (.inl (.inl (.inl hx)))
  ·exact .inl (.inl (.inl (.inr hx)))
  ·exact .inl (.inr hx)
  ·exact .inl (.inl (.inr hx))
  ·exact .inr (.inl hx)
  ·exact .inr (.inr hx)
 have go:∀f:Fr,f 0=.vec (lv+1) s g 0 N false→f 1=.int .i64 (P.length:Nat)→f 3=.int .i64 ((P.length+X1.length+Y1.length+X2.length+Y2.length:Nat):Int)→f 4=.fn (.func kc) [] []→f 18=.int .i64 ((P.length+X1.length+Y1.length:Nat):Int)→f 20=.int .i64 ((P.length+X1.length:Nat):Int)→f 24=.int .i64 ((P.length+X1.length+Y1.length+X2.length:Nat):Int)→_ :=
  fun f f0 f1 f3 f4 f18 f20 f24=>QHA hC hcz (P:=P) (X1:=X1) (Y1:=Y1) (X2:=X2) (Y2:=Y2) (S:=S) (m:=m) (f:=f) (g:=g) (s:=s) ih hn1 hn2 hlv hem (by rw[hlen];simp only[QX4];omega) hn sX1 sY1 sX sY f0 f1 f3 f4 f18 f20 f24
 have e1:IntKind.i64.wrap (((P.length+X1.length+Y1.length+(P.length+X1.length+X2.length):Nat):Int)-((P.length+X1.length:Nat):Int))=((P.length+X1.length+Y1.length+X2.length:Nat):Int):=by rw[QE];omega
 rw[YC];simp only[Yq,e1,f19,f20,YB,ZM,J6,J8,ZN,J7,J9,Un,Qt,QT,Q0,cond_true,cond_false,QYj,seval,Jk];rw[YC,YC];simp only[Yr,f2,f20,YB,J8,ZN,J7,J9,Hh,Un,Qt,QT,Q0,cond_true,cond_false,QYj,seval,Jk];by_cases h1:0<X2.length
 ·have d1:decide (((P.length+X1.length:Nat):Int)<((P.length+X1.length+X2.length:Nat):Int))=true:=by simp only[QXx];omega
  by_cases h2:0<Y1.length
  ·have d2:decide (((P.length+X1.length+X2.length:Nat):Int)<((P.length+X1.length+Y1.length+X2.length:Nat):Int))=true:=by simp only[QXx];omega
   simp only[Ys,d1,d2,f0,f2,f4,f20,YB,ZM,J6,J8,ZN,J7,J9,Hh,Ku,Un,DV,KM,YD,Qt,QT,Q0,cond_true,cond_false,QYj,seval,Jk];refine Qj (QaH hC hcz (.fn (.func kc) [] []) (P++X1) X2 Y1 (Y2++S) (n:=P.length+X1.length+Y1.length+X2.length) hlv h1 h2 he (by omega) hN (by rw[QX4]) (by rw[QX4]) (by rw[QX4];omega)) rfl ?_;rw[J6,ZM];rw[show P++X1++Y1++X2++(Y2++S)=P++X1++Y1++(X2++Y2++S)by simp only[QXN]];refine go _ ?_ ?_ ?_ ?_ ?_ ?_ ?_
   ·simp only[f0,Qa,seval]
   ·simp only[f1,Qa,seval]
   ·simp only[f3,Qa,seval]
   ·simp only[f4,Qa,seval]
   ·simp only[f18,Qa,seval]
   ·simp only[f20,Qa,seval]
   ·simp only[Qa,seval]
  ·have d2:decide (((P.length+X1.length+X2.length:Nat):Int)<((P.length+X1.length+Y1.length+X2.length:Nat):Int))=false:=by simp only[QZj];omega
   have hy:Y1=[]:=QYw (by omega);have hrow:P++X1++X2++Y1++(Y2++S)=P++X1++Y1++(X2++Y2++S):=by rw[hy];simp
   simp only[d1,d2,hrow,f2,ZM,J6,J8,ZN,J7,J9,Hh,Ku,Un,DV,KM,Kt,Yh,Qt,QT,Q0,cond_true,cond_false,QYj,seval,Jk];refine go _ ?_ ?_ ?_ ?_ ?_ ?_ ?_
   ·simp only[f0,Qa,seval]
   ·simp only[f1,Qa,seval]
   ·simp only[f3,Qa,seval]
   ·simp only[f4,Qa,seval]
   ·simp only[f18,Qa,seval]
   ·simp only[f20,Qa,seval]
   ·simp only[Qa,seval]
 ·have d1:decide (((P.length+X1.length:Nat):Int)<((P.length+X1.length+X2.length:Nat):Int))=false:=by simp only[QZj];omega
  have hx:X2=[]:=QYw (by omega);have hrow:P++X1++X2++Y1++(Y2++S)=P++X1++Y1++(X2++Y2++S):=by rw[hx];simp
  simp only[d1,hrow,ZM,J6,J8,ZN,J7,J9,Hh,WT,Un,DV,KM,Kt,Yh,Qt,cond_true,cond_false,QYj,seval,Jk];refine go _ ?_ ?_ ?_ ?_ ?_ ?_ ?_
  ·simp only[f0,Qa,seval]
  ·simp only[f1,Qa,seval]
  ·simp only[f3,Qa,seval]
  ·simp only[f4,Qa,seval]
  ·simp only[f18,Qa,seval]
  ·simp only[f20,Qa,seval]
  ·simp only[Qa,seval]

end

set_option maxHeartbeats 1000000 in
include hC hcz in
theorem QRY {kc:Nat}{c:AV→AV→Int}(hc:Cp Pg cz E kc c)(nn:Nat)(ih:∀n,n<nn→U3 Pg cz sm E kc c n)(lv s g:Nat)(P X Y S:List AV)(m:Qo)(hXY:X.length+Y.length=nn)(hX1:1<X.length)(hY1:1<Y.length)(hl:Am.Qf m lv s=.vec g cz (P++X++Y++S))(he:∀x∈P++X++Y++S,Ez E cz x)
  (hn:(P++X++Y++S).length<4611686018427387904) (sX:Zi (lt c) X) (sY:Zi (lt c) Y) :
  Qg Pg sm [.vec lv s g 0 (P++X++Y++S).length false,.int .i64 (P.length:Nat),.int .i64 ((P.length+X.length:Nat):Int),.int .i64 ((P.length+X.length+Y.length:Nat):Int),.fn (.func kc) [] []] m
   (fun v m1=>v=.tup []∧m1=Am.put m lv s (.vec g cz (P++mg (lt c) X Y++S))):=by
 have _:=hC;have _:=hcz;have hlv:lv<m.length:=QW (by rw[hl];simp);have hlen:(P++X++Y++S).length=P.length+X.length+Y.length+S.length:=by simp only[QX4]
 refine hC.csm.go (by simp) ?_;have e1:(IntKind.i64.wrap (((P.length+X.length:Nat):Int)-(P.length:Int))==1)=false:=by rw[QE];simp only[QY8,ne_eq];omega
 have e2:(IntKind.i64.wrap (((P.length+X.length+Y.length:Nat):Int)-((P.length+X.length:Nat):Int))==1)=false:=by rw[QE];simp only[QY8,ne_eq];omega
 have e3:IntKind.i64.wrap ((P.length:Int)+((P.length+X.length+Y.length:Nat):Int))=((P.length+(P.length+X.length+Y.length):Nat):Int):=by rw[QE];omega
 have e4:=CH P.length (P.length+X.length+Y.length) (by omega);generalize hmid:(P.length+(P.length+X.length+Y.length)) / 2=mid at *;have e5:IntKind.i64.wrap ((mid:Int)+((P.length+X.length:Nat):Int))=((mid+(P.length+X.length):Nat):Int):=by rw[QE];omega
 have e6:IntKind.i64.wrap (((mid+(P.length+X.length):Nat):Int)-((P.length+X.length+Y.length:Nat):Int))=((mid+(P.length+X.length)-(P.length+X.length+Y.length):Nat):Int)∨mid<Y.length:=by
  by_cases h:mid<Y.length
  ·exact .inr h
  ·refine .inl ?_;rw[QE];omega
 have e7:IntKind.i64.wrap (((mid+(P.length+X.length):Nat):Int)-1)=((mid+(P.length+X.length)-1:Nat):Int):=by rw[QE];omega
 simp only[T2,Ft,GN,GP,GQ,GR,GS,GT,GU,GV,GW,GX,e1,e2,e3,e4,e5,Qa,seval];have h0:m=Am.put m lv s (.vec g cz (P++X++Y++S)):=(Jw hl).symm;generalize hN:(P++X++Y++S).length=N at *
 -- the search, from whatever bounds
 have main:∀(Q:Exit→St→Prop) (f:Fr) (s0 r0:Nat),s0≤r0→r0≤mid→(r0=mid∨r0=P.length+X.length)→(mid-s0≥Y.length∨s0=P.length)→mid-s0≤Y.length→r0≤P.length+X.length→P.length≤s0→
   f 0=.vec (lv+1) s g 0 N false→f 1=.int .i64 (P.length:Nat)→f 2=.int .i64 ((P.length+X.length:Nat):Int)→f 3=.int .i64 ((P.length+X.length+Y.length:Nat):Int)→f 4=.fn (.func kc) [] []→
   f 18=.int .i64 (mid:Nat)→f 19=.int .i64 ((mid+(P.length+X.length):Nat):Int)→f 22=.int .i64 ((mid+(P.length+X.length)-1:Nat):Int)→f 20=.int .i64 (s0:Nat)→f 21=.int .i64 (r0:Nat)→
   (∀(f:Fr) (t:Nat),s0≤t→t≤r0→mg (lt c) X Y=mg (lt c) (X.take (t-P.length)) (Y.take (mid-t))++mg (lt c) (X.drop (t-P.length)) (Y.drop (mid-t))→
    f 0=.vec (lv+1) s g 0 N false→f 1=.int .i64 (P.length:Nat)→f 2=.int .i64 ((P.length+X.length:Nat):Int)→f 3=.int .i64 ((P.length+X.length+Y.length:Nat):Int)→f 4=.fn (.func kc) [] []→
    f 18=.int .i64 (mid:Nat)→f 19=.int .i64 ((mid+(P.length+X.length):Nat):Int)→f 20=.int .i64 (t:Nat)→Q (.exit 8) ⟨f,Qc :: Am.put m lv s (.vec g cz (P++X++Y++S)),[]⟩)→
   QH Pg (.loop (G5 cz sr ro sm is st)) ⟨f,Qc :: m,[]⟩ Q:=by
  intro Q f s0 r0 hsr hrm hr hs hs2 hr2 hps f0 f1 f2 f3 f4 f18 f19 f22 f20 f21 hQ;refine Qd (ScS cz m lv s g N mid s0 r0 kc c P X Y S) _ ⟨_,s0,r0,by rw[←h0]<;>rfl,rfl,QXq _,hsr,QXq _,(by intro k x y h1 h2;omega),(by intro k x y h1 h2;omega),f0,f1,f2,f3,f4,f18,f19,f22,f20,f21⟩ ?_;clear f0 f1 f2 f3 f4 f18 f19 f22 f20 f21 f;rintro k st ⟨f,i,j,rfl,rfl,hsi,hij,hj,hp,hq,f0,f1,f2,f3,f4,f18,f19,f22,f20,f21⟩;simp only[G5,GY,GZ,G0,G3,G4,f20,f21,Qa,seval];by_cases hlt:i<j
  ·have d0:decide ((i:Int)<(j:Int))=true:=by simp only[QXx];omega
   have e8:IntKind.i64.wrap ((i:Int)+(j:Int))=((i+j:Nat):Int):=by rw[QE];omega
   have e9:=CH i j (by omega);generalize hh:(i+j) / 2=h at *;have hh1:h<j:=by omega
   have hh2:i≤h:=by omega
   have ea:IntKind.i64.wrap ((h:Int)+1)=((h+1:Nat):Int):=by rw[QE];omega
   have eb:IntKind.i64.wrap (((mid+(P.length+X.length)-1:Nat):Int)-(h:Int))=((P.length+X.length+(mid-1-h):Nat):Int):=by rw[QE];omega
   obtain⟨x,hx⟩:∃x,X[h-P.length]? = some x:=⟨_,QXt (by omega)⟩;obtain⟨y,hy⟩:∃y,Y[mid-1-h]? = some y:=⟨_,QXt (by omega)⟩;have ex:Ez E cz x:=he x (by simp[QXF hx]);have ey:Ez E cz y:=he y (by simp[QXF hy]);have gx:(P++X++Y++S)[h]? = some x:=by
    rw[QXN,QXN,QYS (by omega),QYR (by omega),hx]
   have gy:(P++X++Y++S)[P.length+X.length+(mid-1-h)]? = some y:=by
    rw[QXN,QYS (by rw[QX4];omega),QYR (by rw[QX4];omega),←hy];congr 1;rw[QX4];omega
   simp only[d0,e8,e9,eb,f0,f4,f20,f21,f22,K6 hlv (show P.length+X.length+(mid-1-h)<N by omega),K6 hlv (show h<N by omega),K5 hlv gy ey,K5 hlv gx ex,Qa,seval];refine Wk (by simp only[Qa,seval]) (hc.call y x ey ex) (W5 ey ex _) (KQ ey ex) rfl (.inl (KQ ey ex)) ?_;cases hcx:decide (c y x<0)with
   |true=>
    simp only[hcx,Qa,seval];have hq':∀k x' y',h≤k→k<r0→X[k-P.length]? = some x'→Y[mid-1-k]? = some y'→lt c y' x'=true:=by
     intro k x' y' hk hk2 hx' hy';have h3:=KC hc.sw sY (show mid-1-k≤mid-1-h by omega) hy' hy hcx;have h4:=KP sX hc.sw (show h-P.length≤k-P.length by omega) hx hx';cases hb:lt c y' x' with
     |true=>rfl
     |false=>
      have:=hc.sw.nt y' x' x hb h4;rw[h3]at this;cases this
    exact⟨h-i,by omega,_,i,h,rfl,rfl,hsi,by omega,by omega,hp,hq',by simp only[f0,Qa,seval],by simp only[f1,Qa,seval],by simp only[f2,Qa,seval],by simp only[f3,Qa,seval],by simp only[f4,Qa,seval],by simp only[f18,Qa,seval],by simp only[f19,Qa,seval],by simp only[f22,Qa,seval],by simp only[f20,Qa,seval],by simp only[Qa,seval]⟩
   |false=>
    simp only[hcx,ea,Qa,seval];exact⟨j-(h+1),by omega,_,h+1,j,rfl,rfl,by omega,by omega,hj,fun k x' y' hk hk2 hx' hy'=>by
     have h3:=KP sX hc.sw (show k-P.length≤h-P.length by omega) hx' hx;have h4:lt c y' x=false:=by
      cases hb:lt c y' x with
      |false=>rfl
      |true=>exact absurd (KC hc.sw sY (show mid-1-h≤mid-1-k by omega) hy hy' hb) (by show ¬(decide _=true);rw[hcx];simp)
     exact hc.sw.nt y' x x' h4 h3,hq,by simp only[f0,Qa,seval],by simp only[f1,Qa,seval],by simp only[f2,Qa,seval],by simp only[f3,Qa,seval],by simp only[f4,Qa,seval],by simp only[f18,Qa,seval],by simp only[f19,Qa,seval],by simp only[f22,Qa,seval],by simp only[Qa,seval],by simp only[f21,Qa,seval]⟩
  ·have d0:decide ((i:Int)<(j:Int))=false:=by simp only[QZj];omega
   have hij':j=i:=by omega
   subst hij';simp only[d0,Qa,seval];refine hQ _ j (by omega) (by omega) (Se hc.sw sX sY hsi hj (by omega) (by omega) hr hs hs2 hr2 hp hq) ?_ ?_ ?_ ?_ ?_ ?_ ?_ ?_
   ·simp only[f0,Qa,seval]
   ·simp only[f1,Qa,seval]
   ·simp only[f2,Qa,seval]
   ·simp only[f3,Qa,seval]
   ·simp only[f4,Qa,seval]
   ·simp only[f18,Qa,seval]
   ·simp only[f19,Qa,seval]
   ·simp only[f20,Qa,seval]
 have hb1:mid≤P.length+X.length+Y.length:=by omega
 have fin:∀(f:Fr) (t:Nat),P.length≤t→t≤mid→t≤P.length+X.length→mid-t≤Y.length→mg (lt c) X Y=mg (lt c) (X.take (t-P.length)) (Y.take (mid-t))++mg (lt c) (X.drop (t-P.length)) (Y.drop (mid-t))→
    f 0=.vec (lv+1) s g 0 N false→f 1=.int .i64 (P.length:Nat)→f 2=.int .i64 ((P.length+X.length:Nat):Int)→f 3=.int .i64 ((P.length+X.length+Y.length:Nat):Int)→f 4=.fn (.func kc) [] []→
    f 18=.int .i64 (mid:Nat)→f 19=.int .i64 ((mid+(P.length+X.length):Nat):Int)→f 20=.int .i64 (t:Nat)→
   QH Pg (.seq (.reg (Yq cz sr ro sm is st)) (.seq (.seq (.reg (Yr cz sr ro sm is st)) (.cond (.t 185) (.reg (Ys cz sr ro sm is st)) (.skip))) (.seq (.seq (.reg (WJ cz sr ro sm is st)) (.cond (.t 199) (.reg (WK cz sr ro sm is st)) (.skip))) (.seq (.reg (Kh cz sr ro sm is st)) (.cond (.t 213) (.reg (Ki cz sr ro sm is st)) (.skip)))))) ⟨f,Qc :: Am.put m lv s (.vec g cz (P++X++Y++S)),[]⟩
   (Zl G6 m.length (fun v m1=>v=.tup []∧m1=Am.put m lv s (.vec g cz (P++mg (lt c) X Y++S)))):=by
  intro f t h1 h2 h3 h4 hmg f0 f1 f2 f3 f4 f18 f19 f20;have l1:(X.take (t-P.length)).length=t-P.length:=by rw[QYp];omega
  have l2:(X.drop (t-P.length)).length=P.length+X.length-t:=by rw[QX7];omega
  have l3:(Y.take (mid-t)).length=mid-t:=by rw[QYp];omega
  have l4:(Y.drop (mid-t)).length=Y.length-(mid-t):=by rw[QX7]
  have hrow:P++X.take (t-P.length)++X.drop (t-P.length)++Y.take (mid-t)++(Y.drop (mid-t)++S)=P++X++Y++S:=by
   rw[QXN P,QYI,←QXN _ _ S,QXN (P++X),QYI]
  have:=QHB hC hcz (kc:=kc) (c:=c) (nn:=nn) (lv:=lv) (s:=s) (g:=g) (N:=N) (P:=P) (X1:=X.take (t-P.length)) (X2:=X.drop (t-P.length)) (Y1:=Y.take (mid-t)) (Y2:=Y.drop (mid-t)) (S:=S) (m:=m) (f:=f) ih
   (by rw[l1,l3];omega) (by rw[l2,l4];omega) hlv (by rw[hrow];exact he) (by rw[hrow,hN]) hn
   (List.Pairwise.sublist (List.take_sublist _ _) sX) (List.Pairwise.sublist (List.take_sublist _ _) sY) (List.Pairwise.sublist (List.drop_sublist _ _) sX) (List.Pairwise.sublist (List.drop_sublist _ _) sY)
   f0 f1 (by rw[f2,l1,l2];congr 2;omega) (by rw[f3,l1,l2,l3,l4];congr 2;omega) f4 (by rw[f18,l1,l3];congr 2;omega) (by rw[f19,l1,l2,l3];congr 2;omega) (by rw[f20,l1];congr 2;omega)
  rw[hrow,←hmg]at this;exact this
 by_cases hgt:mid<P.length+X.length
 ·have d0:decide (((P.length+X.length:Nat):Int) > (mid:Int))=true:=by simp only[QXx];omega
  have hmy:Y.length≤mid:=by omega
  have e6':=e6.resolve_right (by omega);simp only[d0,e6',e7,Qa,seval];refine main _ _ (mid+(P.length+X.length)-(P.length+X.length+Y.length)) mid (by omega) (by omega) (.inl rfl) (.inl (by omega)) (by omega) (by omega) (by omega) ?_ ?_ ?_ ?_ ?_ ?_ ?_ ?_ ?_ ?_ ?_
  case refine_11=>
   intro f t h1 h2 hmg f0 f1 f2 f3 f4 f18 f19 f20;rw[Gf,QXV rfl,ZM];exact fin f t (by omega) (by omega) (by omega) (by omega) hmg f0 f1 f2 f3 f4 f18 f19 f20
  all_goals simp only[Qa,seval]
 ·have d0:decide (((P.length+X.length:Nat):Int) > (mid:Int))=false:=by simp only[QZj];omega
  simp only[d0,e7,Qa,seval];refine main _ _ P.length (P.length+X.length) (by omega) (by omega) (.inr rfl) (.inr rfl) (by omega) (by omega) (by omega) ?_ ?_ ?_ ?_ ?_ ?_ ?_ ?_ ?_ ?_ ?_
  case refine_11=>
   intro f t h1 h2 hmg f0 f1 f2 f3 f4 f18 f19 f20;rw[Gf,QXV rfl,ZM];exact fin f t (by omega) (by omega) (by omega) (by omega) hmg f0 f1 f2 f3 f4 f18 f19 f20
  all_goals simp only[Qa,seval]

include hC hcz in
theorem sym {kc:Nat}{c:AV→AV→Int}(hc:Cp Pg cz E kc c):∀n,U3 Pg cz sm E kc c n:=by
 have _:=hC;have _:=hcz;intro n
 induction n using Nat.strongRecOn with
 |_ n ih=>
 intro lv s g P X Y S m hXY hX hY hl he hn sX sY;by_cases h1:X.length=1
 ·obtain⟨x,rfl⟩:=List.length_eq_one_iff.1 h1;exact QRW hC hcz hc lv s g P x Y S m hl he hn sY
 ·by_cases h2:Y.length=1
  ·obtain⟨y,rfl⟩:=List.length_eq_one_iff.1 h2;exact QRX hC hcz hc lv s g P X y S m hl he hn sX h1
  ·exact QRY hC hcz hc n ih lv s g P X Y S m hXY (by omega) (by omega) hl he hn sX sY

end Go.Proofs.YtipjfckmopekaaaGreatDoor.Tz

namespace Go.Proofs.YtipjfckmopekaaaGreatDoor.Tz
open Go Am Bt Tg So
variable {Pg:Program}{cz sr ro sm is st ss:Nat}(hC:Tg.Cs Pg cz sr ro sm is st ss)(hcz:cz≠0)

variable {E:AV→Prop}

include hC hcz in
theorem Vr {kc:Nat}{c:AV→AV→Int}(hc:Cp Pg cz E kc c){fr:Nat→Ob}{lv s g N a b:Nat}(P X S:List AV){m:Qo}(hlv:lv<m.length)(he:∀x∈P++X++S,Ez E cz x)
  (hn:(P++X++S).length<4611686018427387904) (hN:N=(P++X++S).length) (ha:a=P.length) (hb:b=P.length+X.length) :
  Qg Pg is [.vec (lv+1) s g 0 N false,.int .i64 (a:Nat),.int .i64 (b:Nat),.fn (.func kc) [] []] (fr :: Am.put m lv s (.vec g cz (P++X++S)))
   (fun x m1=>x=.tup []∧m1=fr :: Am.put m lv s (.vec g cz (P++QF (lt c) X++S))):=by
 have _:=hC;have _:=hcz;subst hN ha hb;refine(QRV hC hcz hc (lv+1) s g P X S (fr :: Am.put m lv s (.vec g cz (P++X++S))) (Qz (m:=m) hlv) he hn).mono fun x m1 h=>⟨h.1,?_⟩
 rw[h.2];simp only[Am.put,Wq]

def St1 (cz:Nat)(m:Qo)(lv s g:Nat)(kc:Nat)(c:AV→AV→Int)(xs:List AV)(k:Nat)(st:St):Prop :=
 ∃f i,st=⟨f,[Qc]++Am.put m lv s (.vec g cz (Q9 (lt c) 20 i xs++xs.drop (20*i))),[]⟩∧k=xs.length-20*i∧20*i≤xs.length∧
  f 0=.vec (lv+1) s g 0 xs.length false∧f 1=.int .i64 (xs.length:Nat)∧f 2=.fn (.func kc) [] []∧f 6=.int .i64 20∧f 7=.int .i64 ((20*i:Nat):Int)∧f 8=.int .i64 ((20*(i+1):Nat):Int)

def St2 (cz:Nat)(m:Qo)(lv s g:Nat)(kc:Nat)(c:AV→AV→Int)(xs:List AV)(k:Nat)(st:St):Prop :=
 ∃f b n,st=⟨f,[Qc]++Am.put m lv s (.vec g cz (Q9 (lt c) b n xs)),[]⟩∧k=xs.length-b∧0<b∧b<2305843009213693952∧xs.length≤b*n∧
  f 0=.vec (lv+1) s g 0 xs.length false∧f 1=.int .i64 (xs.length:Nat)∧f 2=.fn (.func kc) [] []∧f 6=.int .i64 (b:Nat)

def St3 (cz:Nat)(m:Qo)(lv s g:Nat)(kc:Nat)(c:AV→AV→Int)(xs:List AV)(b:Nat)(k:Nat)(st:St):Prop :=
 ∃f i n,st=⟨f,[Qc]++Am.put m lv s (.vec g cz (Q9 (lt c) (2*b) i xs++Q9 (lt c) b n (xs.drop (2*b*i)))),[]⟩∧k=xs.length-2*b*i∧2*b*i≤xs.length∧xs.length-2*b*i≤b*n∧
  f 0=.vec (lv+1) s g 0 xs.length false∧f 1=.int .i64 (xs.length:Nat)∧f 2=.fn (.func kc) [] []∧f 6=.int .i64 (b:Nat)∧f 7=.int .i64 ((2*b*i:Nat):Int)∧f 8=.int .i64 ((2*b*(i+1):Nat):Int)

set_option maxHeartbeats 1000000 in
include hC hcz in
theorem QRZ {kc:Nat}{c:AV→AV→Int}(hc:Cp Pg cz E kc c)(lv s g:Nat)(xs:List AV)(m:Qo)(hl:Am.Qf m lv s=.vec g cz xs)(he:∀x∈xs,Ez E cz x)
  (hn:xs.length<1152921504606846976) :
  Qg Pg st [.vec lv s g 0 xs.length false,.int .i64 (xs.length:Nat),.fn (.func kc) [] []] m
   (fun x m1=>x=.tup []∧m1=Am.put m lv s (.vec g cz (QF (lt c) xs))):=by
 have _:=hC;have _:=hcz;have hlv:lv<m.length:=QW (by rw[hl];simp);refine hC.cst.go (by simp) ?_;have h0:m=Am.put m lv s (.vec g cz xs):=(Jw hl).symm;simp only[rst,Ac,Ad,Qa,seval];refine Qd (St1 cz m lv s g kc c xs) _ ⟨_,0,by rw[show Q9 (lt c) 20 0 xs++xs.drop (20*0)=xs by simp[Q9],←h0]<;>rfl,rfl,by omega,by simp only[Qa,seval],by simp only[Qa,seval],by simp only[Qa,seval],by simp only[Qa,seval],by simp only[Qa,seval]<;>rfl,by simp only[Qa,seval]<;>rfl⟩ ?_;clear h0;rintro k st ⟨f,i,rfl,rfl,hi,f0,f1,f2,f6,f7,f8⟩;simp only[Ai,Ae,f1,f8,Qa,seval];have hbl:(Q9 (lt c) 20 i xs).length=20*i:=by rw[UY];omega
 by_cases hlt:20*(i+1)≤xs.length
 ·have d0:decide (((20*(i+1):Nat):Int)≤(xs.length:Int))=true:=by simp only[QXx];omega
  have e1:IntKind.i64.wrap (((20*(i+1):Nat):Int)+20)=((20*(i+1+1):Nat):Int):=by rw[QE];omega
  have hcut:Q9 (lt c) 20 i xs++xs.drop (20*i)=Q9 (lt c) 20 i xs++(xs.drop (20*i)).take 20++xs.drop (20*(i+1)):=by
   rw[QXN,show 20*(i+1)=20*i+20 by omega,←QXU,QYI]
  have hx1:((xs.drop (20*i)).take 20).length=20:=by rw[QYp,QX7];omega
  have hee:∀x∈Q9 (lt c) 20 i xs++(xs.drop (20*i)).take 20++xs.drop (20*(i+1)),Ez E cz x:=by
   intro x hx;refine he x ?_;rcases QYK.1 hx with hx|hx
   ·rcases QYK.1 hx with hx|hx
    ·exact Wo hx
    ·exact QYe (QYf hx)
   ·exact QYe hx
  have hNN:(Q9 (lt c) 20 i xs++(xs.drop (20*i)).take 20++xs.drop (20*(i+1))).length=xs.length:=by
   rw[QX4,QX4,hx1,hbl,QX7];omega
  simp only[d0,hcut,Af,f0,f2,f7,f8,Qa,seval];refine Qj (Vr hC hcz hc (a:=20*i) (b:=20*(i+1)) (Q9 (lt c) 20 i xs) ((xs.drop (20*i)).take 20) (xs.drop (20*(i+1))) hlv hee (by omega) hNN.symm hbl.symm (by rw[hbl,hx1];omega)) rfl ?_;simp only[Ag,Ah,e1,f6,f8,Qa,seval];exact⟨xs.length-20*(i+1),by omega,_,i+1,by rw[YQ]<;>rfl,rfl,hlt,by simp only[f0,Qa,seval],by simp only[f1,Qa,seval],by simp only[f2,Qa,seval],by simp only[f6,Qa,seval],by simp only[Qa,seval],by simp only[Qa,seval]⟩
 ·have d0:decide (((20*(i+1):Nat):Int)≤(xs.length:Int))=false:=by simp only[QZj];omega
  have hee:∀x∈Q9 (lt c) 20 i xs++xs.drop (20*i)++[],Ez E cz x:=by
   intro x hx;refine he x ?_;rw[QYv]at hx;rcases QYK.1 hx with hx|hx
   ·exact Wo hx
   ·exact QYe hx
  have hNN:(Q9 (lt c) 20 i xs++xs.drop (20*i)++[]).length=xs.length:=by
   rw[QYv,QX4,hbl,QX7];omega
  have hic:=Vr hC hcz hc (fr:=Qc) (g:=g) (s:=s) (N:=xs.length) (a:=20*i) (b:=xs.length) (Q9 (lt c) 20 i xs) (xs.drop (20*i)) [] hlv hee (by omega) hNN.symm hbl.symm (by rw[hbl,QX7];omega);have hsn:Q9 (lt c) 20 i xs++QF (lt c) (xs.drop (20*i))=Q9 (lt c) 20 (i+1) xs:=by
   rw[YQ,QX0 (by rw[QX7];omega)]
  rw[QYv,QYv,hsn]at hic;simp only[d0,Aj,f0,f1,f2,f7,Qa,seval];refine Qj hic rfl ?_;simp only[Qa,seval];refine Qd (St2 cz m lv s g kc c xs) _ ⟨_,20,i+1,rfl,rfl,by omega,by omega,by omega,by simp only[f0,Qa,seval],by simp only[f1,Qa,seval],by simp only[f2,Qa,seval],by simp only[f6,Qa,seval]<;>rfl⟩ ?_;clear f0 f1 f2 f6 f7 f8 hic hsn hNN hee d0 hlt hbl hi f i;rintro k st ⟨f,b,n,rfl,rfl,hb0,hb1,hbn,f0,f1,f2,f6⟩;simp only[Ap,Ak,f1,f6,Qa,seval];by_cases hlt:b<xs.length
  ·have d0:decide ((b:Int)<(xs.length:Int))=true:=by simp only[QXx];omega
   have e1:IntKind.i64.wrap (2*(b:Int))=((2*b:Nat):Int):=by rw[QE];omega
   have e1':IntKind.i64.wrap ((b:Int)*2)=((2*b:Nat):Int):=by rw[QE];omega
   simp only[d0,Al,e1,f6,Qa,seval];refine Qd (St3 cz m lv s g kc c xs b) _ ⟨_,0,n,by simp only[Q9,Nat.mul_zero,QX9,QXP]<;>rfl,rfl,by omega,by omega,by simp only[f0,Qa,seval],by simp only[f1,Qa,seval],by simp only[f2,Qa,seval],by simp only[f6,Qa,seval],by simp only[Qa,seval]<;>rfl,by simp only[QX8,Nat.mul_one,Qa,seval]⟩ ?_;clear f0 f1 f2 f6 f;rintro k st ⟨f,i,n',rfl,rfl,hi,hn',f0,f1,f2,f6,f7,f8⟩;have hA1:2*b*(i+1)=2*b*i+2*b:=Nat.mul_succ _ _;have hA2:2*b*(i+1+1)=2*b*i+2*b+2*b:=by rw[Nat.mul_succ,hA1]
   have hbl:(Q9 (lt c) (2*b) i xs).length=2*b*i:=by rw[UY];omega
   have hsnoc:=YQ (lt:=lt c) (2*b) i xs;rw[hA1]at f8;clear hbn;generalize hA:2*b*i=A at *;simp only[Ao,An,f1,f8,Qa,seval];generalize hL:xs.drop A=L at *;have hLl:L.length=xs.length-A:=by rw[←hL,QX7]
   have hLe:∀z∈L,Ez E cz z:=fun z hz=>he z (QYe (by rw[hL];exact hz))
   have hPe:∀z∈Q9 (lt c) (2*b) i xs,Ez E cz z:=fun z hz=>he z (Wo hz)
   have e2:IntKind.i64.wrap (((A:Nat):Int)+(b:Int))=((A+b:Nat):Int):=by rw[QE];omega
   -- Xg blocks and the rest
   have Xg:b<L.length→∃n'',n'=n''+2∧Q9 (lt c) b n' L=QF (lt c) (L.take b)++QF (lt c) ((L.drop b).take b)++Q9 (lt c) b n'' (L.drop (2*b))∧mg (lt c) (QF (lt c) (L.take b)) (QF (lt c) ((L.drop b).take b))=QF (lt c) (L.take (2*b)):=by
    intro h
    match n',hn' with
    |0,hn'=>omega
    |1,hn'=>omega
    |n''+2,_=>
     refine⟨n'',rfl,?_,?_⟩
     ·rw[Q9,Q9,QXN,QXU,show b+b=2*b by omega]
     ·rw[WC hc.sw,R3]
   by_cases hlt2:A+2*b≤xs.length
   ·have d1:decide (((A+2*b:Nat):Int)≤(xs.length:Int))=true:=by simp only[QXx];omega
    obtain⟨n'',rfl,hrow,hmg⟩:=Xg (by omega);have hn2:b*(n''+2)=b*n''+2*b:=by rw[Nat.mul_add,Nat.mul_comm b 2]
    rw[hn2]at hn';clear Xg;generalize hZ:b*n''=Z at *;have e3:IntKind.i64.wrap (((A+2*b:Nat):Int)+((2*b:Nat):Int))=((A+2*b+2*b:Nat):Int):=by
     rw[QE];omega
    have l1:(QF (lt c) (L.take b)).length=b:=by rw[Ju,QYp];omega
    have l2:(QF (lt c) ((L.drop b).take b)).length=b:=by rw[Ju,QYp,QX7];omega
    have l3:(Q9 (lt c) b n'' (L.drop (2*b))).length=L.length-2*b:=by
     rw[UY,QX7,hZ];omega
    have hcut:Q9 (lt c) (2*b) i xs++Q9 (lt c) b (n''+2) L=Q9 (lt c) (2*b) i xs++QF (lt c) (L.take b)++QF (lt c) ((L.drop b).take b)++Q9 (lt c) b n'' (L.drop (2*b)):=by
     rw[hrow];simp only[QXN]
    have hee:∀x∈Q9 (lt c) (2*b) i xs++QF (lt c) (L.take b)++QF (lt c) ((L.drop b).take b)++Q9 (lt c) b n'' (L.drop (2*b)),Ez E cz x:=by
     rw[←hcut];intro x hx;rcases QYK.1 hx with hx|hx
     ·exact hPe x hx
     ·exact hLe x (Wo hx)
    have hNN:(Q9 (lt c) (2*b) i xs++QF (lt c) (L.take b)++QF (lt c) ((L.drop b).take b)++Q9 (lt c) b n'' (L.drop (2*b))).length=xs.length:=by
     rw[QX4,QX4,QX4,l1,l2,l3,hbl];omega
    simp only[d1,hcut,e2,PP,f0,f2,f6,f7,f8,Qa,seval];refine Qj (YR hC hcz (sym hC hcz hc _) (a:=A) (b:=A+b) (e:=A+2*b) (Q9 (lt c) (2*b) i xs) (QF (lt c) (L.take b)) (QF (lt c) ((L.drop b).take b)) (Q9 (lt c) b n'' (L.drop (2*b))) hlv rfl (by omega) (by omega) hee (by omega) (ZA hc.sw _) (ZA hc.sw _) hNN.symm hbl.symm (by rw[hbl,l1]) (by rw[hbl,l1,l2];omega)) rfl ?_;simp only[PQ,PR,e1,e3,f6,f8,Qa,seval];refine⟨xs.length-(A+2*b),by omega,_,i+1,n'',by rw[hsnoc,hmg,hA1,←QXU,hL]<;>rfl,by rw[hA1],by rw[hA1];exact hlt2,?_,by simp only[f0,Qa,seval],by simp only[f1,Qa,seval],by simp only[f2,Qa,seval],by simp only[f6,Qa,seval],by simp only[hA1,Qa,seval],by simp only[hA2,Qa,seval]⟩
    ·rw[hA1,hZ];omega
   ·have d1:decide (((A+2*b:Nat):Int)≤(xs.length:Int))=false:=by simp only[QZj];omega
    have hfin:Q9 (lt c) (2*b) i xs++QF (lt c) L=Q9 (lt c) (2*b) (i+1) xs:=by
     rw[hsnoc,QX0 (by omega)]
    simp only[d1,e2,PT,PU,f1,f6,f7,Qa,seval];by_cases hm:A+b<xs.length
    ·have d2:decide (((A+b:Nat):Int)<(xs.length:Int))=true:=by simp only[QXx];omega
     obtain⟨n'',rfl,hrow,hmg⟩:=Xg (by omega);clear Xg hn';have hr0:L.drop (2*b)=[]:=QX3 (by omega);have hr1:(L.drop b).take b=L.drop b:=QX0 (by rw[QX7];omega);have hr2:L.take (2*b)=L:=QX0 (by omega);rw[hr0,Dy,QYv,hr1]at hrow;rw[hr1,hr2]at hmg;have l1:(QF (lt c) (L.take b)).length=b:=by rw[Ju,QYp];omega
     have l2:(QF (lt c) (L.drop b)).length=L.length-b:=by rw[Ju,QX7]
     have hee:∀x∈Q9 (lt c) (2*b) i xs++QF (lt c) (L.take b)++QF (lt c) (L.drop b)++[],Ez E cz x:=by
      intro x hx;rw[QYv,QXN,←hrow]at hx;rcases QYK.1 hx with hx|hx
      ·exact hPe x hx
      ·exact hLe x (Wo hx)
     have hNN:(Q9 (lt c) (2*b) i xs++QF (lt c) (L.take b)++QF (lt c) (L.drop b)++[]).length=xs.length:=by
      rw[QYv,QX4,QX4,l1,l2,hbl];omega
     have hsc:=YR hC hcz (sym hC hcz hc _) (fr:=Qc) (s:=s) (g:=g) (N:=xs.length) (a:=A) (b:=A+b) (e:=xs.length) (Q9 (lt c) (2*b) i xs) (QF (lt c) (L.take b)) (QF (lt c) (L.drop b)) [] hlv rfl (by omega) (by omega) hee (by omega) (ZA hc.sw _) (ZA hc.sw _) hNN.symm hbl.symm (by rw[hbl,l1]) (by rw[hbl,l1,l2];omega);rw[QYv,QYv,hmg,hfin,QXN,←hrow]at hsc;simp only[d2,PV,f0,f1,f2,f7,Qa,seval];refine Qj hsc rfl ?_;simp only[B9,e1',f6,Qa,seval];exact⟨xs.length-2*b,by omega,_,2*b,i+1,rfl,rfl,by omega,by omega,by rw[hA1];omega,by simp only[f0,Qa,seval],by simp only[f1,Qa,seval],by simp only[f2,Qa,seval],by simp only[Qa,seval]⟩
    ·have d2:decide (((A+b:Nat):Int)<(xs.length:Int))=false:=by simp only[QZj];omega
     have hrow:Q9 (lt c) b n' L=QF (lt c) L:=Vh (by omega) (by omega);simp only[d2,hrow,hfin,B9,e1',f6,Qa,seval];exact⟨xs.length-2*b,by omega,_,2*b,i+1,rfl,rfl,by omega,by omega,by rw[hA1];omega,by simp only[f0,Qa,seval],by simp only[f1,Qa,seval],by simp only[f2,Qa,seval],by simp only[Qa,seval]⟩
  ·have d0:decide ((b:Int)<(xs.length:Int))=false:=by simp only[QZj];omega
   have hfin:Q9 (lt c) b n xs=QF (lt c) xs:=Vh (by omega) hbn;simp only[d0,hfin,put_len,ost,Qa,seval]

include hC hcz in
theorem Sf {kc:Nat}{c:AV→AV→Int}(hc:Cp Pg cz E kc c)(lv s g:Nat)(xs:List AV)(m:Qo)(hl:Am.Qf m lv s=.vec g cz xs)(he:∀x∈xs,Ez E cz x)
  (hn:xs.length<1152921504606846976) :
  Qg Pg ss [.vec lv s g 0 xs.length false,.fn (.func kc) [] []] m
   (fun x m1=>x=.tup []∧m1=Am.put m lv s (.vec g cz (QF (lt c) xs))):=by
 have _:=hC;have _:=hcz;have hlv:lv<m.length:=QW (by rw[hl];simp);refine hC.css.go (by simp) ?_;have hl2:Am.Qf (Qc :: m) (lv+1) s=.vec g cz xs:=hl;simp only[Aq,rss,oss,hl2,Qa,seval];refine Qj ((QRZ hC hcz hc (lv+1) s g xs (Qc :: m) hl he hn).mono fun x m1 h=>⟨h.1,h.2.trans rfl⟩) rfl ?_;simp only[Am.put,put_len,Qa,seval]

end Go.Proofs.YtipjfckmopekaaaGreatDoor.Tz

namespace Go.Proofs.YtipjfckmopekaaaGreatDoor.Tg
open Go Am

theorem QHC:Cs Tryz.prog 4 287 268 231 230 187 100 where
 csr:=ck Tryz.func287 Tryz.ntmps287 (by decide +kernel)
 cro:=ck Tryz.func268 Tryz.ntmps268 (by decide +kernel)
 csm:=ck Tryz.func231 Tryz.ntmps231 (by decide +kernel)
 cis:=ck Tryz.func230 Tryz.ntmps230 (by decide +kernel)
 cst:=ck Tryz.func187 Tryz.ntmps187 (by decide +kernel)
 css:=ck Tryz.func100 Tryz.ntmps100 (by decide +kernel)

theorem Qxc:Cs Tryz.prog 8 295 281 255 254 223 182 where
 csr:=ck Tryz.func295 Tryz.ntmps295 (by decide +kernel)
 cro:=ck Tryz.func281 Tryz.ntmps281 (by decide +kernel)
 csm:=ck Tryz.func255 Tryz.ntmps255 (by decide +kernel)
 cis:=ck Tryz.func254 Tryz.ntmps254 (by decide +kernel)
 cst:=ck Tryz.func223 Tryz.ntmps223 (by decide +kernel)
 css:=ck Tryz.func182 Tryz.ntmps182 (by decide +kernel)

theorem Qxd:Cs Tryz.prog 14 304 296 283 282 256 225 where
 csr:=ck Tryz.func304 Tryz.ntmps304 (by decide +kernel)
 cro:=ck Tryz.func296 Tryz.ntmps296 (by decide +kernel)
 csm:=ck Tryz.func283 Tryz.ntmps283 (by decide +kernel)
 cis:=ck Tryz.func282 Tryz.ntmps282 (by decide +kernel)
 cst:=ck Tryz.func256 Tryz.ntmps256 (by decide +kernel)
 css:=ck Tryz.func225 Tryz.ntmps225 (by decide +kernel)

end Go.Proofs.YtipjfckmopekaaaGreatDoor.Tg

namespace Go.Proofs.YtipjfckmopekaaaGreatDoor.Rc
open Go Am
abbrev QR0:IL:=[je 3 3 0,je 5 5 2,jh 6]
abbrev QR1:IL:=[jf 11 2 3,MK 12 7 11,jz 13 12,ja 14 13,jv 15 1 14,yf 16 0 15 14,yk 17 16 300 14,jo 18 14 17,ja 19 18,yv 20 7 5 19,⟨some 21,.callR (.f 8) [(.t 20),(.c (.int .i64 500))],(some (19,false))⟩,ze 22 21 19,jo 23 19 22]
abbrev QR2:IL:=[zz 24 9,ja 6 24]
abbrev QR3:IL:=[jf 26 2 3,ja 27 1,jf 28 7 5,yd 29 10 26 27 28,ja 25 29,jx 30 25 0,jx 31 25 1,ja 7 30,ja 8 31]
abbrev QR4:IL:=[jf 33 2 3,ja 34 1,jf 35 7 5,yd 36 11 33 34 35,ja 32 36,jx 37 32 0,jx 38 32 1,ja 9 37,ja 10 38]
abbrev QR5:IL:=[ja 39 7,ja 40 9,F5 41 39 40,ja 42 41,jg 43 8 42,jg 44 10 42,MA 45 43 44 42,jj 46 42 45,ja 47 46,zt 48 0 3 2 3 47,jg 49 1 47,zt 50 0 5 7 5 47,D3 51 12 48 49 50 47,zt 52 0 3 2 3 47,jg 53 1 47,zt 54 0 5 7 5 47,D3 55 13 52 53 54 47,MA 56 51 55 47,jj 57 47 56,ja 58 57,F4 59 9 58,jj 60 58 59,ja 6 60]
abbrev r3:RC:=jQ QR0 (.seq (jQ QR1 (.cond (.t 23) (jQ QR2 (.ret)) (.skip))) (jQ QR3 (jQ QR4 (jD QR5 (.ret)))))
abbrev o3:List RR:=[.tmp 6]
theorem k3:CT 3 61 r3 o3:=ck Tryz.func3 Tryz.ntmps3 (by decide +kernel)
abbrev QR6:IL:=[je 3 3 0,je 5 5 2,jh 6]
abbrev QR7:IL:=[jf 7 2 3,MK 8 7 7,jz 9 8,ja 10 9,yv 11 7 5 10,⟨some 12,.callR (.f 8) [(.t 11),(.c (.int .i64 500))],(some (10,false))⟩,ze 13 12 10,jo 14 10 13,ja 15 14,yv 16 2 3 15,jv 17 1 15,yv 18 7 5 15,⟨some 19,.call (.f 14) [(.t 16),(.t 17),(.t 18)],(some (15,false))⟩,NV 20 19 0 15,jo 21 15 20]
abbrev QR8:IL:=[zz 22 9,ja 6 22]
abbrev QR9:IL:=[jw 23 0 3 2 3,ja 24 1,jw 25 0 5 7 5,yd 26 15 23 24 25,jw 27 0 3 2 3,ja 28 1,jw 29 0 5 7 5,yd 30 16 27 28 29,F5 31 26 30,ja 32 31,F4 33 9 32,jj 34 32 33,ja 6 34]
abbrev r4:RC:=jQ QR6 (.seq (jQ QR7 (.cond (.t 21) (jQ QR8 (.ret)) (.skip))) (jD QR9 (.ret)))
abbrev o4:List RR:=[.tmp 6]
theorem k4:CT 4 35 r4 o4:=ck Tryz.func4 Tryz.ntmps4 (by decide +kernel)
abbrev QSa:IL:=[je 3 3 0,je 5 5 2,jh 6]
abbrev QSb:IL:=[jf 8 2 3,MK 9 7 8,jz 10 9,ja 11 10,yv 12 7 5 11,⟨some 13,.callR (.f 8) [(.t 12),(.c (.int .i64 500))],(some (11,false))⟩,ze 14 13 11,jo 15 11 14,ja 16 15,yv 17 2 3 16,jv 18 1 16,yv 19 7 5 16,⟨some 20,.call (.f 17) [(.t 17),(.t 18),(.t 19)],(some (16,false))⟩,ze 21 20 16,jo 22 16 21]
abbrev QSc:IL:=[zz 23 9,ja 6 23]
abbrev QSd:IL:=[jd 7 0]
abbrev QSe:IL:=[ja 24 7,jb 25 5 5,jc 26 25,ji 27 1 26,jn 28 24 27]
abbrev QSf:IL:=[jw 31 0 3 2 3,ja 32 1,jb 33 5 5,yb 34 0 5 33,ja 35 7,jk 36 8 34 35,ya 37 8 36,yd 38 19 31 32 37,jw 39 0 3 2 3,ja 40 1,jb 41 5 5,yb 42 0 5 41,ja 43 7,jk 44 8 42 43,ya 45 8 44,yd 46 20 39 40 45,jy 47 18 38 46,jz 48 47]
abbrev QSg:IL:=[jh 6]
abbrev QSh:IL:=[ja 29 7,jm 30 29 1,ja 7 30]
abbrev QSi:RC:=.seq (jQ QSe (jX 28 0)) (.seq (.block 1 (jD QSf (.cond (.t 48) (jQ QSg (.ret)) (.skip)))) (.reg QSh))
abbrev QSj:IL:=[zz 49 9,ja 6 49]
abbrev r5:RC:=jQ QSa (.seq (jQ QSb (.cond (.t 22) (jQ QSc (.ret)) (.skip))) (.seq (jQ QSd (.block 0 (.loop QSi))) (jQ QSj (.ret))))
abbrev o5:List RR:=[.tmp 6]
theorem k5:CT 5 50 r5 o5:=ck Tryz.func5 Tryz.ntmps5 (by decide +kernel)
abbrev QSk:IL:=[je 3 3 0,je 5 5 2,jh 6]
abbrev QSl:IL:=[jf 9 2 3,MK 10 7 9,jz 11 10,ja 12 11,jv 13 1 12,yf 14 0 13 12,yk 15 14 300 12,jo 16 12 15,ja 17 16,yv 18 7 5 17,⟨some 19,.callR (.f 8) [(.t 18),(.c (.int .i64 500))],(some (17,false))⟩,ze 20 19 17,jo 21 17 20]
abbrev QSm:IL:=[zz 22 9,ja 6 22]
abbrev QSn:IL:=[jf 24 2 3,ja 25 1,jf 26 7 5,yd 27 10 24 25 26,ja 23 27,jx 28 23 0,jx 29 23 1,ja 7 28,ja 8 29]
abbrev QSo:IL:=[ja 30 8,yg 31 30 0]
abbrev QSp:IL:=[ja 32 7,⟨some 33,.val (.bin .str .eql (.t 32) (.c (.str []))),none⟩,ja 34 33,zk 35 2 3 34,jg 36 1 34,zk 37 7 5 34,D3 38 12 35 36 37 34,ym 39 38 (-1) 34,jj 40 34 39,ja 41 40,F4 42 9 41,jj 43 41 42,ja 6 43]
abbrev QSq:IL:=[jf 44 2 3,ja 45 1,jf 46 7 5,yd 47 12 44 45 46,ja 48 7,ji 49 0 48,zm 50 47 49,ja 51 50,jg 52 7 51,yt 53 0 52 51,yy 54 53 65536 51,jj 55 51 54,ja 56 55,F4 57 9 56,jj 58 56 57,ja 6 58]
abbrev r6:RC:=jQ QSk (.seq (jQ QSl (.cond (.t 21) (jQ QSm (.ret)) (.skip))) (jQ QSn (.seq (jQ QSo (.cond (.t 31) (jQ QSp (.ret)) (.skip))) (jQ QSq (.ret)))))
abbrev o6:List RR:=[.tmp 6]
theorem k6:CT 6 59 r6 o6:=ck Tryz.func6 Tryz.ntmps6 (by decide +kernel)
abbrev QSr:IL:=[je 1 1 0,jh 2]
abbrev QSs:IL:=[jf 3 2 1,MK 4 21 3,ja 5 4,zk 6 2 1 5,zh 7 22 6 5,ym 8 7 0 5,jj 9 5 8,ja 2 9]
abbrev r7:RC:=jQ QSr (jQ QSs (.ret))
abbrev o7:List RR:=[.tmp 2]
theorem k7:CT 7 10 r7 o7:=ck Tryz.func7 Tryz.ntmps7 (by decide +kernel)
abbrev QSt:IL:=[je 2 2 0,jh 4]
abbrev QSu:IL:=[jf 5 7 2,ja 6 1,⟨some 7,.callR (.f 23) [(.t 5),(.c (.int .i64 1)),(.t 6)],none⟩,yn 8 7 0,ja 4 8]
abbrev r8:RC:=jQ QSt (jQ QSu (.ret))
abbrev o8:List RR:=[.tmp 4]
theorem k8:CT 8 9 r8 o8:=ck Tryz.func8 Tryz.ntmps8 (by decide +kernel)
abbrev QHD:IL:=[je 3 3 0,je 5 5 2,yi 6,jd 7 0]
abbrev QHE:IL:=[jf 13 2 3,ja 14 1,jy 15 30 13 14,ja 12 15,jx 16 12 0,jx 17 12 1,ja 8 16,ja 9 17]
abbrev QHF:IL:=[ja 18 9,jz 19 18]
abbrev QHG:IL:=[yi 6,jd 7 10]
abbrev QHH:IL:=[jf 20 2 3,ja 21 8,jf 22 7 5,yd 23 14 20 21 22,ja 10 23]
abbrev QHI:IL:=[ja 24 10,yg 25 24 0]
abbrev QHJ:IL:=[ja 26 10,yi 6,ja 7 26]
abbrev QHK:IL:=[jf 27 2 3,ja 28 8,jf 29 7 5,yd 30 16 27 28 29,ja 11 30]
abbrev QHL:IL:=[ja 31 11,ji 32 0 31,yq 33 32 65536]
abbrev QHM:IL:=[yi 6,jd 7 3]
abbrev Qxe:IL:=[ja 34 11,ja 6 34,jd 7 0]
abbrev Z5:RC:=jQ QHD (jQ QHE (.seq (jQ QHF (.cond (.t 19) (jQ QHG (.ret)) (.skip))) (jQ QHH (.seq (jQ QHI (.cond (.t 25) (jQ QHJ (.ret)) (.skip))) (jQ QHK (.seq (jQ QHL (.cond (.t 33) (jQ QHM (.ret)) (.skip))) (jQ Qxe (.ret))))))))
abbrev o11:List RR:=[.tmp 6,.tmp 7]
theorem k11:CT 11 35 Z5 o11:=ck Tryz.func11 Tryz.ntmps11 (by decide +kernel)
abbrev QHN:IL:=[je 3 3 0,je 5 5 2,jd 6 0]
abbrev QHO:IL:=[jf 10 2 3,ja 11 1,jf 12 7 5,yd 13 11 10 11 12,ja 9 13,jx 14 9 0,jx 15 9 1,ja 7 14,ja 8 15]
abbrev QHP:IL:=[ja 16 8,yg 17 16 0]
abbrev QHQ:IL:=[jd 6 (-1)]
abbrev QHR:IL:=[ja 18 7,ji 19 0 18,ja 6 19]
abbrev Ar:RC:=jQ QHN (jQ QHO (.seq (jQ QHP (.cond (.t 17) (jQ QHQ (.ret)) (.skip))) (jQ QHR (.ret))))
abbrev o13:List RR:=[.tmp 6]
theorem k13:CT 13 20 Ar o13:=ck Tryz.func13 Tryz.ntmps13 (by decide +kernel)
abbrev QHS:IL:=[je 3 3 0,je 5 5 2,yi 6]
abbrev QHT:IL:=[ja 7 1,yo 8 7 0,ja 9 8,jv 10 1 9,jp 11 0 3 9,jt 12 11 9,yf 13 1 12 9,DY 14 10 13 9,jo 15 9 14]
abbrev QHU:IL:=[yi 6]
abbrev QHV:IL:=[jw 16 0 3 2 3,ja 17 1,jw 18 0 3 2 3,ja 19 1,jw 20 0 5 7 5,yd 21 35 18 19 20,yd 22 34 16 17 21,jr 23 33 22,ja 6 23]
abbrev r16:RC:=jQ QHS (.seq (jQ QHT (.cond (.t 15) (jQ QHU (.ret)) (.skip))) (jD QHV (.ret)))
abbrev o16:List RR:=[.tmp 6]
theorem k16:CT 16 24 r16 o16:=ck Tryz.func16 Tryz.ntmps16 (by decide +kernel)
abbrev QHW:IL:=[je 3 3 0,je 5 5 2,jh 6]
abbrev QHX:IL:=[jw 7 0 3 2 3,ja 8 1,jw 9 0 5 7 5,yd 10 14 7 8 9,jq 11 10 0,ja 12 11,zt 13 0 5 7 5 12,zt 14 0 3 2 3 12,jg 15 1 12,zt 16 0 5 7 5 12,D3 17 35 14 15 16 12,Gu 18 36 13 17 12,jj 19 12 18,ja 6 19]
abbrev Vs:RC:=jQ QHW (jD QHX (.ret))
abbrev QHY:IL:=[je 3 3 0,je 5 5 2,ye 6]
abbrev QHZ:IL:=[ja 14 1,yo 15 14 0,ja 16 15,jv 17 1 16,jp 18 0 3 16,jt 19 18 16,yf 20 1 19 16,DY 21 17 20 16,jo 22 16 21]
abbrev QH0:IL:=[ye 6]
abbrev QH1:IL:=[jb 24 0 3,yb 25 0 3 24,ja 26 1,jk 27 3 25 26,ya 28 3 27,jb 29 0 5,yb 30 0 5 29,jy 31 38 28 30,ja 23 31,jx 32 23 0,jx 33 23 1,zd 7 7,zp 0 7 8 7 32,ja 8 33]
abbrev QH2:IL:=[ja 34 8,jz 35 34]
abbrev QH3:IL:=[ye 6]
abbrev QH4:IL:=[ye 9]
abbrev QH5:IL:=[jb 47 3 7,jc 48 47,jq 49 48 5,ja 46 49]
abbrev QH6:IL:=[jd 10 0]
abbrev Qxf:IL:=[ja 50 10,jb 51 1 5,jb 52 4 51,jc 53 52,ji 54 1 53,jn 55 50 54]
abbrev Qxg:IL:=[jb 58 1 5,jb 59 4 58,jc 60 59,ja 61 10,jk 62 14 60 61,jb 63 0 62,jf 64 7 63,jr 65 39 64,zn 11 11,js 4 11 65]
abbrev Qxh:IL:=[jb 66 0 11,⟨none,.store 1 (.t 66) (.c (.int .i64 1)),none⟩]
abbrev Qxi:IL:=[jw 67 0 11 4 11,jw 68 0 3 2 3,jw 69 0 7 8 7,jb 70 1 5,jb 71 4 70,yb 72 0 5 71,ja 73 10,jk 74 14 72 73,jb 75 7 74,ya 76 7 75,⟨some 77,.call (.f 40) [(.t 68),(.t 69),(.c (.int .i64 2)),(.t 76)],none⟩,⟨some 78,.bsl 4 2 [.int .i64 0,.int .i64 0,.int .u64 0,.str []] [(0,4,(.t 67)),(4,4,(.t 77))],none⟩,ja 12 78]
abbrev Qxj:IL:=[ja 79 9,jb 80 0 5,yb 81 0 5 80,ja 82 12,jr 83 33 82,⟨some 84,.val (.build [.int .i64 0,.int .i64 0,.int .u64 0,.str []] [(0,1,(.t 81)),(1,1,(.c (.int .i64 6))),(3,1,(.t 83))]),none⟩,zw 85 4 1 0 4 84,yh 86 4 40 52 79 85,ja 9 86]
abbrev Qxk:IL:=[ja 56 10,jm 57 56 1,ja 10 57]
abbrev As:RC:=.gho (.drop 11) (.seq (jQ Qxf (jX 55 1)) (.seq (.block 2 (jQ Qxg (jQ Qxh (jD Qxi (.draw Qxj))))) (.reg Qxk)))
abbrev Qxl:IL:=[jf 88 8 7,jr 89 41 88,ja 87 89]
abbrev Qxm:IL:=[ja 90 9,jb 91 0 5,yb 92 0 5 91,jb 93 1 5,jb 94 3 93,yb 95 0 5 94,jr 96 42 95,⟨some 97,.val (.build [.int .i64 0,.int .i64 0,.int .u64 0,.str []] [(0,1,(.t 92)),(1,1,(.c (.int .i64 5))),(3,1,(.t 96))]),none⟩,zw 98 4 1 0 4 97,yh 99 4 40 52 90 98,ja 9 99]
abbrev Qxn:IL:=[jb 101 3 7,jc 102 101,jq 103 102 4,ja 100 103]
abbrev Qxo:IL:=[jd 13 0]
abbrev Qxp:IL:=[ja 104 13,jb 105 1 5,jb 106 3 105,jc 107 106,ji 108 1 107,jn 109 104 108]
abbrev Qxq:IL:=[ja 112 9,jw 113 0 3 2 3,jw 114 0 7 8 7,jb 115 0 5,yb 116 0 5 115,jb 117 1 5,jb 118 3 117,yb 119 0 5 118,ja 120 13,jk 121 7 119 120,ya 122 7 121,zj 123 40 113 114 116 122,zw 124 4 1 0 4 123,yh 125 4 40 52 112 124,ja 9 125]
abbrev Qxr:IL:=[ja 110 13,jm 111 110 1,ja 13 111]
abbrev Au:RC:=.seq (jQ Qxp (jX 109 3)) (.seq (.block 4 (.draw Qxq)) (.reg Qxr))
abbrev QH7:IL:=[ja 36 9,jf 37 2 3,jf 38 8 7,jb 39 0 5,jc 40 39,jb 41 1 5,jf 42 7 41,zj 43 40 37 38 40 42,zw 44 4 1 0 4 43,yh 45 4 40 52 36 44,ja 9 45]
abbrev Qxs:IL:=[ja 126 9,ja 6 126]
abbrev r20:RC:=jQ QHY (.seq (jQ QHZ (.cond (.t 22) (jQ QH0 (.ret)) (.skip))) (jD QH1 (.seq (jQ QH2 (.cond (.t 35) (jQ QH3 (.ret)) (.skip))) (jQ QH4 (.gho (.vec 9 9 4) (.seq (.block 0 (jQ QH5 (.cond (.t 46) (jQ QH6 (.block 1 (.loop As))) (jQ Qxl (.cond (.t 87) (.draw Qxm) (jQ Qxn (.cond (.t 100) (jQ Qxo (.block 3 (.loop Au))) (.reg QH7)))))))) (jQ Qxs (.ret))))))))
abbrev o20:List RR:=[.tmp 6]
theorem k20:CT 20 127 r20 o20:=ck Tryz.func20 Tryz.ntmps20 (by decide +kernel)
abbrev QH8:IL:=[je 1 1 0,jh 2]
abbrev QH9:IL:=[jb 9 0 1,jc 10 9,ji 11 1 10,yq 12 11 60,ja 13 12,jp 14 1 1 13,jt 15 14 13,yf 16 1 15 13,yk 17 16 60 13,jo 18 13 17]
abbrev QIa:IL:=[jh 2]
abbrev QIb:IL:=[jd 3 400]
abbrev QIc:IL:=[jd 4 0]
abbrev QId:IL:=[ja 19 4,jb 20 0 1,jc 21 20,ji 22 1 21,jn 23 19 22,ja 24 23,jg 25 3 24,Hj 26 25 0 24,jj 27 24 26]
abbrev QIe:IL:=[ja 30 3,jb 31 0 1,jc 32 31,ja 33 4,jk 34 3 32 33,jb 35 1 34,jc 36 35,ji 37 1 36,zg 38 30 37,ja 3 38]
abbrev QIf:IL:=[ja 39 3,yo 40 39 0,ja 41 40,jp 42 0 1 41,jt 43 42 41,jv 44 4 41,yz 45 3 43 44 41,jp 46 0 45 41,jt 47 46 41,yf 48 0 47 41,yk 49 48 300 41,jo 50 41 49]
abbrev QIg:IL:=[jh 2]
abbrev Qxt:IL:=[jd 5 0]
abbrev Qxu:IL:=[ja 51 5,jb 52 0 1,jc 53 52,ja 54 4,jk 55 3 53 54,jb 56 1 55,jc 57 56,ji 58 1 57,jn 59 51 58]
abbrev Qxv:IL:=[jb 62 0 1,jc 63 62,ja 64 4,jk 65 3 63 64,jb 66 1 65,jc 67 66,ja 68 5,jk 69 8 67 68,jb 70 1 69,jc 71 70,ji 72 0 71,yq 73 72 300,ja 74 73,jp 75 0 1 74,jt 76 75 74,jv 77 4 74,yz 78 3 76 77 74,jp 79 1 78 74,jt 80 79 74,jv 81 5 74,yz 82 8 80 81 74,jp 83 2 82 74,jt 84 83 74,yf 85 0 84 74,yk 86 85 300 74,jo 87 74 86]
abbrev Qxw:IL:=[jh 2]
abbrev Qxx:IL:=[ja 60 5,jm 61 60 1,ja 5 61]
abbrev Av:RC:=.seq (jQ Qxu (jX 59 2)) (.seq (.block 3 (jQ Qxv (.cond (.t 87) (jQ Qxw (.ret)) (.skip)))) (.reg Qxx))
abbrev QIh:IL:=[ja 28 4,jm 29 28 1,ja 4 29]
abbrev Aw:RC:=.seq (jQ QId (jX 27 0)) (.seq (.block 1 (jQ QIe (.seq (jQ QIf (.cond (.t 50) (jQ QIg (.ret)) (.skip))) (jQ Qxt (.block 2 (.loop Av)))))) (.reg QIh))
abbrev Qxy:IL:=[jd 6 0]
abbrev Qxz:IL:=[ja 88 6,jb 89 1 1,jc 90 89,ji 91 1 90,jn 92 88 91,ja 93 92,jg 94 3 93,Hj 95 94 0 93,jj 96 93 95]
abbrev QxA:IL:=[jb 99 1 1,jc 100 99,ja 101 6,jk 102 5 100 101,jf 103 5 102,⟨some 7,.allocN 7 [.str [],.bool false,.nils,.nils,.nils],none⟩,js 5 7 103]
abbrev QxB:IL:=[jb 104 2 7,jc 105 104,ji 106 1 105,ja 107 3,F3 108 106 107,ja 109 108,jp 110 3 7 109,jt 111 110 109,yf 112 1 111 109,jv 113 3 109,⟨some 114,.val (.bin .num .gtr (.t 112) (.t 113)),(some (109,false))⟩,jo 115 109 114,ja 116 115,jp 117 0 7 116,jt 118 117 116,yf 119 0 118 116,yk 120 119 300 116,jo 121 116 120]
abbrev QxC:IL:=[jh 2]
abbrev QxD:IL:=[ja 122 3,jb 123 2 7,jc 124 123,ji 125 1 124,zg 126 122 125,jb 127 3 7,jc 128 127,ji 129 1 128,zg 130 126 129,ja 3 130]
abbrev QxE:IL:=[jd 8 0]
abbrev QxF:IL:=[ja 131 8,jb 132 2 7,jc 133 132,ji 134 1 133,jn 135 131 134]
abbrev QxG:IL:=[jb 138 2 7,jc 139 138,ja 140 8,jk 141 3 139 140,jb 142 0 141,jc 143 142,ji 144 0 143,yq 145 144 300,ja 146 145,jp 147 2 7 146,jt 148 147 146,jv 149 8 146,yz 150 3 148 149 146,jp 151 2 150 146,jt 152 151 146,yf 153 1 152 146,yk 154 153 1 146,jo 155 146 154,ja 156 155,jp 157 2 7 156,jt 158 157 156,jv 159 8 156,yz 160 3 158 159 156,jp 161 2 160 156,jt 162 161 156,yf 163 1 162 156,ys 164 163 1 156,jv 165 164 156,jl 166 2 7 165,ju 167 166 165,jg 168 8 165,yc 169 3 167 168 165,jl 170 2 169 165,ju 171 170 165,NS 172 8 171 0 165,jl 173 1 172 165,jl 174 2 173 165,ju 175 174 165,yt 176 0 175 165,F6 177 176 300 165,yw 178 165 177 156,jo 179 156 178]
abbrev QxH:IL:=[jh 2]
abbrev QxI:IL:=[ja 136 8,jm 137 136 1,ja 8 137]
abbrev Ax:RC:=.seq (jQ QxF (jX 135 6)) (.seq (.block 7 (jQ QxG (.cond (.t 179) (jQ QxH (.ret)) (.skip)))) (.reg QxI))
abbrev QxJ:IL:=[ja 97 6,jm 98 97 1,ja 6 98]
abbrev Ay:RC:=.gho (.drop 7) (.seq (jQ Qxz (jX 96 4)) (.seq (.block 5 (jQ QxA (.seq (jQ QxB (.cond (.t 121) (jQ QxC (.ret)) (.skip))) (jQ QxD (jQ QxE (.block 6 (.loop Ax))))))) (.reg QxJ)))
abbrev QxK:IL:=[ja 180 3,yn 181 180 0,ja 2 181]
abbrev r21:RC:=jQ QH8 (.seq (jQ QH9 (.cond (.t 18) (jQ QIa (.ret)) (.skip))) (jQ QIb (.seq (jQ QIc (.block 0 (.loop Aw))) (.seq (jQ Qxy (.block 4 (.loop Ay))) (jQ QxK (.ret))))))
abbrev o21:List RR:=[.tmp 2]
theorem k21:CT 21 182 r21 o21:=ck Tryz.func21 Tryz.ntmps21 (by decide +kernel)
abbrev QIi:IL:=[je 3 3 0,jd 6 0]
abbrev QIj:IL:=[ja 11 2,za 12 11 1,ja 2 12]
abbrev QIk:IL:=[ja 13 1,yq 14 13 40,ja 15 14,jp 16 2 3 15,jt 17 16 15,yf 18 0 17 15,yk 19 18 5000 15,jo 20 15 19,ja 21 20,jp 22 6 3 21,jt 23 22 21,yf 24 1 23 21,jv 25 2 21,⟨some 26,.val (.bin .num .gtr (.t 24) (.t 25)),(some (21,false))⟩,jo 27 21 26]
abbrev QIl:IL:=[jd 6 (-1)]
abbrev QIm:IL:=[ja 28 2,jb 29 6 3,jc 30 29,ji 31 1 30,zg 32 28 31,ja 2 32]
abbrev QIn:IL:=[jd 7 0]
abbrev QIo:IL:=[ja 33 7,jb 34 6 3,jc 35 34,ji 36 1 35,jn 37 33 36]
abbrev QIp:IL:=[jb 40 6 3,jc 41 40,ja 42 7,jk 43 4 41 42,jb 44 3 43,jc 45 44,ji 46 0 45,yq 47 46 5000]
abbrev QIq:IL:=[jd 6 (-1)]
abbrev QIr:IL:=[ja 38 7,jm 39 38 1,ja 7 39]
abbrev QIs:RC:=.seq (jQ QIo (jX 37 0)) (.seq (.block 1 (jQ QIp (.cond (.t 47) (jQ QIq (.ret)) (.skip)))) (.reg QIr))
abbrev QxM:IL:=[jd 8 0]
abbrev QxN:IL:=[ja 48 8,jb 49 3 3,jc 50 49,ji 51 1 50,jn 52 48 51,ja 53 52,jg 54 2 53,Hj 55 54 0 53,jj 56 53 55]
abbrev QxO:IL:=[jb 59 3 3,jc 60 59,ja 61 8,jk 62 7 60 61,jf 63 7 62,ja 64 1,jm 65 64 1,ja 66 2,⟨some 67,.callR (.f 23) [(.t 63),(.t 65),(.t 66)],none⟩,ja 2 67]
abbrev QxP:IL:=[ja 57 8,jm 58 57 1,ja 8 58]
abbrev Az:RC:=.seq (jQ QxN (jX 56 2)) (.seq (.block 3 (.reg QxO)) (.reg QxP))
abbrev QxQ:IL:=[jd 9 0]
abbrev QxR:IL:=[ja 68 9,jb 69 4 3,jc 70 69,ji 71 1 70,jn 72 68 71,ja 73 72,jg 74 2 73,Hj 75 74 0 73,jj 76 73 75]
abbrev QxS:IL:=[jb 79 4 3,jc 80 79,ja 81 9,jk 82 14 80 81,jb 83 0 82,jf 84 7 83,ja 85 1,jm 86 85 1,ja 87 2,⟨some 88,.callR (.f 23) [(.t 84),(.t 86),(.t 87)],none⟩,ja 2 88]
abbrev QxT:IL:=[ja 89 2,yn 90 89 0]
abbrev QxU:IL:=[jb 91 4 3,jc 92 91,ja 93 9,jk 94 14 92 93,jb 95 7 94,jf 96 7 95,ja 97 1,jm 98 97 1,ja 99 2,⟨some 100,.callR (.f 23) [(.t 96),(.t 98),(.t 99)],none⟩,ja 2 100]
abbrev QxV:IL:=[ja 77 9,jm 78 77 1,ja 9 78]
abbrev AA:RC:=.seq (jQ QxR (jX 76 4)) (.seq (.block 5 (jQ QxS (jQ QxT (.cond (.t 90) (.reg QxU) (.skip))))) (.reg QxV))
abbrev QxW:IL:=[jd 10 0]
abbrev QxX:IL:=[ja 101 10,jb 102 5 3,jc 103 102,ji 104 1 103,jn 105 101 104,ja 106 105,jg 107 2 106,Hj 108 107 0 106,jj 109 106 108]
abbrev QxY:IL:=[jb 112 5 3,jc 113 112,ja 114 10,jk 115 8 113 114,jb 116 1 115,jf 117 7 116,ja 118 1,jm 119 118 1,ja 120 2,⟨some 121,.callR (.f 23) [(.t 117),(.t 119),(.t 120)],none⟩,ja 2 121]
abbrev QxZ:IL:=[ja 110 10,jm 111 110 1,ja 10 111]
abbrev AB:RC:=.seq (jQ QxX (jX 109 6)) (.seq (.block 7 (.reg QxY)) (.reg QxZ))
abbrev Qx0:IL:=[ja 122 2,ja 6 122]
abbrev r23:RC:=jQ QIi (jQ QIj (.seq (jQ QIk (.cond (.t 27) (jQ QIl (.ret)) (.skip))) (jQ QIm (.seq (jQ QIn (.block 0 (.loop QIs))) (.seq (jQ QxM (.block 2 (.loop Az))) (.seq (jQ QxQ (.block 4 (.loop AA))) (.seq (jQ QxW (.block 6 (.loop AB))) (jQ Qx0 (.ret)))))))))
abbrev o23:List RR:=[.tmp 6]
theorem k23:CT 23 123 r23 o23:=ck Tryz.func23 Tryz.ntmps23 (by decide +kernel)
abbrev QIt:IL:=[je 3 3 0,je 5 5 2,ye 6]
abbrev QIu:IL:=[ye 7]
abbrev QIv:IL:=[jd 8 0]
abbrev QIw:IL:=[jd 9 0]
abbrev QIx:IL:=[ja 10 9,jb 11 5 5,jc 12 11,ji 13 1 12,jn 14 10 13]
abbrev QIy:IL:=[ja 17 8,jb 18 6 5,yb 19 0 5 18,ji 20 1 19,jn 21 17 20,ja 22 21,jl 23 6 5 22,zb 24 0 5 23 22,jg 25 8 22,yc 26 4 24 25 22,jl 27 0 26 22,yp 28 27 22,jl 29 5 5 22,zb 30 0 5 29 22,jg 31 9 22,yc 32 8 30 31 22,jl 33 0 32 22,yp 34 33 22,zu 35 28 34 22,jj 36 22 35]
abbrev QIz:IL:=[ja 37 7,jb 38 6 5,jc 39 38,ja 40 8,jk 41 4 39 40,jf 42 4 41,zw 43 4 1 0 4 42,yh 44 4 40 52 37 43,ja 7 44]
abbrev QIA:IL:=[ja 45 8,jm 46 45 1,ja 8 46]
abbrev AC:RC:=.seq (jD QIy (jX 36 2)) (.block 3 (jQ QIz (.reg QIA)))
abbrev QIB:IL:=[ja 47 7,jw 48 0 3 2 3,ja 49 1,jb 50 5 5,yb 51 0 5 50,ja 52 9,jk 53 8 51 52,ya 54 8 53,yd 55 20 48 49 54,yh 56 4 40 52 47 55,ja 7 56]
abbrev QIC:IL:=[ja 15 9,jm 16 15 1,ja 9 16]
abbrev QID:RC:=.seq (jQ QIx (jX 14 0)) (.seq (.block 1 (.seq (.block 2 (.loop AC)) (.draw QIB))) (.reg QIC))
abbrev Qx1:IL:=[ja 57 8,jb 58 6 5,jc 59 58,ji 60 1 59,jn 61 57 60]
abbrev Qx2:IL:=[ja 62 7,jb 63 6 5,jc 64 63,ja 65 8,jk 66 4 64 65,jf 67 4 66,zw 68 4 1 0 4 67,yh 69 4 40 52 62 68,ja 7 69]
abbrev Qx3:IL:=[ja 70 8,jm 71 70 1,ja 8 71]
abbrev AD:RC:=.seq (jQ Qx1 (jX 61 4)) (.block 5 (jQ Qx2 (.reg Qx3)))
abbrev Qx4:IL:=[ja 72 7,ja 6 72]
abbrev r34:RC:=jQ QIt (jQ QIu (.gho (.vec 7 7 4) (jQ QIv (.seq (jQ QIw (.block 0 (.loop QID))) (.seq (.block 4 (.loop AD)) (jQ Qx4 (.ret)))))))
abbrev o34:List RR:=[.tmp 6]
theorem k34:CT 34 73 r34 o34:=ck Tryz.func34 Tryz.ntmps34 (by decide +kernel)
abbrev QIE:IL:=[je 1 1 0,zn 2 2]
abbrev QIF:IL:=[jb 3 0 1,jc 4 3]
abbrev QIG:IL:=[jq 6 4 1,ja 5 6]
abbrev QIH:IL:=[jq 7 4 4,ja 5 7]
abbrev QII:IL:=[jq 8 4 5,ja 5 8]
abbrev QIJ:IL:=[jq 9 4 9,ja 5 9]
abbrev QIK:IL:=[jb 10 1 1,jc 11 10,⟨some 12,.val (.build [.int .i64 0,.int .i64 0,.int .u64 0,.str []] [(1,1,(.c (.int .i64 0))),(2,1,(.t 11))]),none⟩,js 4 2 12]
abbrev QIL:IL:=[jq 14 4 2,ja 13 14]
abbrev QIM:IL:=[jq 15 4 3,ja 13 15]
abbrev QIN:IL:=[jb 16 1 1,jc 17 16,NQ 18 17,jr 19 74 18,⟨some 20,.val (.build [.int .i64 0,.int .i64 0,.int .u64 0,.str []] [(1,1,(.c (.int .i64 1))),(2,1,(.t 19))]),none⟩,js 4 2 20]
abbrev Qx5:IL:=[jq 22 4 6,ja 21 22]
abbrev Qx6:IL:=[jf 23 7 1,jr 24 75 23,⟨some 25,.val (.fld 1 none (.t 24)),none⟩,⟨some 26,.val (.build [.int .i64 0,.int .i64 0,.int .u64 0,.str []] [(1,1,(.c (.int .i64 2))),(2,1,(.t 25))]),none⟩,js 4 2 26]
abbrev Qx7:IL:=[jq 28 4 7,ja 27 28]
abbrev Qx8:IL:=[jq 29 4 8,ja 27 29]
abbrev Qx9:IL:=[jb 30 2 1,jc 31 30,⟨some 32,.val (.build [.int .i64 0,.int .i64 0,.int .u64 0,.str []] [(1,1,(.c (.int .i64 3))),(3,1,(.t 31))]),none⟩,js 4 2 32]
abbrev Qya:IL:=[⟨some 33,.val (.build [.int .i64 0,.int .i64 0,.int .u64 0,.str []] []),none⟩,js 4 2 33]
abbrev r39:RC:=jQ QIE (.seq (jQ QIF (.block 0 (.seq (jQ QIG (.cond (.t 5) (.skip) (jQ QIH (.cond (.t 5) (.skip) (jQ QII (.cond (.t 5) (.skip) (.reg QIJ))))))) (.cond (.t 5) (jQ QIK (.ret)) (.seq (jQ QIL (.cond (.t 13) (.skip) (.reg QIM))) (.cond (.t 13) (jQ QIN (.ret)) (jQ Qx5 (.cond (.t 21) (jQ Qx6 (.ret)) (.seq (jQ Qx7 (.cond (.t 27) (.skip) (.reg Qx8))) (.cond (.t 27) (jQ Qx9 (.ret)) (.skip))))))))))) (jQ Qya (.ret)))
abbrev o39:List RR:=[.cell 2 (some 4)]
theorem k39:CT 39 34 r39 o39:=ck Tryz.func39 Tryz.ntmps39 (by decide +kernel)
abbrev QIO:IL:=[je 4 4 0,je 5 5 1,je 7 7 3,zn 8 8]
abbrev QIP:IL:=[jf 10 7 7,jr 11 39 10,zn 9 9,js 4 9 11]
abbrev QIQ:IL:=[jb 12 5 5,jc 13 12,jq 14 13 10]
abbrev QIR:IL:=[jf 15 2 4,jb 16 6 5,jc 17 16,jf 18 7 7,yd 19 16 15 17 18,⟨some 20,.val (.build [.int .i64 0,.int .i64 0,.int .u64 0,.str []] [(1,1,(.c (.int .i64 4))),(3,1,(.t 19))]),none⟩,js 4 9 20]
abbrev QIS:IL:=[ja 21 2,jb 22 0 9,js 1 22 21]
abbrev QIT:IL:=[jf 23 4 9,js 4 8 23]
abbrev r40:RC:=jQ QIO (jQ QIP (.seq (jQ QIQ (.cond (.t 14) (.reg QIR) (.skip))) (jQ QIS (jQ QIT (.ret)))))
abbrev o40:List RR:=[.cell 8 (some 4)]
theorem k40:CT 40 24 r40 o40:=ck Tryz.func40 Tryz.ntmps40 (by decide +kernel)
abbrev QIU:IL:=[yi 2]
abbrev QIV:IL:=[yi 3]
abbrev QIW:IL:=[jd 4 0]
abbrev QIX:IL:=[ja 6 4,ja 7 0,ji 8 1 7,jn 9 6 8]
abbrev QIY:IL:=[ja 12 0,ja 13 4,jk 14 7 12 13,jf 15 7 14,jr 16 39 15,zn 5 5,js 4 5 16]
abbrev QIZ:IL:=[ja 17 4,jq 18 17 0]
abbrev QI0:IL:=[jb 19 1 5,jc 20 19,D1 21 20,NX 22 1 1 0 1 21,NY 23 22,ja 3 23]
abbrev QI1:IL:=[jb 24 1 5,jc 25 24,jq 26 25 2]
abbrev QI2:IL:=[ja 27 3,jb 28 2 5,jc 29 28,jr 30 66 29,D4 31 27 30,ja 3 31]
abbrev Qyb:IL:=[ja 32 3,jb 33 2 5,jc 34 33,jr 35 68 34,D4 36 32 35,ja 3 36]
abbrev QI3:IL:=[ja 10 4,jm 11 10 1,ja 4 11]
abbrev QI4:RC:=.gho (.drop 5) (.seq (jQ QIX (jX 9 0)) (.seq (.block 1 (jQ QIY (.seq (jQ QIZ (.cond (.t 18) (.reg QI0) (.skip))) (jQ QI1 (.cond (.t 26) (.reg QI2) (.reg Qyb)))))) (.reg QI3)))
abbrev Qyc:IL:=[ja 37 3,ja 2 37]
abbrev r42:RC:=jQ QIU (jQ QIV (.seq (jQ QIW (.block 0 (.loop QI4))) (jQ Qyc (.ret))))
abbrev o42:List RR:=[.tmp 2]
theorem k42:CT 42 38 r42 o42:=ck Tryz.func42 Tryz.ntmps42 (by decide +kernel)
end Go.Proofs.YtipjfckmopekaaaGreatDoor.Rc

namespace Go.Proofs.YtipjfckmopekaaaGreatDoor.Va
open Go Am Rc Bt Br Up So

section
variable {α β:Type}{lt:β→β→Bool}{lt':α→α→Bool}{F:α→β}(h:∀x y,lt (F x) (F y)=lt' x y)
include h
theorem Na (a:α):∀l:List α,ZF lt (F a) (l.map F)=(ZF lt' a l).map F
 | []=>rfl
 |x :: l=>by
  rw[QXY,ZF,ZF,h x a];cases lt' x a
  ·rfl
  ·show F x :: ZF lt (F a) (l.map F)=_;rw[Na a l];rfl
theorem Wl:∀l:List α,QF lt (l.map F)=(QF lt' l).map F
 | []=>rfl
 |a :: l=>by
  rw[QXY,QF,Wl l,Na h a];rfl
end
theorem Nb {α β:Type}{lt:β→β→Bool}(h:SW lt)(f:α→β):SW fun x y=>lt (f x) (f y) where
 irr _:=h.irr _
 tr _ _ _:=h.tr _ _ _
 nt _ _ _:=h.nt _ _ _
theorem Qye:SW fun a b:Int=>decide (a<b) where
 irr x:=by simp
 tr x y z h k:=by simp only[QXx]at *;omega
 nt x y z h k:=by simp only[QZj]at *;omega
theorem Fu (a b:Int):decide (cN a b<0)=decide (a<b):=by
 unfold cN;split
 ·rename_i h;simp[h]
 ·rename_i h;split<;>simp[h]
theorem AE (a b:List UInt8):decide (cS a b<0)=Op.bytesLess a b:=by
 unfold cS;cases Op.bytesLess a b
 ·cases(a==b)<;>simp
 ·simp

theorem UG {z:Nat}(hz:z≠0){xs:List AV}(h:xs.all (fun e=>e.cells.length==z)=true)(hf:QO xs=[]):xs=[]:=by
 cases xs with
 |nil=>rfl
 |cons x xs=>
  have hl:x.cells.length=z:=by simpa using QXE.1 h x (by simp)
  have:x.cells=[]:=(List.append_eq_nil_iff.1 hf).1;rw[this]at hl;exact absurd hl.symm hz

theorem v96 (xs:List AV)(fr:Nat→Ob)(m:Qo)(h:xs.all (fun e=>e.cells.length==4)=true)(hn:xs.length≤1048576)(hr:Qu (fr 1000)=true) :
  Qg Tryz.prog 96 [.list xs] (fr :: m) (fun x m1=>x=.vec 0 1000 (Xn (fr 1000)) 0 xs.length false∧m1=QK fr 1000 (.vec (Xn (fr 1000)) 4 xs) :: m):=by
 have hng:QC (fr :: m) 0 1000=Xn (fr 1000):=Jl;refine k96.go (by simp) ?_;simp only[SH,V0,V1,Qa,seval];refine ZX (ys:=xs) (by simp only[Qa,seval]) ?_ ?_
 ·simp only[V3,Qa,seval];refine Zy rfl ?_;simp only[Qa,seval];refine QG (site:=5) (g:=1) (xs:=[]) (ys:=xs) rfl rfl rfl rfl rfl h (by simp[maxLen];omega) (by simp;omega) ?_;simp only[Qa,seval];refine XQ (l:=0) (site:=5) (g:=2) (o:=0) (n:=xs.length) (q:=false) (sz:=4) (xs:=xs) (by simp only[QX8,Qa,seval]) (by simp only[Qa,seval]) (by simp) (by decide) hr ?_;simp only[hng,N0,eE,seval]
  try simp[AV.still,AV.un,XZ,Xm]
 ·intro he;have hx:xs=[]:=by
   rcases he with he|he
   ·exact he
   ·exact UG (by decide) h he
  subst hx;simp only[V2,Qa,seval];refine XF (by simp only[Qa,seval]) rfl ?_;simp only[Qa,seval];refine XQ (l:=0) (site:=2) (g:=1) (o:=0) (n:=0) (q:=false) (sz:=4) (xs:=[]) (by simp only[Qa,seval]) (by simp only[Qa,seval]) (by simp) (by decide) hr ?_;simp only[hng,N0,eE,seval]
  try simp[AV.still,AV.un,XZ,Xm]

theorem QSv (xs:List AV)(fr:Nat→Ob)(m:Qo)(h:xs.all (fun e=>e.cells.length==8)=true)(hn:xs.length≤1048576)(hr:Qu (fr 1000)=true) :
  Qg Tryz.prog 181 [.list xs] (fr :: m) (fun x m1=>x=.vec 0 1000 (Xn (fr 1000)) 0 xs.length false∧m1=QK fr 1000 (.vec (Xn (fr 1000)) 8 xs) :: m):=by
 have hng:QC (fr :: m) 0 1000=Xn (fr 1000):=Jl;refine Rs.go (by simp) ?_;simp only[V5,Bf,Bg,Qa,seval];refine ZX (ys:=xs) (by simp only[Qa,seval]) ?_ ?_
 ·simp only[Bi,Qa,seval];refine Zy rfl ?_;simp only[Qa,seval];refine QG (site:=5) (g:=1) (xs:=[]) (ys:=xs) rfl rfl rfl rfl rfl h (by simp[maxLen];omega) (by simp;omega) ?_;simp only[Qa,seval];refine XQ (l:=0) (site:=5) (g:=2) (o:=0) (n:=xs.length) (q:=false) (sz:=8) (xs:=xs) (by simp only[QX8,Qa,seval]) (by simp only[Qa,seval]) (by simp) (by decide) hr ?_;simp only[hng,Dl,eE,seval]
  try simp[AV.still,AV.un,XZ,Xm]
 ·intro he;have hx:xs=[]:=by
   rcases he with he|he
   ·exact he
   ·exact UG (by decide) h he
  subst hx;simp only[Bh,Qa,seval];refine XF (by simp only[Qa,seval]) rfl ?_;simp only[Qa,seval];refine XQ (l:=0) (site:=2) (g:=1) (o:=0) (n:=0) (q:=false) (sz:=8) (xs:=[]) (by simp only[Qa,seval]) (by simp only[Qa,seval]) (by simp) (by decide) hr ?_;simp only[hng,Dl,eE,seval]
  try simp[AV.still,AV.un,XZ,Xm]

theorem QSw (xs:List AV)(fr:Nat→Ob)(m:Qo)(h:xs.all (fun e=>e.cells.length==14)=true)(hn:xs.length≤1048576)(hr:Qu (fr 1000)=true) :
  Qg Tryz.prog 224 [.list xs] (fr :: m) (fun x m1=>x=.vec 0 1000 (Xn (fr 1000)) 0 xs.length false∧m1=QK fr 1000 (.vec (Xn (fr 1000)) 14 xs) :: m):=by
 have hng:QC (fr :: m) 0 1000=Xn (fr 1000):=Jl;refine QOw.go (by simp) ?_;simp only[Qua,M1,M2,Qa,seval];refine ZX (ys:=xs) (by simp only[Qa,seval]) ?_ ?_
 ·simp only[M4,Qa,seval];refine Zy rfl ?_;simp only[Qa,seval];refine QG (site:=5) (g:=1) (xs:=[]) (ys:=xs) rfl rfl rfl rfl rfl h (by simp[maxLen];omega) (by simp;omega) ?_;simp only[Qa,seval];refine XQ (l:=0) (site:=5) (g:=2) (o:=0) (n:=xs.length) (q:=false) (sz:=14) (xs:=xs) (by simp only[QX8,Qa,seval]) (by simp only[Qa,seval]) (by simp) (by decide) hr ?_;simp only[hng,Ry,eE,seval]
  try simp[AV.still,AV.un,XZ,Xm]
 ·intro he;have hx:xs=[]:=by
   rcases he with he|he
   ·exact he
   ·exact UG (by decide) h he
  subst hx;simp only[M3,Qa,seval];refine XF (by simp only[Qa,seval]) rfl ?_;simp only[Qa,seval];refine XQ (l:=0) (site:=2) (g:=1) (o:=0) (n:=0) (q:=false) (sz:=14) (xs:=[]) (by simp only[Qa,seval]) (by simp only[Qa,seval]) (by simp) (by decide) hr ?_;simp only[hng,Ry,eE,seval]
  try simp[AV.still,AV.un,XZ,Xm]

section rows
variable {fr:Nat→Ob}{m:Qo}{s g z n i:Nat}{xs l:List AV}
theorem Qyf (h:fr s=.vec g z xs)(hi:i<n):Qb (fr :: m) z none (.vec 0 s g 0 n false) ((i:Nat):Int)=some (.vptr 0 s g i 0):=by
 have e:Am.Qf (fr :: m) 0 s=.vec g z xs:=h;simp only[Qb,e,QYT];rw[QXV (by omega),QXV ⟨trivial,trivial,hi⟩,QX8]
theorem Sg {k:Nat}(h:fr s=.vec g z xs)(hx:xs[i]? = some (.agg l))(hk:k≤l.length):Xb (fr :: m) (some k) (.vptr 0 s g i 0)=some (.agg (l.take k)):=by
 have e:Am.Qf (fr :: m) 0 s=.vec g z xs:=h;simp only[Xb,e,if_true,hx,Am.part];show(if 0+k≤l.length then some (AV.agg ((l.drop 0).take k))else none)=_;rw[QXV (by omega),QX9]
theorem QSx {o:Nat}(h:fr s=.vec g z xs)(hx:xs[i]? = some (.agg l)):Xb (fr :: m) none (.vptr 0 s g i o)=l[o]?:=by
 have e:Am.Qf (fr :: m) 0 s=.vec g z xs:=h;simp only[Xb,e,if_true,hx,Am.part,AV.cells]
end rows

def eS (x:AV):Prop:=∃s:Int×V,x=V.sav s
theorem QI5 (s:Int×V):Ez eS 8 (V.sav s):=by
 refine⟨⟨s,rfl⟩,?_⟩;rw[Zs];exact⟨_,rfl,rfl,rfl,rfl,fun _=>rfl⟩
def nA:AV→Int
 |.agg (.int _ n :: _)=>n
 |_=>0
def cA (x y:AV):Int:=cN (nA x) (nA y)
theorem CI (x y:AV):Tz.lt cA x y=decide (nA x<nA y):=Fu _ _
theorem AF:SW (Tz.lt cA):=by
 have e:Tz.lt cA=fun x y=>decide (nA x<nA y):=by funext x y;exact CI x y
 rw[e];exact Nb Qye nA
theorem G7 (s:Int×V):nA (V.sav s)=s.1:=by rw[Zs];rfl

theorem QSy (x y:Int×V):Qk Tryz.prog 183 [V.sav x,V.sav y] (.int .i64 (cN x.1 y.1)):=by
 rw[Zs,Zs];refine Qhh.fn (by simp) ?_;simp only[eE,seval];refine aC (Cx x.1 y.1) ?_;simp only[Qa,seval]

theorem QSz:Tz.Cp Tryz.prog 8 eS 183 cA where
 call x y hx hy:=by
  obtain⟨s,rfl⟩:=hx.1;obtain⟨t,rfl⟩:=hy.1;unfold cA;rw[G7,G7];exact QSy s t
 sw:=AF

theorem Sh (l:List (Int×V)):QF (Tz.lt cA) (l.map V.sav)=(JS l).map V.sav:=Wl (fun x y=>by rw[CI,G7,G7]) l
theorem Yf (l:List (Int×V)):(l.map V.sav).all (fun e=>e.cells.length==8)=true:=by
 rw[List.all_map,QXE];intro x _;simp[Zs,AV.cells]
theorem ezS (l:List (Int×V)):∀x∈l.map V.sav,Ez eS 8 x:=by
 intro x hx;obtain⟨s,_,rfl⟩:=QYM.1 hx;exact QI5 s

def SoI (T:List (Int×V))(k:Nat)(st:St):Prop :=
 ∃f fr i g h,st=⟨f,[fr],[]⟩∧k=T.length-i∧i≤T.length∧f 3=.vec 0 1000 g 0 T.length false∧f 4=.vec 0 4 h 0 i false∧f 11=.vec 0 1000 g 0 T.length false∧f 12=.int .i64 (T.length:Nat)∧f 13=.int .i64 (i:Nat)∧fr 1000=.vec g 8 (T.map V.sav)∧fr 4=.vec h 8 ((T.take i).map V.sav)∧∀s∈[6],(fr s).isRow=false

theorem v97 (sl:List (Int×V))(hn:sl.length≤1048576)(hu:sl.Pairwise fun y x=>(y.1==x.1)=false):Qk Tryz.prog 97 [.list (sl.map V.sav)] (.list ((JS sl).map V.sav)):=by
 have cl:=fun fr hr=>QSv (sl.map V.sav) fr [] (Yf sl) (by rw[QYn];exact hn) hr
 have cs:=fun g (m:Qo) (hl:Am.Qf m 0 1000=.vec g 8 (sl.map V.sav))=>Tz.Sf Tg.Qxc (by decide) QSz 0 1000 g (sl.map V.sav) m hl (ezS sl) (by rw[QYn];omega)
 simp only[Sh,QYn]at cs;have hperm:(JS sl).Perm sl:=Xc _;have hlen:(JS sl).length=sl.length:=hperm.length_eq;have hun:(JS sl).Pairwise fun y x=>(y.1==x.1)=false:=(hperm.pairwise_iff fun {a b} h=>by rw[Bool.beq_comm];exact h).2 hu
 generalize JS sl=T at *;refine k97.fn (by simp) ?_;simp only[Qa,seval];refine Qj (cl _ rfl) (by simp only[QXY,QYt,Qa,seval]) ?_;simp only[QYn,Qa,seval];refine Qj (cs _ _ (by simp only[eE,seval]<;>rfl)) (by simp only[QXY,QYt,Qa,seval]) ?_;simp only[eE,seval];refine XF (by simp only[Qa,seval]) (by simp only[Qa,seval]) ?_;simp only[eE,seval];refine Qd (SoI T) _ ⟨_,_,0,_,_,rfl,rfl,QXA _,(by rw[hlen];exact(by rfl)),(by rfl),(by rw[hlen];exact(by rfl)),(by rw[hlen];exact(by rfl)),(by rfl),(by rfl),(by rfl),by simp<;>rfl⟩ ?_;rintro _ st ⟨f0,fr0,i,g,h,rfl,rfl,hil,h30,h40,h110,h120,h130,mR0,m40,r6⟩;refine QJ (a:=_) [6] r6 ?_;intro f fr hf hm hn6;have h3:f 3=.vec 0 1000 g 0 T.length false:=by rw[hf,h30]<;>rfl
 have h4:f 4=.vec 0 4 h 0 i false:=by rw[hf,h40]<;>rfl
 have h11:f 11=.vec 0 1000 g 0 T.length false:=by rw[hf,h110]<;>rfl
 have h12:f 12=.int .i64 (T.length:Nat):=by rw[hf,h120]<;>rfl
 have h13:f 13=.int .i64 (i:Nat):=by rw[hf,h130]<;>rfl
 have mR:fr 1000=.vec g 8 (T.map V.sav):=by rw[hm 1000 (by decide),mR0]<;>rfl
 have m4:fr 4=.vec h 8 ((T.take i).map V.sav):=by rw[hm 4 (by decide),m40]<;>rfl
 have n6:=hn6 6 (by decide);clear hf hm hn6 h30 h40 h110 h120 h130 mR0 m40 r6;simp only[h12,h13,Qa,seval];by_cases hlt:i<T.length
 ·obtain⟨x,hi⟩:∃x,T[i]? = some x:=⟨T[i],QXt hlt⟩;have hg:=Jv hi;have e1:=Ql i _ hlt (by simp only[maxLen];omega);have ia:∀(fr:Nat→Ob) (j:Nat),fr 1000=.vec g 8 (T.map V.sav)→j<T.length→Qb [fr] 8 none (.vec 0 1000 g 0 T.length false) ((j:Nat):Int)=some (.vptr 0 1000 g j 0):=fun fr j h hj=>Qyf h hj
  have la:∀(fr:Nat→Ob),fr 1000=.vec g 8 (T.map V.sav)→Xb [fr] (some 8) (.vptr 0 1000 g i 0)=some (.agg [.int .i64 x.1,.int .i64 x.2.kd,.int .u64 (x.2.bits:Nat),.str x.2.text,.list (x.2.list.map V.av),.list (x.2.pairs.map V.pav),.list (x.2.slots.map V.sav),.list (x.2.raws.map R.av)]):=fun fr h=>Sg h hg (by simp)
  have fin:∀(f':Fr) (fr':Nat→Ob) (h':Nat),f' 3=.vec 0 1000 g 0 T.length false→f' 4=.vec 0 4 h' 0 (i+1) false→f' 11=.vec 0 1000 g 0 T.length false→f' 12=.int .i64 (T.length:Nat)→f' 13=.int .i64 ((i+1:Nat):Int)→fr' 1000=.vec g 8 (T.map V.sav)→fr' 4=.vec h' 8 ((T.take i).map V.sav++[V.sav x])→(∀s∈[6],(fr' s).isRow=false)→∃k,k<T.length-i∧SoI T k ⟨f',[fr'],[]⟩:=by
   intro f' fr' h' a3 a4 a11 a12 a13 b1 b4 b6;exact⟨T.length-(i+1),by omega,f',fr',i+1,g,h',rfl,rfl,by omega,a3,a4,a11,a12,a13,b1,by rw[b4,QZa,hi];simp,b6⟩
  have hti:((T.take i).map V.sav).length=i:=by rw[QYn,QYp];omega
  simp only[Qm hlt,ia,la,mR,hlt,n6,h3,h11,h13,e1,eE,seval];by_cases hl:i+1=T.length
  ·have d1:(((i+1:Nat):Int)==(T.length:Int))=true:=by simp;omega
   simp only[d1,h4,eE,seval];refine QP (l:=[V.sav x]) rfl rfl rfl (by rw[Zs];rfl) ?_;refine QG (site:=4) (g:=h) (n:=i) (xs:=(T.take i).map V.sav) (ys:=[V.sav x]) (by rfl) (by exact m4) rfl hti.symm rfl (Yf [x]) (by simp only[QXH,QYo,maxLen];omega) (by simp only[QXH,QYo];omega) ?_;simp only[h13,e1,Qa,seval];exact fin _ _ (h+1) (by exact h3) (by rfl) (by exact h11) (by exact h12) (by rfl) (by exact mR) (by rfl) (by simp<;>rfl)
  ·have d1:(((i+1:Nat):Int)==(T.length:Int))=false:=by simp;omega
   have hlt1:i+1<T.length:=by omega
   obtain⟨y,hj⟩:∃y,T[i+1]? = some y:=⟨T[i+1],QXt hlt1⟩;have hgj:=Jv hj;have lc:∀(fr:Nat→Ob),fr 1000=.vec g 8 (T.map V.sav)→Xb [fr] none (.vptr 0 1000 g (i+1) 0)=some (.int .i64 y.1):=fun fr h=>QSx h hgj
   have hne:(x.1 != y.1)=true:=by
    rw[QZt]at hun;have:=hun i (i+1) hlt hlt1 (by omega);rw[(QXs.1 hi).2,(QXs.1 hj).2]at this
    simpa using this
   simp only[d1,ia,lc,mR,hlt1,hne,Wr,QX8,h3,h4,e1,eE,seval];refine QP (l:=[V.sav x]) rfl rfl rfl (by rw[Zs];rfl) ?_;refine QG (site:=4) (g:=h) (n:=i) (xs:=(T.take i).map V.sav) (ys:=[V.sav x]) (by rfl) (by exact m4) rfl hti.symm rfl (Yf [x]) (by simp only[QXH,QYo,maxLen];omega) (by simp only[QXH,QYo];omega) ?_;simp only[h13,e1,Qa,seval];exact fin _ _ (h+1) (by exact h3) (by rfl) (by exact h11) (by exact h12) (by rfl) (by exact mR) (by rfl) (by simp<;>rfl)
 ·have e:i=T.length:=by omega
  subst e;rw[QY1]at m4;simp only[Qw hlt,h4,eE,seval];simp[AV.un,XZ,Xm,m4];rw[QX0 (by rw[QYn];exact QXq _)]

def eP (P:PL)(k:Int)(x:AV):Prop:=∃p:V×V,x=V.pav p∧p.1.one P k (-1)=0∧p.1.bits<18446744073709551616
theorem ezP {P:PL}{k:Int}{p:V×V}(h:p.1.one P k (-1)=0)(hb:p.1.bits<18446744073709551616):Ez (eP P k) 14 (V.pav p):=by
 refine⟨⟨p,rfl,h,hb⟩,?_⟩;rw[ZZ];exact⟨_,rfl,rfl,rfl,rfl,fun _=>rfl⟩
def kV:AV→V
 |.agg (_ :: .int _ b :: .str t :: _)=>.mk 0 b.toNat t [] [] [] []
 |_=>.mk 0 0 [] [] [] [] []
theorem G8 (p:V×V):kV (V.pav p)=.mk 0 p.1.bits p.1.text [] [] [] []:=by rw[ZZ];rfl
def cP (k:Int)(x y:AV):Int:=Hs k (kV x).bits (kV x).text (kV y).bits (kV y).text
theorem PW (k:Int)(a b:V):decide (Hs k a.bits a.text b.bits b.text<0)=kl k a b:=by
 unfold Hs kl;split
 ·exact AE _ _
 ·split
  ·exact Fu _ _
  ·exact Fu _ _
theorem QI6 (k:Int):SW (Tz.lt (cP k)):=by
 have e:Tz.lt (cP k)=fun x y=>kl k (kV x,kV x).1 (kV y,kV y).1:=by funext x y;exact PW k _ _
 rw[e];exact Nb (UZ k) fun x=>(kV x,kV x)

theorem QSA {P:PL}{k:Int}(hk:X3 k)(x y:V×V)(hx:x.1.one P k (-1)=0)(hy:y.1.one P k (-1)=0):Qk Tryz.prog 226 [V.pav x,V.pav y] (.int .i64 (Hs k x.1.bits x.1.text y.1.bits y.1.text)):=by
 have h:=Qw6 k hk x.1.bits y.1.bits x.1.text y.1.text;rw[←(ZI hx).1,←(ZI hy).1,Qs,Qs]at h;rw[ZZ,ZZ];refine QOz.fn (by simp) ?_;simp only[QXZ,QYA,QX9,eE,seval];refine aC h ?_;simp only[Qa,seval]

theorem QSB {P:PL}{k:Int}(hk:X3 k):Tz.Cp Tryz.prog 14 (eP P k) 226 (cP k) where
 call x y hx hy:=by
  obtain⟨p,rfl,h1,_⟩:=hx.1;obtain⟨q,rfl,h2,_⟩:=hy.1;unfold cP;rw[G8,G8];exact QSA hk p q h1 h2
 sw:=QI6 k

theorem Si (k:Int)(l:List (V×V)):QF (Tz.lt (cP k)) (l.map V.pav)=(Xj k l).map V.pav:=Wl (fun x y=>by
 show decide (cP k (V.pav x) (V.pav y)<0)=_;unfold cP;rw[G8,G8];exact PW k x.1 y.1) l
theorem Wm (l:List (V×V)):(l.map V.pav).all (fun e=>e.cells.length==14)=true:=by
 rw[List.all_map,QXE];intro x _;simp[ZZ,AV.cells]

def PoI (T:List (V×V))(k:Nat)(st:St):Prop :=
 ∃f fr i g h,st=⟨f,[fr],[]⟩∧k=T.length-i∧i≤T.length∧f 3=.vec 0 1000 g 0 T.length false∧f 4=.vec 0 4 h 0 i false∧f 11=.vec 0 1000 g 0 T.length false∧f 12=.int .i64 (T.length:Nat)∧f 13=.int .i64 (i:Nat)∧fr 1000=.vec g 14 (T.map V.pav)∧fr 4=.vec h 14 ((T.take i).map V.pav)∧∀s∈[6],(fr s).isRow=false

theorem QSC {P:PL}{k:Int}(hk:X3 k)(ps:List (V×V))(hn:ps.length≤1048576)(h1:∀p∈ps,p.1.one P k (-1)=0)(hb:∀p∈ps,p.1.bits<18446744073709551616)(hu:ps.Pairwise fun q p=>Zo q.1 p.1=false):Qk Tryz.prog 185 [.list (ps.map V.pav)] (.list ((Xj k ps).map V.pav)):=by
 have cl:=fun fr hr=>QSw (ps.map V.pav) fr [] (Wm ps) (by rw[QYn];exact hn) hr
 have ez:∀x∈ps.map V.pav,Ez (eP P k) 14 x:=by
  intro x hx;obtain⟨p,hp,rfl⟩:=QYM.1 hx;exact ezP (h1 p hp) (hb p hp)
 have cs:=fun g (m:Qo) (hl:Am.Qf m 0 1000=.vec g 14 (ps.map V.pav))=>Tz.Sf Tg.Qxd (by decide) (QSB (P:=P) hk) 0 1000 g (ps.map V.pav) m hl ez (by rw[QYn];omega)
 simp only[Si,QYn]at cs;have hperm:(Xj k ps).Perm ps:=Xc _;have hlen:(Xj k ps).length=ps.length:=hperm.length_eq;have hun:(Xj k ps).Pairwise fun q p=>Zo q.1 p.1=false:=(hperm.pairwise_iff fun {a b} h=>by unfold Zo at *;rw[←h,Bool.beq_comm (a:=b.1.bits),Bool.beq_comm (a:=b.1.text)]).2 hu
 have h1T:∀p∈Xj k ps,p.1.one P k (-1)=0:=fun p hp=>h1 p (hperm.mem_iff.1 hp)
 have hbT:∀p∈Xj k ps,p.1.bits<18446744073709551616:=fun p hp=>hb p (hperm.mem_iff.1 hp)
 generalize Xj k ps=T at *;refine QNL.fn (by simp) ?_;simp only[Qa,seval];refine Qj (cl _ rfl) (by simp only[QXY,QYt,Qa,seval]) ?_;simp only[QYn,Qa,seval];refine Qj (cs _ _ (by simp only[eE,seval]<;>rfl)) (by simp only[QXY,QYt,Qa,seval]) ?_;simp only[eE,seval];refine XF (by simp only[Qa,seval]) (by simp only[Qa,seval]) ?_;simp only[eE,seval];refine Qd (PoI T) _ ⟨_,_,0,_,_,rfl,rfl,QXA _,(by rw[hlen];exact(by rfl)),(by rfl),(by rw[hlen];exact(by rfl)),(by rw[hlen];exact(by rfl)),(by rfl),(by rfl),(by rfl),by simp<;>rfl⟩ ?_;rintro _ st ⟨f0,fr0,i,g,h,rfl,rfl,hil,h30,h40,h110,h120,h130,mR0,m40,r6⟩;refine QJ (a:=_) [6] r6 ?_;intro f fr hf hm hn6;have h3:f 3=.vec 0 1000 g 0 T.length false:=by rw[hf,h30]<;>rfl
 have h4:f 4=.vec 0 4 h 0 i false:=by rw[hf,h40]<;>rfl
 have h11:f 11=.vec 0 1000 g 0 T.length false:=by rw[hf,h110]<;>rfl
 have h12:f 12=.int .i64 (T.length:Nat):=by rw[hf,h120]<;>rfl
 have h13:f 13=.int .i64 (i:Nat):=by rw[hf,h130]<;>rfl
 have mR:fr 1000=.vec g 14 (T.map V.pav):=by rw[hm 1000 (by decide),mR0]<;>rfl
 have m4:fr 4=.vec h 14 ((T.take i).map V.pav):=by rw[hm 4 (by decide),m40]<;>rfl
 have n6:=hn6 6 (by decide);clear hf hm hn6 h30 h40 h110 h120 h130 mR0 m40 r6;simp only[h12,h13,Qa,seval];by_cases hlt:i<T.length
 ·obtain⟨x,hi⟩:∃x,T[i]? = some x:=⟨T[i],QXt hlt⟩;have hg:=Z0 hi;have e1:=Ql i _ hlt (by simp only[maxLen];omega);have ia:∀(fr:Nat→Ob) (j:Nat),fr 1000=.vec g 14 (T.map V.pav)→j<T.length→Qb [fr] 14 none (.vec 0 1000 g 0 T.length false) ((j:Nat):Int)=some (.vptr 0 1000 g j 0):=fun fr j h hj=>Qyf h hj
  have la:∀(fr:Nat→Ob),fr 1000=.vec g 14 (T.map V.pav)→Xb [fr] (some 14) (.vptr 0 1000 g i 0)=some (.agg [.int .i64 x.1.kd,.int .u64 (x.1.bits:Nat),.str x.1.text,.list (x.1.list.map V.av),.list (x.1.pairs.map V.pav),.list (x.1.slots.map V.sav),.list (x.1.raws.map R.av),.int .i64 x.2.kd,.int .u64 (x.2.bits:Nat),.str x.2.text,.list (x.2.list.map V.av),.list (x.2.pairs.map V.pav),.list (x.2.slots.map V.sav),.list (x.2.raws.map R.av)]):=fun fr h=>Sg h hg (by simp)
  have fin:∀(f':Fr) (fr':Nat→Ob) (h':Nat),f' 3=.vec 0 1000 g 0 T.length false→f' 4=.vec 0 4 h' 0 (i+1) false→f' 11=.vec 0 1000 g 0 T.length false→f' 12=.int .i64 (T.length:Nat)→f' 13=.int .i64 ((i+1:Nat):Int)→fr' 1000=.vec g 14 (T.map V.pav)→fr' 4=.vec h' 14 ((T.take i).map V.pav++[V.pav x])→(∀s∈[6],(fr' s).isRow=false)→∃k,k<T.length-i∧PoI T k ⟨f',[fr'],[]⟩:=by
   intro f' fr' h' a3 a4 a11 a12 a13 b1 b4 b6;exact⟨T.length-(i+1),by omega,f',fr',i+1,g,h',rfl,rfl,by omega,a3,a4,a11,a12,a13,b1,by rw[b4,QZa,hi];simp,b6⟩
  have hti:((T.take i).map V.pav).length=i:=by rw[QYn,QYp];omega
  simp only[Qm hlt,ia,la,mR,hlt,n6,h3,h11,h13,e1,eE,seval];by_cases hl:i+1=T.length
  ·have d1:(((i+1:Nat):Int)==(T.length:Int))=true:=by simp;omega
   simp only[d1,h4,eE,seval];refine QP (l:=[V.pav x]) rfl rfl rfl (by rw[ZZ];rfl) ?_;refine QG (site:=4) (g:=h) (n:=i) (xs:=(T.take i).map V.pav) (ys:=[V.pav x]) (by rfl) (by exact m4) rfl hti.symm rfl (Wm [x]) (by simp only[QXH,QYo,maxLen];omega) (by simp only[QXH,QYo];omega) ?_;simp only[h13,e1,Qa,seval];exact fin _ _ (h+1) (by exact h3) (by rfl) (by exact h11) (by exact h12) (by rfl) (by exact mR) (by rfl) (by simp<;>rfl)
  ·have d1:(((i+1:Nat):Int)==(T.length:Int))=false:=by simp;omega
   have hlt1:i+1<T.length:=by omega
   obtain⟨y,hj⟩:∃y,T[i+1]? = some y:=⟨T[i+1],QXt hlt1⟩;have hgj:=Z0 hj;have lc:∀(fr:Nat→Ob),fr 1000=.vec g 14 (T.map V.pav)→Xb [fr] (some 7) (.vptr 0 1000 g (i+1) 0)=some (.agg [.int .i64 y.1.kd,.int .u64 (y.1.bits:Nat),.str y.1.text,.list (y.1.list.map V.av),.list (y.1.pairs.map V.pav),.list (y.1.slots.map V.sav),.list (y.1.raws.map R.av)]):=fun fr h=>by
    rw[Sg h hgj (by simp)];rfl
   have hx1:=h1T x (QXF hi);have hy1:=h1T y (QXF hj);have hne:Zo x.1 y.1=false:=by
    rw[QZt]at hun;have:=hun i (i+1) hlt hlt1 (by omega);rw[(QXs.1 hi).2,(QXs.1 hj).2]at this;exact this
   have hq:=Qw7 k hk x.1.bits y.1.bits x.1.text y.1.text;rw[←(ZI hx1).1,←(ZI hy1).1,Vl hk hx1 hy1 (hbT x (QXF hi)) (hbT y (QXF hj)),hne,Qs,Qs]at hq;simp only[d1,ia,lc,mR,hlt1,Wr,QX8,QXZ,QYA,QX9,h3,e1,eE,seval];refine aC hq ?_;simp only[h4,eE,seval];refine QP (l:=[V.pav x]) rfl rfl rfl (by rw[ZZ];rfl) ?_;refine QG (site:=4) (g:=h) (n:=i) (xs:=(T.take i).map V.pav) (ys:=[V.pav x]) (by rfl) (by exact m4) rfl hti.symm rfl (Wm [x]) (by simp only[QXH,QYo,maxLen];omega) (by simp only[QXH,QYo];omega) ?_;simp only[h13,e1,Qa,seval];exact fin _ _ (h+1) (by exact h3) (by rfl) (by exact h11) (by exact h12) (by rfl) (by exact mR) (by rfl) (by simp<;>rfl)
 ·have e:i=T.length:=by omega
  subst e;rw[QY1]at m4;simp only[Qw hlt,h4,eE,seval];simp[AV.un,XZ,Xm,m4];rw[QX0 (by rw[QYn];exact QXq _)]

def eR (x:AV):Prop:=∃f:R,x=f.av
theorem QI7 (f:R):Ez eR 4 f.av:=⟨⟨f,rfl⟩,_,rfl,rfl,rfl,rfl,fun _=>rfl⟩
theorem QSD (x y:R):Qk Tryz.prog 101 [x.av,y.av] (.int .i64 (cN x.num y.num)):=by
 refine QLX.fn (by simp) ?_;simp only[R.av,eE,seval];refine aC (Cx x.num y.num) ?_;simp only[Qa,seval]
theorem QSE:Tz.Cp Tryz.prog 4 eR 101 cA where
 call x y hx hy:=by
  obtain⟨s,rfl⟩:=hx.1;obtain⟨t,rfl⟩:=hy.1;exact QSD s t
 sw:=AF
theorem Sj (l:List R):QF (Tz.lt cA) (l.map R.av)=(ZE l).map R.av:=Wl (fun x y=>by rw[CI];rfl) l
theorem Jc (l:List R):(l.map R.av).all (fun e=>e.cells.length==4)=true:=by
 rw[List.all_map,QXE];intro x _;rfl
theorem ezR (l:List R):∀x∈l.map R.av,Ez eR 4 x:=by
 intro x hx;obtain⟨s,_,rfl⟩:=QYM.1 hx;exact QI7 s

theorem PX (v:V):v.nsc.av=.agg [.int .i64 v.kd,.int .u64 ((XK v.kd v.bits:Nat):Int),.str v.text,.list (v.list.map V.av),.list (v.pairs.map V.pav),.list (v.slots.map V.sav),.list (v.raws.map R.av)]:=by
 rw[Qs];rfl
theorem QSF (b:Nat):Qk Tryz.prog 123 [.int .u64 (b:Nat)] (.int .i64 (WE b:Nat)):=by
 refine Qqq.fn (by simp) ?_;have hm:(b:Int).tmod 9223372036854775808=((b % 9223372036854775808:Nat):Int):=by
  rw[QZu (by omega)];omega
 simp only[hm,Qa,seval];unfold WE;generalize b % 9223372036854775808=z
 repeat' (first|(refine Q2 (fun h=>?_) (fun h=>?_)<;>simp only[h,Qa,seval])|(refine XG (fun h=>?_) (fun h=>?_)<;>simp only[h,Qn,eE,seval])|(refine XH (fun h=>?_) (fun h=>?_)<;>simp only[h,Qn,eE,seval]))
 all_goals(simp only[QXx,QZj,QXy,QY8,ne_eq]at *)
 all_goals((repeat' split)<;>first|rfl|(exfalso;omega))

theorem w82 (b:Nat)(hb:b<18446744073709551616):Qk Tryz.prog 82 [.int .u64 (b:Nat)] (.int .i64 (WE b:Nat)):=by
 refine k82.fn (by simp) ?_;have a1:bits .and .u64 (b:Int) 9218868437227405312=(((b / 4503599627370496 % 2048)*4503599627370496:Nat):Int):=by
  have:=UT b 9218868437227405312 hb (by decide);rw[Pt]at this;exact this
 have a2:bits .and .u64 (b:Int) 4503599627370495=((b % 4503599627370496:Nat):Int):=by
  have:=UT b 4503599627370495 hb (by decide);rw[Ps]at this;exact this
 simp only[a1,a2,Qa,seval];unfold WE
 repeat' (first|(refine Q2 (fun h=>?_) (fun h=>?_)<;>simp only[h,Qa,seval])|(refine XG (fun h=>?_) (fun h=>?_)<;>simp only[h,Qn,Qa,seval])|(refine XH (fun h=>?_) (fun h=>?_)<;>simp only[h,Qn,eE,seval]))
 all_goals(simp only[QXy,QXS,bne_eq_false_iff_eq,QY8,ne_eq]at *)
 all_goals((repeat' split)<;>first|rfl|(exfalso;omega))

theorem v51 (v:V)(hb:v.bits<18446744073709551616):Qk Tryz.prog 51 [v.av] v.nsc.av:=by
 rw[PX,Qs];refine k51.fn (by simp) ?_;simp only[eE,seval];by_cases hk:v.kd=6
 ·have b0:(v.kd==6)=true:=by simp[hk]
  simp only[b0,eE,seval];refine aC (w82 v.bits hb) ?_;simp only[Cv,Qa,seval];by_cases hc:WE v.bits=0
  ·simp only[hc,XK,hk,decide_true,and_self,splice,QXZ,QYA,QX2,QX9,QXO,QXP,QXH,QYo,eE,seval]
   try rfl
  ·simp only[hc,XK,decide_false,and_false,eE,seval]
 ·have b0:(v.kd==6)=false:=by simp[hk]
  simp only[b0,XK,hk,false_and,eE,seval]

theorem v75 (v:V)(_hb:v.bits<18446744073709551616):Qk Tryz.prog 75 [v.av] v.nsc.av:=by
 rw[PX,Qs];refine k75.fn (by simp) ?_;simp only[eE,seval];by_cases hk:v.kd=6
 ·have b0:(v.kd==6)=true:=by simp[hk]
  simp only[b0,eE,seval];refine aC (QSF v.bits) ?_;simp only[Cv,Qa,seval];by_cases hc:WE v.bits=0
  ·simp only[hc,XK,hk,decide_true,and_self,splice,QXZ,QYA,QX2,QX9,QXO,QXP,QXH,QYo,eE,seval]
   try rfl
  ·simp only[hc,XK,decide_false,and_false,eE,seval]
 ·have b0:(v.kd==6)=false:=by simp[hk]
  simp only[b0,XK,hk,false_and,eE,seval]

def EW (m:PG→V→Prop)(P:PL)(o:PO)(v:V):Prop:=o.kind=10→m (Q1 P o.target) v
def FW (m:PG→V→Prop)(P:PL)(o:PO)(v:V):Prop :=
 if o.card=4 then ∀x∈v.list,EW m P o x
 else if o.card=5 then(∀p∈v.pairs,p.1.one P o.key (-1)=0∧EW m P o p.2)∧v.pairs.Pairwise fun q p=>Zo q.1 p.1=false
 else EW m P o v
def MW (P:PL):Nat→PG→V→Prop
 |0,_,_=>False
 |n+1,g,v=>(∀s∈v.slots,∃o,XO g s.1=some o∧FW (MW P n) P o s.2)∧v.slots.Pairwise fun y x=>(y.1==x.1)=false

theorem CJ {m:PG→V→Int}{w:PG→V→Prop}(h:∀g v,m g v=0→w g v){P:PL}{o:PO}{v:V}(he:QN m P o v=0):EW w P o v:=by
 intro hk;unfold QN at he;rw[QXV hk]at he;exact h _ _ he
theorem QI8 {m:PG→V→Int}{w:PG→V→Prop}(h:∀g v,m g v=0→w g v){P:PL}{o:PO}{v:V}(he:Q3 m P o v=0):FW w P o v:=by
 unfold Q3 at he;unfold FW;by_cases h4:o.card=4
 ·rw[QXG (by omega),QXV h4]at he;rw[QXV h4];split at he
  ·omega
  exact fun x hx=>CJ h (KE.1 he x hx)
 ·rw[QXG h4];by_cases h5:o.card=5
  ·rw[QXV h5]at he;rw[QXV h5];split at he
   ·omega
   have hE:=Wp.1 he;exact⟨fun p hp=>⟨(hE.1 p hp).1,CJ h (hE.1 p hp).2⟩,hE.2⟩
  ·rw[QXG h5,QXG h4]at he;rw[QXG h5];exact CJ h he
theorem U4 {P:PL}:∀(n:Nat) (g:PG) (v:V),Xl P n g v=0→MW P n g v
 |0,g,v,h=>by
  unfold Xl at h;split at h<;>omega
 |n+1,g,v,h=>by
  obtain⟨_,⟨s1,s2,_⟩,_,_⟩:=KF.1 h;refine⟨fun s hs=>?_,s2⟩;obtain⟨o,ho,hf⟩:=s1 s hs;exact⟨o,ho,QI8 (U4 n) hf⟩
theorem QaJ {P:PL}{o:PO}(ho:o.card=5→X3 o.key)(h5:o.card=5){ps:List (V×V)}(h:∀p∈ps,p.1.one P o.key (-1)=0):∀p∈ps,p.1.nsc=p.1:=by
 intro p hp;have e:=(Ym (h p hp)).1;refine BS ?_;have:=ho h5;unfold X3 at this;omega

theorem Nc {x:V}:∀ {l:List V},x∈l→x.cnt≤Xd l
 |y :: l,h=>by
  rw[Xd];rcases QYO.1 h with rfl|h
  ·omega
  ·have:=Nc h;omega
theorem HO {x:V×V}:∀ {l:List (V×V)},x∈l→x.1.cnt+x.2.cnt≤Xs l
 |(a,b) :: l,h=>by
  rw[Xs];rcases QYO.1 h with rfl|h
  ·dsimp only;omega
  ·have:=HO h;omega
theorem Nd {x:Int×V}:∀ {l:List (Int×V)},x∈l→x.2.cnt≤Xh l
 |(a,b) :: l,h=>by
  rw[Xh];rcases QYO.1 h with rfl|h
  ·dsimp only;omega
  ·have:=Nd h;omega
theorem KG (v:V):1≤v.cnt:=by rw[Xk];omega
theorem HP:∀l:List V,l.length≤Xd l
 | []=>QXq _
 |x :: l=>by
  have:=KG x;have:=HP l;simp only[Xd,QXH];omega
theorem Nf:∀l:List (V×V),2*l.length≤Xs l
 | []=>QXq _
 |(a,b) :: l=>by
  have:=KG a;have:=KG b;have:=Nf l;simp only[Xs,QXH];omega
theorem Ng:∀l:List (Int×V),l.length≤Xh l
 | []=>QXq _
 |(a,b) :: l=>by
  have:=KG b;have:=Ng l;simp only[Xh,QXH];omega
theorem YS {v x:V}(h:x∈v.list):x.cnt≤v.cnt:=by have:=Nc h;rw[Xk v];omega
theorem Vt {v:V}{x:V×V}(h:x∈v.pairs):x.1.cnt≤v.cnt:=by have:=HO h;rw[Xk v];omega
theorem U5 {v:V}{x:V×V}(h:x∈v.pairs):x.2.cnt≤v.cnt:=by have:=HO h;rw[Xk v];omega
theorem YT {v:V}{x:Int×V}(h:x∈v.slots):x.2.cnt≤v.cnt:=by have:=Nd h;rw[Xk v];omega
theorem JT (v:V):v.list.length≤v.cnt:=by have:=HP v.list;rw[Xk v];omega
theorem KR (v:V):v.pairs.length≤v.cnt:=by have:=Nf v.pairs;rw[Xk v];omega
theorem KS (v:V):v.slots.length≤v.cnt:=by have:=Ng v.slots;rw[Xk v];omega
theorem YU (v:V):v.raws.length≤v.cnt:=by rw[Xk v];omega

section
variable {M:Nat}{P:PL}{m:PG→V→Prop}{nm:PG→V→V}(o:PO)(ho:UO P o)

include ho in
theorem QSG (hm:∀(t:Int) (g:PG),P.progs[t.toNat]? = some g→0≤t→∀v:V,v.ok M→v.cnt≤1048576→m g v→Qk Tryz.prog 57 [P.av,.int .i64 t,v.av] (nm g v).av)(v:V)(hv:v.ok M)(hc:v.cnt≤1048576)(he:EW m P o v) :
  Qk Tryz.prog 184 [P.av,Qr o,v.av] (ZG nm P o v).av:=by
 have e0:P.av=.agg [.list (P.progs.map Qh),.list (P.enums.map Qq)]:=rfl;unfold ZG;by_cases hk:o.kind=10
 ·have b:(o.kind==10)=true:=by simp[hk]
  have he:=he hk;rw[QXV hk];obtain⟨t0,t1⟩:=ho.tgt hk;obtain⟨g,hg⟩:∃g,P.progs[o.target.toNat]? = some g:=⟨P.progs[o.target.toNat]'(by omega),QXt (by omega)⟩;have hq:Q1 P o.target=g:=by unfold Q1;rw[hg];rfl
  rw[hq]at he ⊢;have h2:=hm o.target g hg t0 v hv hc he;generalize nm g v=z at h2 ⊢;rw[e0,Qs,Qs]at h2;rw[Qs,Qs];refine Rt.fn (by simp) ?_;simp only[e0,Qr,PO.cells,b,eE,seval];refine aC h2 ?_;simp only[eE,seval]
 ·have b:(o.kind==10)=false:=by simp[hk]
  rw[QXG hk];have h1:=v51 v (Z9 hv);generalize v.nsc=z at h1 ⊢;rw[Qs,Qs]at h1;rw[Qs,Qs];refine Rt.fn (by simp) ?_;simp only[e0,Qr,PO.cells,b,eE,seval];refine aC h1 ?_;simp only[eE,seval]

def NlI (P:PL)(o:PO)(l:List V)(F:V→V)(k:Nat)(st:St):Prop :=
 ∃f fr i g,st=⟨f,[fr],[]⟩∧k=l.length-i∧i≤l.length∧f 3=.ptr 0 3 0∧f 4=.ptr 0 4 0∧f 6=.ptr 0 6 0∧f 7=.ptr 0 7 0∧f 19=.list (l.map V.av)∧f 20=.int .i64 (l.length:Nat)∧f 21=.int .i64 (i:Nat)∧fr 3=.cells [.list (P.progs.map Qh),.list (P.enums.map Qq)]∧fr 4=.cells o.cells∧fr 6=.cells [.int .i64 0,.int .u64 0,.str [],.nils,.nils,.nils,.nils]∧fr 7=.cells [.int .i64 11,.int .u64 0,.str [],.vec 0 1100 g 0 i false,.nils,.nils,.nils]∧fr 1100=.vec g 7 ((l.take i).map fun x=>(F x).av)∧∀s∈[9],(fr s).isRow=false

def NpI (P:PL)(o:PO)(T:List (V×V))(F:V×V→V×V)(k:Nat)(st:St):Prop :=
 ∃f fr i g,st=⟨f,[fr],[]⟩∧k=T.length-i∧i≤T.length∧f 3=.ptr 0 3 0∧f 4=.ptr 0 4 0∧f 6=.ptr 0 6 0∧f 10=.ptr 0 10 0∧f 41=.list (T.map V.pav)∧f 42=.int .i64 (T.length:Nat)∧f 43=.int .i64 (i:Nat)∧fr 3=.cells [.list (P.progs.map Qh),.list (P.enums.map Qq)]∧fr 4=.cells o.cells∧fr 6=.cells [.int .i64 0,.int .u64 0,.str [],.nils,.nils,.nils,.nils]∧fr 10=.cells [.int .i64 12,.int .u64 0,.str [],.nils,.vec 0 1101 g 0 i false,.nils,.nils]∧fr 1101=.vec g 14 ((T.take i).map fun x=>V.pav (F x))∧∀s∈[12],(fr s).isRow=false

theorem AG (l:List V)(F:V→V):(l.map fun x=>(F x).av)=(l.map F).map V.av:=by rw[QZc];rfl
theorem PY (l:List (V×V))(F:V×V→V×V):(l.map fun x=>V.pav (F x))=(l.map F).map V.pav:=by rw[QZc];rfl

set_option maxHeartbeats 1000000 in
include ho in
theorem v98 (hel:∀v:V,v.ok M→v.cnt≤1048576→EW m P o v→Qk Tryz.prog 184 [P.av,Qr o,v.av] (ZG nm P o v).av)(v:V)(hv:v.ok M)(hc:v.cnt≤1048576)(he:FW m P o v) :
  Qk Tryz.prog 98 [P.av,Qr o,v.av] (ZT nm P o v).av:=by
 have e0:P.av=.agg [.list (P.progs.map Qh),.list (P.enums.map Qq)]:=rfl;unfold ZT;unfold FW at he;by_cases h4:o.card=4
 ·have b4:(o.card==4)=true:=by simp[h4]
  rw[QXV h4]at he;rw[QXV h4];have hL:=he;have hlen:=JT v;rw[Qs v];generalize hF:ZG nm P o=F at hel ⊢;rw[show(V.mk 11 0 [] (v.list.map F) [] [] []).av=.agg [.int .i64 11,.int .u64 0,.str [],.list ((v.list.map F).map V.av),.list [],.list [],.list []]from Qs _];refine SI.fn (by simp) ?_;simp only[e0,Qr,PO.cells,b4,eE,seval];refine JO (by simp only[Qa,seval]<;>rfl) rfl (by simp only[Qa,seval]<;>rfl) rfl ?_;simp only[List.set,QYn,eE,seval];refine Qd (NlI P o v.list F) _ ⟨_,_,0,_,rfl,rfl,QXA _,(by rfl),(by rfl),(by rfl),(by rfl),(by rfl),(by rfl),(by rfl),(by rfl),(by rfl),(by rfl),(by rfl),(by rfl),by simp<;>rfl⟩ ?_;rintro _ st ⟨f0,fr0,i,g,rfl,rfl,hil,h30,h40,h60,h70,h190,h200,h210,m30,m40,m60,m70,mR0,r9⟩;refine QJ (a:=_) [9] r9 ?_;intro f fr hf hm hn9;have h3:f 3=.ptr 0 3 0:=by rw[hf,h30]<;>rfl
  have h4:f 4=.ptr 0 4 0:=by rw[hf,h40]<;>rfl
  have h6:f 6=.ptr 0 6 0:=by rw[hf,h60]<;>rfl
  have h7:f 7=.ptr 0 7 0:=by rw[hf,h70]<;>rfl
  have h19:f 19=.list (v.list.map V.av):=by rw[hf,h190]<;>rfl
  have h20:f 20=.int .i64 (v.list.length:Nat):=by rw[hf,h200]<;>rfl
  have h21:f 21=.int .i64 (i:Nat):=by rw[hf,h210]<;>rfl
  have m3:fr 3=.cells [.list (P.progs.map Qh),.list (P.enums.map Qq)]:=by rw[hm 3 (by decide),m30]<;>rfl
  have m4:fr 4=.cells o.cells:=by rw[hm 4 (by decide),m40]<;>rfl
  have m6:fr 6=.cells [.int .i64 0,.int .u64 0,.str [],.nils,.nils,.nils,.nils]:=by rw[hm 6 (by decide),m60]<;>rfl
  have m7:fr 7=.cells [.int .i64 11,.int .u64 0,.str [],.vec 0 1100 g 0 i false,.nils,.nils,.nils]:=by rw[hm 7 (by decide),m70]<;>rfl
  have mR:fr 1100=.vec g 7 ((v.list.take i).map fun x=>(F x).av):=by rw[hm 1100 (by decide),mR0]<;>rfl
  have n9:=hn9 9 (by decide);clear hf hm hn9 h30 h40 h60 h70 h190 h200 h210 m30 m40 m60 m70 mR0 r9;have m4':=m4;simp only[PO.cells]at m4;simp only[h20,h21,Qa,seval];by_cases hlt:i<v.list.length
  ·obtain⟨x,hi⟩:∃x,v.list[i]? = some x:=⟨v.list[i],QXt hlt⟩;have hx:=QXF hi;have hg:=WF hi;have e1:=Ql i _ hlt (by simp only[maxLen];omega);have c1:=hel x (hv.list x hx) (QXr (YS hx) hc) (hL x hx);have hti:((v.list.take i).map fun x=>(F x).av).length=i:=by rw[QYn,QYp];omega
   have hts:(v.list.take (i+1)).map (fun x=>(F x).av)=(v.list.take i).map (fun x=>(F x).av)++[(F x).av]:=by rw[QZa,hi];simp
   generalize F x=z at c1 hts;rw[e0,Qs,Qs z]at c1;simp only[Qr,PO.cells]at c1;simp only[Qm hlt,Qi,QYT,Qb,hg,n9,h3,h4,h7,h19,h21,m3,m4,m7,eE,seval];refine aC c1 ?_;refine QP (l:=[z.av]) rfl rfl rfl (by rw[Qs];rfl) ?_;refine QG (site:=1100) (g:=g) (n:=i) (xs:=(v.list.take i).map fun x=>(F x).av) (ys:=[z.av]) (by rfl) (by exact mR) rfl hti.symm rfl (BU [z]) (by simp only[QXH,QYo,maxLen];omega) (by simp only[QXH,QYo];omega) ?_;simp only[h7,h21,m7,e1,eE,seval];exact⟨v.list.length-(i+1),by omega,_,_,i+1,g+1,rfl,rfl,by omega,(by exact h3),(by exact h4),(by exact h6),(by exact h7),(by exact h19),(by exact h20),(by rfl),(by exact m3),(by exact m4'),(by exact m6),(by rfl),(by rw[hts];exact(by rfl)),by simp<;>rfl⟩
  ·have e:i=v.list.length:=by omega
   subst e;rw[QY1,AG]at mR;simp only[Qw hlt,h6,h7,m6,m7,eE,seval];simp[AV.un,AV.unL,XZ,Xm,mR,QX0]
 ·have b4:(o.card==4)=false:=by simp[h4]
  rw[QXG h4];by_cases h5:o.card=5
  ·have b5:(o.card==5)=true:=by simp[h5]
   rw[QXG h4,QXV h5]at he;rw[QXV h5];have hE:=he;have hlen:=KR v;have hk:=ho.key h5;have hkn:=QaJ ho.key h5 fun p hp=>(hE.1 p hp).1
   have cp:=QSC hk v.pairs (by omega) (fun p hp=>(hE.1 p hp).1) (fun p hp=>Z9 (hv.keys p hp)) hE.2;have hperm:(Xj o.key v.pairs).Perm v.pairs:=Xc _;have hTl:(Xj o.key v.pairs).length=v.pairs.length:=hperm.length_eq;have hTm:∀p∈Xj o.key v.pairs,p∈v.pairs:=fun p h=>hperm.mem_iff.1 h
   generalize Xj o.key v.pairs=T at *;rw[Qs v];generalize hF:(fun p:V×V=>(p.1.nsc,ZG nm P o p.2))=F;rw[show(V.mk 12 0 [] [] (T.map F) [] []).av=.agg [.int .i64 12,.int .u64 0,.str [],.list [],.list ((T.map F).map V.pav),.list [],.list []]from Qs _];refine SI.fn (by simp) ?_;simp only[e0,Qr,PO.cells,b4,b5,eE,seval];refine JO (by simp only[Qa,seval]<;>rfl) rfl (by simp only[Qa,seval]<;>rfl) rfl ?_;simp only[List.set,eE,seval];refine aC cp ?_;simp only[QYn,Qa,seval];refine Qd (NpI P o T F) _ ⟨_,_,0,_,rfl,rfl,QXA _,(by rfl),(by rfl),(by rfl),(by rfl),(by rfl),(by rfl),(by rfl),(by rfl),(by rfl),(by rfl),(by rfl),(by rfl),by simp<;>rfl⟩ ?_;rintro _ st ⟨f0,fr0,i,g,rfl,rfl,hil,h30,h40,h60,h100,h410,h420,h430,m30,m40,m60,m100,mR0,JX⟩;refine QJ (a:=_) [12] JX ?_;intro f fr hf hm hn12;have h3:f 3=.ptr 0 3 0:=by rw[hf,h30]<;>rfl
   have h4:f 4=.ptr 0 4 0:=by rw[hf,h40]<;>rfl
   have h6:f 6=.ptr 0 6 0:=by rw[hf,h60]<;>rfl
   have h10:f 10=.ptr 0 10 0:=by rw[hf,h100]<;>rfl
   have h41:f 41=.list (T.map V.pav):=by rw[hf,h410]<;>rfl
   have h42:f 42=.int .i64 (T.length:Nat):=by rw[hf,h420]<;>rfl
   have h43:f 43=.int .i64 (i:Nat):=by rw[hf,h430]<;>rfl
   have m3:fr 3=.cells [.list (P.progs.map Qh),.list (P.enums.map Qq)]:=by rw[hm 3 (by decide),m30]<;>rfl
   have m4:fr 4=.cells o.cells:=by rw[hm 4 (by decide),m40]<;>rfl
   have m6:fr 6=.cells [.int .i64 0,.int .u64 0,.str [],.nils,.nils,.nils,.nils]:=by rw[hm 6 (by decide),m60]<;>rfl
   have m10:fr 10=.cells [.int .i64 12,.int .u64 0,.str [],.nils,.vec 0 1101 g 0 i false,.nils,.nils]:=by rw[hm 10 (by decide),m100]<;>rfl
   have mR:fr 1101=.vec g 14 ((T.take i).map fun x=>V.pav (F x)):=by rw[hm 1101 (by decide),mR0]<;>rfl
   have n12:=hn12 12 (by decide);clear hf hm hn12 h30 h40 h60 h100 h410 h420 h430 m30 m40 m60 m100 mR0 JX;have m4':=m4;simp only[PO.cells]at m4;simp only[h42,h43,Qa,seval];by_cases hlt:i<T.length
   ·obtain⟨x,hi⟩:∃x,T[i]? = some x:=⟨T[i],QXt hlt⟩;have hx:=hTm x (QXF hi);have hg:=Z0 hi;have e1:=Ql i _ hlt (by simp only[maxLen];omega);have c0:=v51 x.1 (Z9 (hv.keys x hx));have c1:=hel x.2 (hv.vals x hx) (QXr (U5 hx) hc) (hE.1 x hx).2;have hti:((T.take i).map fun x=>V.pav (F x)).length=i:=by rw[QYn,QYp];omega
    have hFx:F x=(x.1.nsc,ZG nm P o x.2):=by rw[←hF]
    have hts:(T.take (i+1)).map (fun x=>V.pav (F x))=(T.take i).map (fun x=>V.pav (F x))++[V.pav (x.1.nsc,ZG nm P o x.2)]:=by rw[QZa,hi,←hFx];simp
    generalize x.1.nsc=y at c0 hts;generalize ZG nm P o x.2=z at c1 hts;rw[Qs,Qs y]at c0;rw[e0,Qs,Qs z]at c1;simp only[Qr,PO.cells]at c1;simp only[Qm hlt,Qi,QYT,Qb,hg,n12,h10,h41,h43,m10,eE,seval];refine aC c0 ?_;simp only[QXZ,QX2,QX9,h3,h4,m3,m4,eE,seval];refine aC c1 ?_;simp only[eE,seval];refine QP (l:=[V.pav (y,z)]) rfl rfl rfl (by rw[ZZ];rfl) ?_;refine QG (site:=1101) (g:=g) (n:=i) (xs:=(T.take i).map fun x=>V.pav (F x)) (ys:=[V.pav (y,z)]) (by rfl) (by exact mR) rfl hti.symm rfl (Wm [(y,z)]) (by simp only[QXH,QYo,maxLen];omega) (by simp only[QXH,QYo];omega) ?_;simp only[h10,h43,m10,e1,eE,seval];exact⟨T.length-(i+1),by omega,_,_,i+1,g+1,rfl,rfl,by omega,(by exact h3),(by exact h4),(by exact h6),(by exact h10),(by exact h41),(by exact h42),(by rfl),(by exact m3),(by exact m4'),(by exact m6),(by rfl),(by rw[hts];exact(by rfl)),by simp<;>rfl⟩
   ·have e:i=T.length:=by omega
    subst e;rw[QY1,PY]at mR;simp only[Qw hlt,h6,h10,m6,m10,eE,seval];simp[AV.un,AV.unL,XZ,Xm,mR,QX0]
  ·have b5:(o.card==5)=false:=by simp[h5]
   rw[QXG h4,QXG h5]at he;rw[QXG h5];have c1:=hel v hv hc he;generalize ZG nm P o v=z at c1 ⊢;rw[e0,Qs v,Qs z]at c1;simp only[Qr,PO.cells]at c1;rw[Qs v,Qs z];refine SI.fn (by simp) ?_;simp only[e0,Qr,PO.cells,b4,b5,eE,seval];refine aC c1 ?_;simp only[eE,seval]

end

theorem Qyg {ops:List PO}(h:XW ops (Zd PO.num)=true):ops.Pairwise fun a b=>a.num<b.num:=by
 have hs:∀i (hi:i+1<ops.length),ops[i].num<ops[i+1].num:=by
  intro i hi;unfold XW at h;have:=QL.1 h (i+1) hi;rw[Jo (QXt (by omega:i<ops.length)) (QXt hi)]at this;unfold Zd at this
  simpa using this
 rw[QZt];intro i j hi hj hij;obtain⟨d,rfl⟩:∃d,j=i+1+d:=⟨j-(i+1),by omega⟩;clear hij
 induction d with
 |zero=>exact hs i (by omega)
 |succ d ih=>
  have a:=ih (by omega);have b:=hs (i+1+d) (by omega);exact Int.lt_trans a b

theorem Nh {P:PL}(h:ck P=0):Hq P=true∧args P=true:=by
 unfold ck at h;split at h
 ·omega
 split at h
 ·omega
 split at h
 ·omega
 rename_i ho;split at h
 ·omega
 split at h
 ·omega
 split at h
 ·omega
 rename_i ha;exact⟨by simpa using ho,by simpa using ha⟩
theorem Ni {P:PL}(h:ck P=0):KI P:=by
 have ho:=(Nh h).1;unfold Hq at ho;simp only[QXQ,QXE]at ho;intro g hg;exact Qyg (ho.1.2 g hg)
def CL (P:PL):Prop:=∀g∈P.progs,∀o∈g.ops,1≤o.card∧o.card≤5
theorem Sk {P:PL}(h:ck P=0):CL P:=by
 have ha:=(Nh h).2;intro g hg o ho;unfold args at ha;simp only[QXQ,QXE]at ha;have h1:=ha.1 g hg;unfold Jb at h1;simp only[QXQ,QXE]at h1;have h2:=(h1.2 o ho).1;unfold X9 at h2;simp only[QXQ,QXx]at h2;exact⟨h2.1.1.1.2,h2.1.1.2⟩

theorem YV {fr:Nat→Ob}{a b c:Nat}(h1:(fr a).isRow=false)(h2:(fr b).isRow=false)(h3:(fr c).isRow=false):∀s∈[a,b,c],(fr s).isRow=false:=by
 intro s hs;simp only[QYO,QZw,or_false]at hs;rcases hs with rfl|rfl|rfl
 ·exact h1
 ·exact h2
 ·exact h3

section
variable (k:Int)(b:Nat)(t:List UInt8)(l p s r:List AV)

theorem QSH:Qk Tryz.prog 115 [vo k b t l p s r] (.bool (BH k b t l p s r)):=by
 have hl:=RX k b t l p s r;simp only[vo]at hl;refine QMh.fn (by simp) ?_;simp only[vo,BH,eE,seval];refine aC (Ca k) ?_;cases isk k
 ·simp only[QYW,Qa,seval]
 ·simp only[QY3,eE,seval];cases h1:((b:Int)==0)
  ·simp only[QZk,QYW,Qa,seval]
  ·cases h2:(t==[])
   ·simp only[h2,QZk,QI,eE,seval]
   ·simp only[h2,QYF,QI,eE,seval];refine aC hl ?_;simp only[Qa,seval]

theorem QSI (hl:l.length≤140737488351232)(hp:p.length≤140737488351232)(hs:s.length≤140737488351232)(hr:r.length≤140737488351232) :
  Qk Tryz.prog 186 [vo k b t l p s r] (.bool (BH k b t l p s r)):=by
 have hle:=QwK k b t l p s r hl hp hs hr;simp only[vo]at hle;refine Qhs.fn (by simp) ?_;simp only[vo,BH,eE,seval];refine aC (Bq k) ?_;cases isk k
 ·simp only[QYW,Qa,seval]
 ·simp only[QY3,eE,seval];refine aC hle ?_;cases W0 l p s r
  ·simp only[QYW,Qa,seval]
  ·cases h1:((b:Int)==0)<;>cases h2:(t==[])<;>cases h3:Za k<;>simp only[h1,h2,QYF,QZk,QXL,QI,eE,seval]

theorem w71:Qk Tryz.prog 71 [vo k b t l p s r] (.bool (emp k b t l p s r)):=by
 have hz:=QSH k b t l p s r;simp only[vo]at hz;refine k71.fn (by simp) ?_;simp only[vo,emp,eE,seval];by_cases h1:k=11
 ·subst h1;have e:BH 11 b t l p s r=false:=rfl;have e1:((11:Int)==11)=true:=rfl;have e2:((11:Int)==12)=false:=rfl;simp only[e,e1,e2,QY3,QYW,QZl,eE,seval]
 ·have e1:(k==11)=false:=by simp[h1]
  by_cases h2:k=12
  ·subst h2;have e:BH 12 b t l p s r=false:=rfl;have e2:((12:Int)==12)=true:=rfl;simp only[e,e1,e2,QY3,QYW,QZl,QY7,eE,seval]
  ·have e2:(k==12)=false:=by simp[h2]
   simp only[e1,e2,QYW,QY7,eE,seval];refine aC hz ?_;simp only[Qa,seval]

theorem w99 (hl:l.length≤140737488351232)(hp:p.length≤140737488351232)(hs:s.length≤140737488351232)(hr:r.length≤140737488351232):Qk Tryz.prog 99 [vo k b t l p s r] (.bool (emp k b t l p s r)):=by
 have hz:=QSI k b t l p s r hl hp hs hr;simp only[vo]at hz;refine k99.fn (by simp) ?_;simp only[vo,emp,eE,seval];cases h1:(k==11)<;>cases h2:((l.length:Int)==0)<;>cases h3:(k==12)<;>cases h4:((p.length:Int)==0)<;>simp only[h2,h3,h4,QY3,QYW,QY6,QY7,QZl,eE,seval]
 all_goals(refine aC hz ?_;simp only[Qa,seval])

end
theorem QI9 (v:V)(hc:v.cnt≤1048576):Qk Tryz.prog 99 [v.av] (.bool v.emp):=by
 have h1:=JT v;have h2:=KR v;have h3:=KS v;have h4:=YU v;rw[YL];exact w99 _ _ _ _ _ _ _ (by simp;omega) (by simp;omega) (by simp;omega) (by simp;omega)
theorem QJa (v:V):Qk Tryz.prog 71 [v.av] (.bool v.emp):=by
 rw[YL];exact w71 _ _ _ _ _ _ _

def NgI (P:PL)(K:Nat→List (Int×V))(T:List (Int×V))(t:Nat)(rw':List R)(k:Nat)(st:St):Prop :=
 ∃f fr i g h,st=⟨f,[fr],[]⟩∧k=T.length-i∧i≤T.length∧f 1=.int .i64 (t:Nat)∧f 3=.ptr 0 3 0∧f 6=.ptr 0 6 0∧f 7=.ptr 0 7 0∧f 30=.list (T.map V.sav)∧f 31=.int .i64 (T.length:Nat)∧f 32=.int .i64 (i:Nat)∧fr 3=.cells [.list (P.progs.map Qh),.list (P.enums.map Qq)]∧fr 6=.cells [.int .i64 0,.int .u64 0,.str [],.nils,.nils,.nils,.nils]∧fr 7=.cells [.int .i64 10,.int .u64 0,.str [],.nils,.nils,.vec 0 1100 g 0 (K i).length false,.vec 0 1000 h 0 rw'.length false]∧fr 1100=.vec g 8 ((K i).map V.sav)∧fr 1000=.vec h 4 (rw'.map R.av)∧∀s∈[13,10,9],(fr s).isRow=false

section
variable {M:Nat}{P:PL}(hP:P.ok M)

set_option maxHeartbeats 2000000 in
include hP in
theorem v57 (hU:Yo P)(hr:KI P)(hcd:CL P):∀(n:Nat) (t:Int) (g:PG),P.progs[t.toNat]? = some g→0≤t→∀v:V,v.ok M→v.cnt≤1048576→MW P n g v→Qk Tryz.prog 57 [P.av,.int .i64 t,v.av] (Xi P n g v).av:=by
 have e0:P.av=.agg [.list (P.progs.map Qh),.list (P.enums.map Qq)]:=rfl;intro n
 induction n with
 |zero=>
  intro t g _ _ v _ _ h;exact h.elim
 |succ n ih=>
  intro t g hgt t0 v hv hc h;have hgm:=QXF hgt;have hg:=hP.progs g hgm;have hu:=hU g hgm;have hd:=hr g hgm;obtain⟨s1,s2⟩:=h;have hnel:=fun(o:PO) (ho:o∈g.ops) (x:V) (hx:x.ok M) (hxc:x.cnt≤1048576) (he:EW (MW P n) P o x)=>QSG o (hu o ho) (fun t g a b v c d e=>ih t g a b v c d e) x hx hxc he
  have hnfl:=fun(o:PO) (ho:o∈g.ops) (x:V) (hx:x.ok M) (hxc:x.cnt≤1048576) (he:FW (MW P n) P o x)=>v98 o (hu o ho) (hnel o ho) x hx hxc he
  have hcn:∀(o:PO) (x:V),(ZT (Xi P n) P o x).cnt≤x.cnt:=fun o x=>Vj (fun t v=>Yn hr n _ (UC hr t) v) o x
  have lS:=KS v;have lR:=YU v;have clR:=fun fr hr=>v96 (v.raws.map R.av) fr [] (Jc v.raws) (by rw[QYn];omega) hr
  have csR:=fun g (m:Qo) (hl:Am.Qf m 0 1000=.vec g 4 (v.raws.map R.av))=>Tz.Sf Tg.QHC (by decide) QSE 0 1000 g (v.raws.map R.av) m hl (ezR v.raws) (by rw[QYn];omega)
  simp only[Sj,QYn]at csR;have csl:=v97 v.slots (by omega) s2;have hTp:(JS v.slots).Perm v.slots:=Xc _;have hTl:(JS v.slots).length=v.slots.length:=hTp.length_eq;have hTm:∀s∈JS v.slots,s∈v.slots:=fun s h=>hTp.mem_iff.1 h
  have hfin:=Sb (Xi P n) P hd s2;have hrl:(ZE v.raws).length=v.raws.length:=(Xc v.raws).length_eq;generalize JS v.slots=T at *;obtain⟨ti,hti⟩:=QY5 t0;subst hti;rw[QYT]at hgt;have hga:(P.progs.map Qh)[ti]? = some (.agg g.cells):=by simp[hgt,Qh]
  simp only[PG.cells]at hga;have htl:ti<P.progs.length:=(QXs.1 hgt).1;have d0:decide ((ti:Int)<0)=false:=QZd (by omega);have d1:decide ((ti:Int)≥(P.progs.length:Int))=false:=QZd (by omega);have co:=fun n=>Tw g hg.len n
  simp only[JZ]at co;simp only[Qh,PG.cells]at co;show Qk _ _ _ (V.mk 10 0 [] [] [] (g.ops.flatMap (XC (Xi P n) P v.slots)) (ZE v.raws)).av;rw[←hfin,Qs v];generalize hK:(fun i=>(T.take i).flatMap (Jh (Xi P n) P g))=K;have hK0:K 0=[]:=by rw[←hK];simp
  have hKn:T.flatMap (Jh (Xi P n) P g)=K T.length:=by rw[←hK];simp
  have hKl:∀i,i≤T.length→(K i).length≤i:=by
   intro i hi;rw[←hK];show((T.take i).flatMap _).length≤i;have:∀l:List (Int×V),(l.flatMap (Jh (Xi P n) P g)).length≤l.length:=by
    intro l
    induction l with
    |nil=>exact QXq _
    |cons s l ih=>
     have:(Jh (Xi P n) P g s).length≤1:=by
      unfold Jh;split
      ·simp
      ·unfold ZJ;split<;>simp
     rw[QYV,QX4,QXH];omega
   exact QXr (this _) (by rw[QYp];omega)
  rw[hKn,show(V.mk 10 0 [] [] [] (K T.length) (ZE v.raws)).av=.agg [.int .i64 10,.int .u64 0,.str [],.list [],.list [],.list ((K T.length).map V.sav),.list ((ZE v.raws).map R.av)]from Qs _];refine k57.fn (by simp) ?_;simp only[e0,eE,seval];refine Qj (clR _ rfl) (by simp only[QXY,QYt,Qa,seval]) ?_;simp only[QYn,eE,seval];refine JO (by simp only[Qa,seval]<;>rfl) rfl (by simp only[Qa,seval]<;>rfl) rfl ?_;simp only[List.set,d0,d1,QYn,eE,seval];refine aC csl ?_;simp only[QYn,Qa,seval];refine Qd (NgI P K T ti v.raws) _ ⟨_,_,0,_,_,rfl,rfl,QXA _,(by rfl),(by rfl),(by rfl),(by rfl),(by rfl),(by rfl),(by rfl),(by rfl),(by rfl),(by rw[hK0];exact(by rfl)),(by rw[hK0];exact(by rfl)),(by rfl),YV rfl rfl rfl⟩ ?_;rintro _ st ⟨f0,fr0,i,gs,hs,rfl,rfl,hil,h10,h30,h60,h70,h300,h310,h320,m30,m60,m70,mS0,mR0,Ar⟩;refine QJ (a:=_) [13,10,9] Ar ?_;intro f fr hf hm hn13;have h1:f 1=.int .i64 (ti:Nat):=by rw[hf,h10]<;>rfl
  have h3:f 3=.ptr 0 3 0:=by rw[hf,h30]<;>rfl
  have h6:f 6=.ptr 0 6 0:=by rw[hf,h60]<;>rfl
  have h7:f 7=.ptr 0 7 0:=by rw[hf,h70]<;>rfl
  have h30':f 30=.list (T.map V.sav):=by rw[hf,h300]<;>rfl
  have h31:f 31=.int .i64 (T.length:Nat):=by rw[hf,h310]<;>rfl
  have h32:f 32=.int .i64 (i:Nat):=by rw[hf,h320]<;>rfl
  have m3:fr 3=.cells [.list (P.progs.map Qh),.list (P.enums.map Qq)]:=by rw[hm 3 (by decide),m30]<;>rfl
  have m6:fr 6=.cells [.int .i64 0,.int .u64 0,.str [],.nils,.nils,.nils,.nils]:=by rw[hm 6 (by decide),m60]<;>rfl
  have m7:fr 7=.cells [.int .i64 10,.int .u64 0,.str [],.nils,.nils,.vec 0 1100 gs 0 (K i).length false,.vec 0 1000 hs 0 v.raws.length false]:=by rw[hm 7 (by decide),m70]<;>rfl
  have mS:fr 1100=.vec gs 8 ((K i).map V.sav):=by rw[hm 1100 (by decide),mS0]<;>rfl
  have mR:fr 1000=.vec hs 4 (v.raws.map R.av):=by rw[hm 1000 (by decide),mR0]<;>rfl
  have n13:=hn13 13 (by decide);have n10:=hn13 10 (by decide);have n9:=hn13 9 (by decide);clear hf hm hn13 h10 h30 h60 h70 h300 h310 h320 m30 m60 m70 mS0 mR0 Ar;simp only[h31,h32,Qa,seval];by_cases hlt:i<T.length
  ·obtain⟨x,hi⟩:∃x,T[i]? = some x:=⟨T[i],QXt hlt⟩;have hx:=hTm x (QXF hi);have hgs:=Jv hi;have e1:=Ql i _ hlt (by simp only[maxLen];omega);obtain⟨o,ho,hfo⟩:=s1 x hx;obtain⟨hom,hon⟩:=Zu ho;have hcard:=hcd g hgm o hom;have c1:=co x.1;rw[ho]at c1;have hxc:=QXr (YT hx) hc;have c2:=hnfl o hom x.2 (hv.slots x hx) hxc hfo;have c3:=QI9 (ZT (Xi P n) P o x.2) (QXr (hcn o x.2) hxc);have hKs:K (i+1)=K i++ZJ (Xi P n) P o x:=by
    rw[←hK];show(T.take (i+1)).flatMap _=(T.take i).flatMap _++_;rw[QZa,hi,QZA];have:Jh (Xi P n) P g x=ZJ (Xi P n) P o x:=by unfold Jh;rw[ho]
    simp[this]
   have hkO:ZJ (Xi P n) P o x=if (decide (o.card<3) || !(ZT (Xi P n) P o x.2).emp)=true then [(x.1,ZT (Xi P n) P o x.2)]else []:=by
    unfold ZJ;rw[hon]
   have hKi:=hKl i (by omega);rw[hkO]at hKs;clear hkO;generalize ZT (Xi P n) P o x.2=z at c2 c3 hKs;rw[e0,Qs x.2,Qs z]at c2;rw[Qs z]at c3;simp only[Qr,PO.cells]at c2;have fin:∀(f':Fr) (fr':Nat→Ob) (gs':Nat),f' 1=.int .i64 (ti:Nat)→f' 3=.ptr 0 3 0→f' 6=.ptr 0 6 0→f' 7=.ptr 0 7 0→f' 30=.list (T.map V.sav)→f' 31=.int .i64 (T.length:Nat)→f' 32=.int .i64 ((i+1:Nat):Int)→fr' 3=.cells [.list (P.progs.map Qh),.list (P.enums.map Qq)]→fr' 6=.cells [.int .i64 0,.int .u64 0,.str [],.nils,.nils,.nils,.nils]→fr' 7=.cells [.int .i64 10,.int .u64 0,.str [],.nils,.nils,.vec 0 1100 gs' 0 (K (i+1)).length false,.vec 0 1000 hs 0 v.raws.length false]→fr' 1100=.vec gs' 8 ((K (i+1)).map V.sav)→fr' 1000=.vec hs 4 (v.raws.map R.av)→(∀s∈[13,10,9],(fr' s).isRow=false)→∃k,k<T.length-i∧NgI P K T ti v.raws k ⟨f',[fr'],[]⟩:=by
    intro f' fr' gs' a1 a3 a6 a7 a30 a31 a32 b3 b6 b7 bS bR br;exact⟨T.length-(i+1),by omega,f',fr',i+1,gs',hs,rfl,rfl,by omega,a1,a3,a6,a7,a30,a31,a32,b3,b6,b7,bS,bR,br⟩
   simp only[Qm hlt,Qi,QYT,Qb,hgs,hga,n9,h1,h3,h30',h32,m3,eE,seval];refine aC c1 ?_;simp only[QYC,QZe,Qr,PO.cells,n10,eE,seval];rcases(by omega:o.card=1∨o.card=2∨o.card=3∨o.card=4∨o.card=5)with cc|cc|cc|cc|cc
   ·have b3:(o.card==3)=false:=by simp[cc]
    have b4:(o.card==4)=false:=by simp[cc]
    have b5:(o.card==5)=false:=by simp[cc]
    rw[QXV (by simp[cc])]at hKs;simp only[b3,b4,b5,QXZ,QX2,QX9,h3,m3,eE,seval];refine aC c2 ?_;simp only[n13,h7,m7,eE,seval];refine QP (l:=[V.sav (x.1,z)]) rfl rfl rfl (by rw[Zs];rfl) ?_;refine QG (site:=1100) (g:=gs) (n:=(K i).length) (xs:=(K i).map V.sav) (ys:=[V.sav (x.1,z)]) (by rfl) (by exact mS) rfl (by rw[QYn]) rfl (Yf [(x.1,z)]) (by simp only[QXH,QYo,maxLen];omega) (by simp only[QXH,QYo];omega) ?_;simp only[h7,h32,m7,e1,eE,seval];exact fin _ _ (gs+1) (by exact h1) (by exact h3) (by exact h6) (by exact h7) (by exact h30') (by exact h31) (by rfl) (by exact m3) (by exact m6) (by rw[hKs,QX4];exact(by rfl)) (by rw[hKs,QY9];exact(by rfl)) (by exact mR) (YV rfl rfl rfl)

   ·have b3:(o.card==3)=false:=by simp[cc]
    have b4:(o.card==4)=false:=by simp[cc]
    have b5:(o.card==5)=false:=by simp[cc]
    rw[QXV (by simp[cc])]at hKs;simp only[b3,b4,b5,QXZ,QX2,QX9,h3,m3,eE,seval];refine aC c2 ?_;simp only[n13,h7,m7,eE,seval];refine QP (l:=[V.sav (x.1,z)]) rfl rfl rfl (by rw[Zs];rfl) ?_;refine QG (site:=1100) (g:=gs) (n:=(K i).length) (xs:=(K i).map V.sav) (ys:=[V.sav (x.1,z)]) (by rfl) (by exact mS) rfl (by rw[QYn]) rfl (Yf [(x.1,z)]) (by simp only[QXH,QYo,maxLen];omega) (by simp only[QXH,QYo];omega) ?_;simp only[h7,h32,m7,e1,eE,seval];exact fin _ _ (gs+1) (by exact h1) (by exact h3) (by exact h6) (by exact h7) (by exact h30') (by exact h31) (by rfl) (by exact m3) (by exact m6) (by rw[hKs,QX4];exact(by rfl)) (by rw[hKs,QY9];exact(by rfl)) (by exact mR) (YV rfl rfl rfl)
   ·have b3:(o.card==3)=true:=by simp[cc]
    have b4:(o.card==4)=false:=by simp[cc]
    have b5:(o.card==5)=false:=by simp[cc]
    have l3:decide (o.card<3)=false:=by simp[cc]
    rw[l3,QY7]at hKs;simp only[b3,QXZ,QX2,QX9,h3,m3,eE,seval];refine aC c2 ?_;simp only[n13,eE,seval];refine aC c3 ?_;cases hz:z.emp
    ·rw[hz,QXV (show(!false)=true from rfl)]at hKs;simp only[h7,m7,eE,seval];refine QP (l:=[V.sav (x.1,z)]) rfl rfl rfl (by rw[Zs];rfl) ?_;refine QG (site:=1100) (g:=gs) (n:=(K i).length) (xs:=(K i).map V.sav) (ys:=[V.sav (x.1,z)]) (by rfl) (by exact mS) rfl (by rw[QYn]) rfl (Yf [(x.1,z)]) (by simp only[QXH,QYo,maxLen];omega) (by simp only[QXH,QYo];omega) ?_;simp only[h7,h32,m7,e1,eE,seval];exact fin _ _ (gs+1) (by exact h1) (by exact h3) (by exact h6) (by exact h7) (by exact h30') (by exact h31) (by rfl) (by exact m3) (by exact m6) (by rw[hKs,QX4];exact(by rfl)) (by rw[hKs,QY9];exact(by rfl)) (by exact mR) (YV rfl rfl rfl)
    ·rw[hz,QXG (by simp),QYv]at hKs;simp only[h32,e1,Qa,seval];exact fin _ _ gs (by exact h1) (by exact h3) (by exact h6) (by exact h7) (by exact h30') (by exact h31) (by rfl) (by exact m3) (by exact m6) (by rw[hKs];exact(by exact m7)) (by rw[hKs];exact(by exact mS)) (by exact mR) (YV rfl rfl rfl)

   ·have b3:(o.card==3)=false:=by simp[cc]
    have b4:(o.card==4)=true:=by simp[cc]
    have b5:(o.card==5)=false:=by simp[cc]
    have l3:decide (o.card<3)=false:=by simp[cc]
    rw[l3,QY7]at hKs;simp only[b3,b4,QXZ,QX2,QX9,h3,m3,eE,seval];refine aC c2 ?_;simp only[n13,eE,seval];refine aC c3 ?_;cases hz:z.emp
    ·rw[hz,QXV (show(!false)=true from rfl)]at hKs;simp only[h7,m7,eE,seval];refine QP (l:=[V.sav (x.1,z)]) rfl rfl rfl (by rw[Zs];rfl) ?_;refine QG (site:=1100) (g:=gs) (n:=(K i).length) (xs:=(K i).map V.sav) (ys:=[V.sav (x.1,z)]) (by rfl) (by exact mS) rfl (by rw[QYn]) rfl (Yf [(x.1,z)]) (by simp only[QXH,QYo,maxLen];omega) (by simp only[QXH,QYo];omega) ?_;simp only[h7,h32,m7,e1,eE,seval];exact fin _ _ (gs+1) (by exact h1) (by exact h3) (by exact h6) (by exact h7) (by exact h30') (by exact h31) (by rfl) (by exact m3) (by exact m6) (by rw[hKs,QX4];exact(by rfl)) (by rw[hKs,QY9];exact(by rfl)) (by exact mR) (YV rfl rfl rfl)
    ·rw[hz,QXG (by simp),QYv]at hKs;simp only[h32,e1,Qa,seval];exact fin _ _ gs (by exact h1) (by exact h3) (by exact h6) (by exact h7) (by exact h30') (by exact h31) (by rfl) (by exact m3) (by exact m6) (by rw[hKs];exact(by exact m7)) (by rw[hKs];exact(by exact mS)) (by exact mR) (YV rfl rfl rfl)

   ·have b3:(o.card==3)=false:=by simp[cc]
    have b4:(o.card==4)=false:=by simp[cc]
    have b5:(o.card==5)=true:=by simp[cc]
    have l3:decide (o.card<3)=false:=by simp[cc]
    rw[l3,QY7]at hKs;simp only[b3,b4,b5,QXZ,QX2,QX9,h3,m3,eE,seval];refine aC c2 ?_;simp only[n13,eE,seval];refine aC c3 ?_;cases hz:z.emp
    ·rw[hz,QXV (show(!false)=true from rfl)]at hKs;simp only[h7,m7,eE,seval];refine QP (l:=[V.sav (x.1,z)]) rfl rfl rfl (by rw[Zs];rfl) ?_;refine QG (site:=1100) (g:=gs) (n:=(K i).length) (xs:=(K i).map V.sav) (ys:=[V.sav (x.1,z)]) (by rfl) (by exact mS) rfl (by rw[QYn]) rfl (Yf [(x.1,z)]) (by simp only[QXH,QYo,maxLen];omega) (by simp only[QXH,QYo];omega) ?_;simp only[h7,h32,m7,e1,eE,seval];exact fin _ _ (gs+1) (by exact h1) (by exact h3) (by exact h6) (by exact h7) (by exact h30') (by exact h31) (by rfl) (by exact m3) (by exact m6) (by rw[hKs,QX4];exact(by rfl)) (by rw[hKs,QY9];exact(by rfl)) (by exact mR) (YV rfl rfl rfl)
    ·rw[hz,QXG (by simp),QYv]at hKs;simp only[h32,e1,Qa,seval];exact fin _ _ gs (by exact h1) (by exact h3) (by exact h6) (by exact h7) (by exact h30') (by exact h31) (by rfl) (by exact m3) (by exact m6) (by rw[hKs];exact(by exact m7)) (by rw[hKs];exact(by exact mS)) (by exact mR) (YV rfl rfl rfl)
  ·have e:i=T.length:=by omega
   subst e;simp only[Qw hlt,h7,m7,eE,seval];refine Qj (csR _ _ (by simp only[mR,eEX,seval]<;>rfl)) (by simp only[QXY,QYt,Qa,seval]) ?_;simp only[h6,h7,m6,m7,eE,seval];simp[AV.un,AV.unL,XZ,Xm,mS,QX0,hrl]

end
end Go.Proofs.YtipjfckmopekaaaGreatDoor.Va

namespace Go.Proofs.YtipjfckmopekaaaGreatDoor.Va
open Go Am Rc Bt

def KT (u:Int):Int:=if 0≤u then 2*u else -2*u-1
theorem c50 (u:Int)(h0 : -9223372036854775808≤u)(h1:u<9223372036854775808):Qk Tryz.prog 50 [.int .i64 u] (.int .u64 (KT u)):=by
 refine k50.fn (by simp) ?_;simp only[Kd,seval];congr 1
 simp only[show min 63 64=63 from rfl,show min 1 64=1 from rfl,seval,Jm,KT,QZy _ (show(0:Int)≤9223372036854775808 by decide)];by_cases h:0≤u
 ·rw[show u / 9223372036854775808=0 by omega,QXV h,show(0:Int) % 18446744073709551616=0 from rfl,Bo _ (by omega) (by omega)];omega
 ·rw[show u / 9223372036854775808 = -1 by omega,QXG h,show(-1:Int) % 18446744073709551616=18446744073709551615 from rfl,Bp _ (by omega) (by omega)];omega

theorem c74 (u:Int)(h0 : -9223372036854775808≤u)(h1:u<9223372036854775808):Qk Tryz.prog 74 [.int .i64 u] (.int .u64 (KT u)):=by
 refine k74.fn (by simp) ?_;simp only[Kd,seval];refine Q2 (fun h=>?_) (fun h=>?_)<;>simp only[Kd,seval]
 ·have h:0≤u:=by simpa using h
  congr 1
  simp only[Jm,KT,QXV h];omega
 ·have h:¬0≤u:=by simpa using h
  congr 1
  simp only[Jm,QE,KT,QXG h];omega

theorem YW (u:Int):0≤KT u:=by unfold KT;split<;>omega
theorem Qyh (u:Int)(h0 : -9223372036854775808≤u)(h1:u<9223372036854775808):KT u<18446744073709551616:=by unfold KT;split<;>omega
open Br Up

def vv (k:Int)(b:Nat)(t:List UInt8)(l p s r:List AV):AV:=.agg [.int .i64 k,.int .u64 (b:Nat),.str t,.list l,.list p,.list s,.list r]

section
variable (k:Int)(b:Nat)(hb:b<18446744073709551616)(t:List UInt8)(l p s r:List AV)
include hb

theorem y51:Qk Tryz.prog 51 [vv k b t l p s r] (vv k (XK k b) t l p s r):=by
 refine k51.fn (by simp) ?_;simp only[vv,eE,seval];by_cases hk:k=6
 ·have b0:(k==6)=true:=by simp[hk]
  simp only[b0,eE,seval];refine aC (x82 b hb) ?_;simp only[Cv,Qa,seval];by_cases hc:WE b=0
  ·simp only[hc,XK,hk,decide_true,and_self,splice,QXZ,QYA,QX2,QX9,QXO,QXP,QXH,QYo,eE,seval]
   try rfl
  ·simp only[hc,XK,decide_false,and_false,eE,seval]
 ·have b0:(k==6)=false:=by simp[hk]
  simp only[b0,XK,hk,false_and,eE,seval]

omit hb in
theorem y75:Qk Tryz.prog 75 [vv k b t l p s r] (vv k (XK k b) t l p s r):=by
 refine k75.fn (by simp) ?_;simp only[vv,eE,seval];by_cases hk:k=6
 ·have b0:(k==6)=true:=by simp[hk]
  simp only[b0,eE,seval];refine aC (QRr b) ?_;simp only[Cv,Qa,seval];by_cases hc:WE b=0
  ·simp only[hc,XK,hk,decide_true,and_self,splice,QXZ,QYA,QX2,QX9,QXO,QXP,QXH,QYo,eE,seval]
   try rfl
  ·simp only[hc,XK,decide_false,and_false,eE,seval]
 ·have b0:(k==6)=false:=by simp[hk]
  simp only[b0,XK,hk,false_and,eE,seval]

def Xa:R :=
 if k=1∨k=4∨k=5∨k=9 then⟨0,0,b,[]⟩else if k=2∨k=3 then⟨0,1,(KT (IntKind.i64.wrap (b:Int))).toNat,[]⟩
 else if k=6 then⟨0,2,XK k b,[]⟩else if k=7∨k=8 then⟨0,3,0,t⟩else zr

theorem y25:Qk Tryz.prog 25 [vv k b t l p s r] (Xa k b t).av:=by
  have hn:=y51 k b hb t l p s r;simp only[vv]at hn;have hw0 : -9223372036854775808≤IntKind.i64.wrap (b:Int):=by rw[QE];omega
  have hw1:IntKind.i64.wrap (b:Int)<9223372036854775808:=by rw[QE];omega
  have hz:=c50 (IntKind.i64.wrap (b:Int)) hw0 hw1;have hzn:(((KT (IntKind.i64.wrap (b:Int))).toNat:Nat):Int)=KT (IntKind.i64.wrap (b:Int)):=Int.toNat_of_nonneg (YW _);refine k25.fn (by simp) ?_;simp only[vv,eE,seval];by_cases h1:k=1∨k=4∨k=5∨k=9
  · have hs:Xa k b t=⟨0,0,b,[]⟩:=by unfold Xa;rw[QXV h1]
    rcases h1 with rfl|rfl|rfl|rfl<;>simp only[hs,R.av,seval,splice,QXZ,QYA,QX2,QX9,QXO,QXP,QXH,QYo,eE]<;>rfl
  have hk1:(k==1)=false:=by simp;omega
  have hk4:(k==4)=false:=by simp;omega
  have hk5:(k==5)=false:=by simp;omega
  have hk9:(k==9)=false:=by simp;omega
  by_cases h2:k=2∨k=3
  · have hs:Xa k b t=⟨0,1,(KT (IntKind.i64.wrap (b:Int))).toNat,[]⟩:=by unfold Xa;rw[QXG h1,QXV h2]
    rcases h2 with rfl|rfl <;>
      (simp only[seval,eE]
       refine aC hz ?_;simp only[hs,R.av,hzn,splice,QXZ,QYA,QX2,QX9,QXO,QXP,QXH,QYo,eE,seval])
  have hk2:(k==2)=false:=by simp;omega
  have hk3:(k==3)=false:=by simp;omega
  by_cases h6:k=6
  · have hs:Xa k b t=⟨0,2,XK k b,[]⟩:=by unfold Xa;rw[QXG h1,QXG h2,QXV h6]
    have b6:(k==6)=true:=by simp[h6]
    simp only[hk1,hk4,hk5,hk9,hk2,hk3,b6,QXZ,QX9,QXH,QYo,eE,seval];refine aC hn ?_;simp only[hs,R.av,splice,QXZ,QYA,QX2,QX9,QXO,QXP,QXH,QYo,eE,seval]
  have hk6:(k==6)=false:=by simp;omega
  by_cases h7:k=7∨k=8
  · have hs:Xa k b t=⟨0,3,0,t⟩:=by unfold Xa;rw[QXG h1,QXG h2,QXG h6,QXV h7]
    rcases h7 with rfl|rfl<;>simp only[hs,R.av,seval,splice,QXZ,QYA,QX2,QX9,QXO,QXP,QXH,QYo,eE]<;>rfl
  have hk7:(k==7)=false:=by simp;omega
  have hk8:(k==8)=false:=by simp;omega
  have hs:Xa k b t=zr:=by unfold Xa;rw[QXG h1,QXG h2,QXG h6,QXG h7]
  simp only[hk1,hk4,hk5,hk9,hk2,hk3,hk6,hk7,hk8,hs,zr,R.av,splice,QXZ,QYA,QX2,QX9,QXP,QXH,QYo,eE,seval]
  try rfl

omit hb in
theorem y39:Qk Tryz.prog 39 [vv k b t l p s r] (Xa k b t).av:=by
  have hn:=y75 k b t l p s r;simp only[vv]at hn;have hw0 : -9223372036854775808≤IntKind.i64.wrap (b:Int):=by rw[QE];omega
  have hw1:IntKind.i64.wrap (b:Int)<9223372036854775808:=by rw[QE];omega
  have hz:=c74 (IntKind.i64.wrap (b:Int)) hw0 hw1;have hzn:(((KT (IntKind.i64.wrap (b:Int))).toNat:Nat):Int)=KT (IntKind.i64.wrap (b:Int)):=Int.toNat_of_nonneg (YW _);refine k39.fn (by simp) ?_;simp only[vv,eE,seval];by_cases h1:k=1∨k=4∨k=5∨k=9
  · have hs:Xa k b t=⟨0,0,b,[]⟩:=by unfold Xa;rw[QXV h1]
    rcases h1 with rfl|rfl|rfl|rfl<;>simp only[hs,R.av,seval,splice,QXZ,QYA,QX2,QX9,QXO,QXP,QXH,QYo,eE]<;>rfl
  have hk1:(k==1)=false:=by simp;omega
  have hk4:(k==4)=false:=by simp;omega
  have hk5:(k==5)=false:=by simp;omega
  have hk9:(k==9)=false:=by simp;omega
  by_cases h2:k=2∨k=3
  · have hs:Xa k b t=⟨0,1,(KT (IntKind.i64.wrap (b:Int))).toNat,[]⟩:=by unfold Xa;rw[QXG h1,QXV h2]
    rcases h2 with rfl|rfl <;>
      (simp only[seval,eE]
       refine aC hz ?_;simp only[hs,R.av,hzn,splice,QXZ,QYA,QX2,QX9,QXO,QXP,QXH,QYo,eE,seval])
  have hk2:(k==2)=false:=by simp;omega
  have hk3:(k==3)=false:=by simp;omega
  by_cases h6:k=6
  · have hs:Xa k b t=⟨0,2,XK k b,[]⟩:=by unfold Xa;rw[QXG h1,QXG h2,QXV h6]
    have b6:(k==6)=true:=by simp[h6]
    simp only[hk1,hk4,hk5,hk9,hk2,hk3,b6,QXZ,QX9,QXH,QYo,eE,seval];refine aC hn ?_;simp only[hs,R.av,splice,QXZ,QYA,QX2,QX9,QXO,QXP,QXH,QYo,eE,seval]
  have hk6:(k==6)=false:=by simp;omega
  by_cases h7:k=7∨k=8
  · have hs:Xa k b t=⟨0,3,0,t⟩:=by unfold Xa;rw[QXG h1,QXG h2,QXG h6,QXV h7]
    rcases h7 with rfl|rfl<;>simp only[hs,R.av,seval,splice,QXZ,QYA,QX2,QX9,QXO,QXP,QXH,QYo,eE]<;>rfl
  have hk7:(k==7)=false:=by simp;omega
  have hk8:(k==8)=false:=by simp;omega
  have hs:Xa k b t=zr:=by unfold Xa;rw[QXG h1,QXG h2,QXG h6,QXG h7]
  simp only[hk1,hk4,hk5,hk9,hk2,hk3,hk6,hk7,hk8,hs,zr,R.av,splice,QXZ,QYA,QX2,QX9,QXP,QXH,QYo,eE,seval]
  try rfl

end

end Go.Proofs.YtipjfckmopekaaaGreatDoor.Va

namespace Go.Proofs.YtipjfckmopekaaaGreatDoor.Va
open Go Am Rc Bt Vp

def bl (l:List UInt8):List AV:=l.map fun b=>.int .u8 (b.toNat:Int)
theorem KU (a b:List UInt8):bl (a++b)=bl a++bl b:=by simp[bl]
theorem KV (a:List UInt8):(bl a).length=a.length:=by simp[bl]
theorem JA (l:List UInt8):bytesOf (bl l)=some l:=by
 induction l with
 |nil=>rfl
 |cons b l ih=>
  show(bytesOf (bl l)).map _=_;rw[ih];simp

theorem QJb (u:Nat):(u:Int).fdiv (2 ^ min 7 64)=((u / 128:Nat):Int):=by
 rw[show min 7 64=7 from rfl,QZy _ (show(0:Int)≤2 ^ 7 by decide)];omega

theorem QJc (u:Nat):bits .or .u8 (IntKind.u8.wrap (u:Int)) 128=((UInt8.ofNat (u % 128+128)).toNat:Int):=by
 rw[Pd];have h:∀n:Fin 256,bits .or .u8 ((n.val:Nat):Int) 128=((n.val % 128+128:Nat):Int):=by decide +kernel
 have:=h ⟨u % 256,by omega⟩;simp only at this;rw[show((u:Int) % 256)=((u % 256:Nat):Int)by omega,this,toNat_ofNat _ (by omega)];omega

theorem Qyi (u:Nat)(h:u<128):IntKind.u8.wrap (u:Int)=((UInt8.ofNat u).toNat:Int):=by
 rw[Pd,toNat_ofNat _ (by omega)];omega

def Qyj (u0:Nat)(k:Nat)(st:St):Prop :=
 ∃f fr u g j l,st=⟨f,[fr],[]⟩∧k=u∧f 0=.int .u64 (u:Nat)∧f 3=.vec 0 3 g 0 l.length false∧fr 3=.vec g 1 (bl l)∧u<Uv (9-j)∧l.length+j=9∧l++K0 j u=Vp.put u0

theorem CM (u:Nat)(hu:u<18446744073709551616):Qk Tryz.prog 108 [.int .u64 u] (.str (Vp.put u)):=by
 refine Qdd.fn (by simp) ?_;simp only[Kd,seval];refine XF rfl rfl ?_;simp only[Kd,seval];refine Qd (Qyj u) u ⟨_,_,u,1,9,[],rfl,rfl,rfl,rfl,rfl,hu,rfl,rfl⟩ ?_;rintro n st ⟨f,fr,v,g,j,l,rfl,rfl,h0,h3,hv,hlt,hj,hl⟩;simp only[h0,Kd,seval];refine Q2 (fun h=>?_) (fun h=>?_)
 ·have h:128≤n:=by(have h:(128:Int)≤n:=(by simpa using h));omega
  obtain⟨j,rfl⟩:∃i,j=i+1:=⟨j-1,by
   rcases QYg j with rfl|hp
   ·simp[Uv]at hlt;omega
   ·omega⟩
  simp only[h0,h3,Kd,seval];refine JV rfl ?_;refine QG rfl hv rfl (KV l).symm rfl rfl (by simp[maxLen];omega) (by simp;omega) ?_;simp only[h0,QJb,QJc,Kd,seval];refine⟨n / 128,by omega,_,_,n / 128,g+1,j,l++[UInt8.ofNat (n % 128+128)],rfl,rfl,rfl,?_,?_,?_,?_,?_⟩
  ·simp only[QX4,QXH,QYo,Kd,seval]
  ·simp only[QR,KU]<;>rfl
  ·have:=D8 (9-(j+1)) n (by omega) hlt
   rwa [show 9-(j+1)+1=9-j by omega]at this
  ·simp;omega
  ·rw[←hl,BG j n (by omega)];simp
 ·have h:n<128:=by(have h:(n:Int)<128:=(by simpa using h));omega
  simp only[h0,h3,Kd,seval];refine JV rfl ?_;refine QG rfl hv rfl (KV l).symm rfl rfl (by simp[maxLen];omega) (by simp;omega) ?_;have he:=JW (m:=[]) (fr:=QK fr 3 (.vec (g+1) 1 (bl l++[.int .u8 ((UInt8.ofNat n).toNat:Int)]))) (site:=3) (g:=g+1) (sz:=1) (n:=l.length+(0+1)) (q:=false) rfl (by simp[bl]);have hb:bytesOf (bl l++[.int .u8 ((UInt8.ofNat n).toNat:Int)])=some (l++[UInt8.ofNat n]):=by
   have:=JA (l++[UInt8.ofNat n])
   rwa [KU]at this
  simp only[Qyi n h,he,hb,Kd,seval];rw[←hl,GE j n h]

theorem QaK (n:Nat):(n:Int).tmod 128=((n % 128:Nat):Int):=by
 rw[QZu (by omega)];omega
theorem QaL (n:Nat)(h:n<18446744073709551616):IntKind.u64.wrap ((n:Int).tdiv 128)=((n / 128:Nat):Int):=by
 rw[Int.tdiv_eq_ediv_of_nonneg (by omega),Jm];omega
theorem Qyk (n:Nat):IntKind.u8.wrap (IntKind.u64.wrap (((n % 128:Nat):Int)+128))=((UInt8.ofNat (n % 128+128)).toNat:Int):=by
 rw[Jm,Pd,toNat_ofNat _ (by omega)];omega
theorem QaM (i n:Nat)(h:n<Uv i):n<18446744073709551616:=by
 refine Nat.lt_of_lt_of_le h ?_;unfold Uv;exact Nat.pow_le_pow_right (by omega) (by omega:64-7*i≤64)

theorem PZ (u:Nat)(hu:u<18446744073709551616):Qk Tryz.prog 68 [.int .u64 u] (.str (Vp.put u)):=by
 refine k68.fn (by simp) ?_;simp only[Kd,seval];refine XF rfl rfl ?_;simp only[Kd,seval];refine Qd (Qyj u) u ⟨_,_,u,1,9,[],rfl,rfl,rfl,rfl,rfl,hu,rfl,rfl⟩ ?_;rintro n st ⟨f,fr,v,g,j,l,rfl,rfl,h0,h3,hv,hlt,hj,hl⟩;simp only[h0,Kd,seval];refine Q2 (fun h=>?_) (fun h=>?_)
 ·have h:128≤n:=by(have h:(128:Int)≤n:=(by simpa using h));omega
  obtain⟨j,rfl⟩:∃i,j=i+1:=⟨j-1,by
   rcases QYg j with rfl|hp
   ·simp[Uv]at hlt;omega
   ·omega⟩
  simp only[h0,h3,QaK,Qyk,seval,Kd];refine JV rfl ?_;refine QG rfl hv rfl (KV l).symm rfl rfl (by simp[maxLen];omega) (by simp;omega) ?_;simp only[h0,QaL n (QaM _ _ hlt),Kd,seval];refine⟨n / 128,by omega,_,_,n / 128,g+1,j,l++[UInt8.ofNat (n % 128+128)],rfl,rfl,rfl,?_,?_,?_,?_,?_⟩
  ·simp only[QX4,QXH,QYo,Kd,seval]
  ·simp only[QR,KU]<;>rfl
  ·have:=D8 (9-(j+1)) n (by omega) hlt
   rwa [show 9-(j+1)+1=9-j by omega]at this
  ·simp;omega
  ·rw[←hl,BG j n (by omega)];simp
 ·have h:n<128:=by(have h:(n:Int)<128:=(by simpa using h));omega
  simp only[h0,h3,Kd,seval];refine JV rfl ?_;refine QG rfl hv rfl (KV l).symm rfl rfl (by simp[maxLen];omega) (by simp;omega) ?_;have he:=JW (m:=[]) (fr:=QK fr 3 (.vec (g+1) 1 (bl l++[.int .u8 ((UInt8.ofNat n).toNat:Int)]))) (site:=3) (g:=g+1) (sz:=1) (n:=l.length+(0+1)) (q:=false) rfl (by simp[bl]);have hb:bytesOf (bl l++[.int .u8 ((UInt8.ofNat n).toNat:Int)])=some (l++[UInt8.ofNat n]):=by
   have:=JA (l++[UInt8.ofNat n])
   rwa [KU]at this
  simp only[Qyi n h,he,hb,Kd,seval];rw[←hl,GE j n h]

open Cp

theorem Qyl {a:Nat}(h:¬a=0):((a:Int) != 0)=true:=by simp[h]
def fx:Nat→Nat→List UInt8
 |0,_=>[]
 |k+1,u=>UInt8.ofNat (u % 256) :: fx k (u / 256)

theorem G9 (k u:Nat):(fx k u).length=k:=by
 induction k generalizing u with
 |zero=>rfl
 |succ k ih=>simp[fx,ih]

theorem QaN (k u:Nat):fx (k+1) u=fx k u++[UInt8.ofNat (u / 256 ^ k % 256)]:=by
 induction k generalizing u with
 |zero=>simp[fx]
 |succ k ih=>
  rw[fx,ih (u / 256)];simp only[fx,QXO,Nat.div_div_eq_div_mul,Nat.pow_succ,Nat.mul_comm]

theorem Nj:∀(l:List UInt8),l.foldr (fun b v=>256*v+b.toNat) 0<256 ^ l.length
 | []=>by simp
 |b :: l=>by
  have h:=Nj l;have hb:=b.toNat_lt;rw[List.foldr_cons,QXH,Nat.pow_succ];omega

def hi8 (s:List UInt8)(i:Nat):Nat:=((s.take 8).drop i).foldr (fun b v=>256*v+b.toNat) 0

open Up

theorem Qym (w:Int):Qk Tryz.prog 107 [.int .i64 w] (.bool (ZP w)):=by
 refine Qc3.fn (by simp) ?_;simp only[Qa,seval]
 repeat' (first|(refine Q2 (fun h=>?_) (fun h=>?_)<;>simp only[h,eE,seval])|(refine XG (fun h=>?_) (fun h=>?_)<;>simp only[h,Qn,eE,seval])|(refine XH (fun h=>?_) (fun h=>?_)<;>simp only[h,Qn,Qa,seval]))
 all_goals simp_all[ZP]

theorem c67 (w:Int):Qk Tryz.prog 67 [.int .i64 w] (.bool (ZP w)):=by
 refine k67.fn (by simp) ?_;simp only[Qa,seval]
 repeat' (first|(refine Q2 (fun h=>?_) (fun h=>?_)<;>simp only[h,eE,seval])|(refine XG (fun h=>?_) (fun h=>?_)<;>simp only[h,Qn,eE,seval])|(refine XH (fun h=>?_) (fun h=>?_)<;>simp only[h,Qn,Qa,seval]))
 all_goals simp_all[ZP]

theorem Fe {n w:Int}(h:¬(n<1∨65535<n∨w<0∨6<w)):IntKind.u64.wrap (IntKind.i64.wrap (IntKind.i64.wrap (n*8)+w))=((n*8+w).toNat:Nat)∧(n*8+w).toNat<18446744073709551616:=by
 simp only[Jm,QE];omega

theorem Qyn (n w:Int):Qk Tryz.prog 104 [.int .i64 n,.int .i64 w] (Uy (X6 n w)):=by
 refine QcR.fn (by simp) ?_;simp only[Qa,seval];by_cases hb:n<1∨65535<n∨w<0∨6<w
 ·repeat' (first|(refine Q2 (fun h=>?_) (fun h=>?_)<;>simp only[h,Qa,seval])|(refine XG (fun h=>?_) (fun h=>?_)<;>simp only[h,Qn,eE,seval])|(refine XH (fun h=>?_) (fun h=>?_)<;>simp only[h,Qn,Qa,seval]))
  all_goals first
   |(rw[X6,QXV hb]<;>rfl)
   |(exfalso;simp only[QZj]at *;omega)
 ·obtain⟨e1,e2⟩:=Fe hb;have d1:decide (n<1)=false:=by simp;omega
  have d2:decide (65535<n)=false:=by simp;omega
  have d3:decide (w<0)=false:=by simp;omega
  have d4:decide (6<w)=false:=by simp;omega
  simp only[d1,d2,d3,d4,e1,Qa,seval];refine aC (CM _ e2) ?_;rw[X6,QXG hb];simp only[Uy,Qa,seval]
  try rfl

theorem c65 (n w:Int):Qk Tryz.prog 65 [.int .i64 n,.int .i64 w] (Uy (X6 n w)):=by
 refine k65.fn (by simp) ?_;simp only[Qa,seval];by_cases hb:n<1∨65535<n∨w<0∨6<w
 ·repeat' (first|(refine Q2 (fun h=>?_) (fun h=>?_)<;>simp only[h,Qa,seval])|(refine XG (fun h=>?_) (fun h=>?_)<;>simp only[h,Qn,eE,seval])|(refine XH (fun h=>?_) (fun h=>?_)<;>simp only[h,Qn,Qa,seval]))
  all_goals first
   |(rw[X6,QXV hb]<;>rfl)
   |(exfalso;simp only[QZj]at *;omega)
 ·obtain⟨e1,e2⟩:=Fe hb;have d1:decide (n<1)=false:=by simp;omega
  have d2:decide (65535<n)=false:=by simp;omega
  have d3:decide (w<0)=false:=by simp;omega
  have d4:decide (6<w)=false:=by simp;omega
  simp only[d1,d2,d3,d4,e1,Qa,seval];refine aC (PZ _ e2) ?_;rw[X6,QXG hb];simp only[Uy,Qa,seval]
  try rfl

theorem YX (d:C):0≤d.left∧d.left≤(d.d.length:Int):=by
 have hr:=d.rest_len;have hs:=C.sound_iff d;split at hr
 ·rename_i h;have:=hs.1 h;omega
 ·omega

def sg:Nat→C→List R×Nat
 |0,_=>([],0)
 |k+1,c=>
  if 0<c.left then
   let r:=Yl c
   if r.2.2=0 then
    let t:=sg k r.2.1
    if t.2=0 then(r.1 :: t.1,0)else([],t.2)
   else([],r.2.2)
  else([],0)

def Qyo (s:List UInt8)(l:L):List R×Nat :=
 let o:=opn s l
 if o.2=0 then sg s.length o.1 else([],o.2)

def K7 (l:List R):List AV:=l.map R.av
theorem Vu (a:List R):(K7 a).length=a.length:=by simp[K7]

theorem CN {c:C}(hl:c.d.length≤9223372036854775807)(h:c.fixed.2.2=0):c.sound=true∧8≤c.left∧c.fixed.2.1={ c with a:=c.a+8 }∧c.fixed.1<2 ^ 64:=by
 unfold C.fixed at h ⊢;split at h
 ·cases h
 ·rename_i hr;have hne:c.rest≠[]:=by intro e;rw[e]at hr;simp at hr
  have hs:=BK hne;have hs':=(C.sound_iff c).1 hs;have hle:=c.rest_len;rw[QXV hs]at hle;have h8:8≤c.left:=by unfold C.left;omega
  have hw:IntKind.i64.wrap (c.a+8)=c.a+8:=by rw[QE];omega
  refine⟨hs,h8,?_,?_⟩
  ·rw[QXG hr];simp only[C.ahead,hw]
  ·rw[QXG hr];have h1:=Nj (c.rest.take 8);rw[QYp,QYH (by omega)]at h1;have:(256:Nat) ^ 8=2 ^ 64:=by decide
   show R0 c.rest<2 ^ 64;unfold R0;omega

structure Step (c d:C):Prop where
 n:∃k:Nat,d={ c with a:=c.a+k,nd:=d.nd }∧0<k∧(k:Int)≤c.left
 sound:c.sound=true

theorem Step.left {c d:C}(h:Step c d):d.sound=true∧d.left<c.left∧0≤d.left∧d.d=c.d∧d.left=c.left-(d.a-c.a):=by
 obtain⟨⟨k,h1,h2,h3⟩,h4⟩:=h;have hs:=(C.sound_iff c).1 h4;have hc:=c.rest_len;rw[QXV h4]at hc;have e1:d.a=c.a+k:=by rw[h1]
 have e2:d.e=c.e:=by rw[h1]
 have e3:d.d=c.d:=by rw[h1]
 have hd:d.sound=true:=by
  rw[C.sound_iff,e1,e2,e3];omega
 have hdl:=d.rest_len;rw[QXV hd]at hdl;exact⟨hd,by omega,by omega,e3,by omega⟩

theorem Nk {c:C}(hl:c.d.length≤9223372036854770000)(h:(Yl c).2.2=0):Step c (Yl c).2.1:=by
 unfold Yl at h ⊢;simp only at h ⊢;split at h
 ·rename_i ht;split at h
  ·rename_i hs;split at h
   ·rename_i hk;rw[QXV ht,QXV hs,QXV hk]
    -- the X6
    unfold Vd at ht hs hk ⊢;simp only at ht hs hk ⊢;split at ht
    ·rename_i hv;rw[QXV hv]at hs hk ⊢;split at ht
     ·cases ht
     ·rename_i h7;rw[QXG h7]at hs hk ⊢;split at ht
      ·cases ht
      ·rename_i h8;rw[QXG h8]at hs hk ⊢;simp only at hs hk ⊢;obtain⟨n,g1,g2,g3,g4,g5,g6,g7⟩:=Yc (c:=c) (by omega) hv;rw[g4]at hs hk ⊢;have hsc:=(C.sound_iff c).1 g5;have hcl:=c.rest_len;rw[QXV g5]at hcl
       -- the value Fv
       unfold C.spend at hs hk ⊢;split at hs
       ·cases hs
       ·rename_i s1;rw[QXG s1]at hk ⊢;split at hs
        ·cases hs
        ·rename_i s2;rw[QXG s2]at hk ⊢;simp only at hk ⊢;generalize hd:({ d:=c.d,a:=c.a+n,e:=c.e,dp:=c.dp,nd:=IntKind.i64.wrap (c.nd-1),tx:=c.tx }:C)=d at hk ⊢;have q1:d.d=c.d:=by rw[←hd]
         have q2:d.a=c.a+n:=by rw[←hd]
         have q3:d.e=c.e:=by rw[←hd]
         have q4:d.dp=c.dp:=by rw[←hd]
         have q5:d.tx=c.tx:=by rw[←hd]
         have hdl:d.left≤c.left-n:=by
          have:=d.rest_len;split at this
          ·omega
          ·omega
         have mk:∀(d':C) (j:Nat),d'={ d with a:=d.a+j }→(j:Int)≤d.left→Step c d':=by
          intro d' j e hj;refine⟨⟨n+j,?_,by omega,by omega⟩,g5⟩;rw[e];obtain⟨_,_,_,_,_,_⟩:=d;simp only at q1 q2 q3 q4 q5;subst q1 q2 q3 q4 q5;simp only[C.mk.injEq,QYj,and_true];omega
         -- the contents
         unfold QwR at hk ⊢;split at hk
         ·rename_i w2;rw[QXV w2];obtain⟨f1,f2,f3,f4⟩:=CN (c:=d) (by rw[q1];omega) hk;exact mk _ 8 f3 f2
         ·rename_i w2;rw[QXG w2];split at hk
          ·rename_i w1;rw[QXV w1];obtain⟨j,f1,f2,f3,f4,f5,f6,f7⟩:=Yc (c:=d) (by rw[q1];omega) hk;exact mk _ j f4 f3
          ·rename_i w1;rw[QXG w1];simp only at hk ⊢;unfold BJ at hk ⊢;simp only at hk ⊢;split at hk
           ·rename_i hv2;rw[QXV hv2];by_cases hu:d.varint.2.1.left<(d.varint.1:Int)
            ·rw[QXV hu]at hk;cases hk
            ·rw[QXG hu]at hk ⊢;by_cases hm:(if ((c.varint.1 % 8:Nat):Int)=3 then d.tx else 65536)<(d.varint.1:Int)
             ·rw[QXV hm]at hk;cases hk
             ·rw[QXG hm];obtain⟨j,f1,f2,f3,f4,f5,f6,f7⟩:=Yc (c:=d) (by rw[q1];omega) hv2;have hs2:=(C.sound_iff d).1 f5;have hl2:=d.rest_len;rw[QXV f5]at hl2;have hl3:=d.varint.2.1.rest_len;rw[QXV f6,f4]at hl3;rw[f4]at hu;simp only at hl3;have hdl':(d.d.length:Int)=c.d.length:=by rw[q1]
              have hw:IntKind.i64.wrap (d.a+(j:Int)+(d.varint.1:Int))=d.a+j+d.varint.1:=by
               rw[QE];omega
              refine mk _ (j+d.varint.1) ?_ (by omega);rw[f4];simp only[C.ahead,hw,C.mk.injEq,QYj,and_true];omega
           ·rename_i hv2;exact absurd hk hv2
    ·rename_i hv;exact absurd ht hv
   ·rename_i hk;exact absurd h hk
  ·rename_i hs;exact absurd h hs
 ·rename_i ht;exact absurd h ht

structure ScanS (s:List UInt8)(l:L)(c:C)(acc:List R):Prop where
 len:c.d.length=s.length
 all:Qyo s l=(if (sg c.left.toNat c).2=0 then(acc++(sg c.left.toNat c).1,0)else([],(sg c.left.toNat c).2))
 acc:(acc.length:Int)+c.left≤s.length

theorem DD:∀(k:Nat) (c:C),c.d.length≤9223372036854770000→c.left≤k→sg k c=sg c.left.toNat c
 |0,c,hl,h=>by
  have:=(YX c).1;rw[show c.left.toNat=0 by omega]
 |k+1,c,hl,h=>by
  have hlb:=YX c;by_cases h0:0<c.left
  ·obtain⟨j,hj⟩:∃j,c.left.toNat=j+1:=⟨c.left.toNat-1,by omega⟩;rw[hj,sg,sg,QXV h0,QXV h0];by_cases hn:(Yl c).2.2=0
   ·obtain⟨_,s2,s3,s4,_⟩:=(Nk hl hn).left;simp only[hn,if_true];have hl':(Yl c).2.1.d.length≤9223372036854770000:=by rw[s4];exact hl
    rw[DD k _ hl' (by omega),DD j _ hl' (by omega)]
   ·simp only[hn,if_false]
  ·have e:c.left.toNat=0:=by omega
   rw[e];simp only[sg,h0,if_false]

theorem ScanS.done {s:List UInt8}{l:L}{c:C}{acc:List R}(h:ScanS s l c acc)(h0:¬0<c.left):Qyo s l=(acc,0):=by
 have:=h.all;have hb:=(YX c).1;rw[show c.left.toNat=0 by omega]at this
 simpa [sg]using this

theorem ScanS.step {s:List UInt8}{l:L}{c:C}{acc:List R}(hl:s.length≤9223372036854770000)(h:ScanS s l c acc)(h0:0<c.left)(hn:(Yl c).2.2=0):ScanS s l (Yl c).2.1 (acc++[(Yl c).1])∧(Yl c).2.1.left<c.left∧0≤(Yl c).2.1.left:=by
 have hcl:c.d.length≤9223372036854770000:=by rw[h.len];exact hl
 obtain⟨_,s2,s3,s4,_⟩:=(Nk hcl hn).left;refine⟨⟨by rw[s4];exact h.len,?_,?_⟩,s2,s3⟩
 ·have:=h.all;obtain⟨j,hj⟩:∃j,c.left.toNat=j+1:=⟨c.left.toNat-1,by omega⟩;rw[hj,sg]at this;simp only[h0,hn,if_true]at this;rw[DD j _ (by rw[s4];exact hcl) (by omega)]at this;rw[this];by_cases hs:(sg (Yl c).2.1.left.toNat (Yl c).2.1).2=0
  ·simp[hs]
  ·simp[hs]
 ·have:=h.acc;simp;omega

end Go.Proofs.YtipjfckmopekaaaGreatDoor.Va

namespace Go.Proofs.YtipjfckmopekaaaGreatDoor.Va
open Go Am Rc Bt Vp Cp

def Qyp (u:Nat)(k:Nat)(st:St):Prop :=
 ∃f fr i,st=⟨f,[fr],[]⟩∧k=8-i∧i≤8∧f 0=.int .u64 (u:Nat)∧f 3=.vec 0 5 1 0 8 false∧f 7=.int .i64 8∧f 8=.int .i64 (i:Nat)∧fr 5=.vec 1 1 (QA (fx i u)++List.replicate (8-i) (AV.int .u8 0))

theorem QaO (u i:Nat)(hi:i<8):IntKind.u8.wrap ((u:Int).fdiv (2 ^ min (8*i) 64))=((UInt8.ofNat (u / 256 ^ i % 256)).toNat:Int):=by
 have hp:(256:Nat) ^ i=2 ^ (8*i):=by rw[Nat.pow_mul]
 rw[QYH (by omega),QZy _ (Int.le_of_lt (Int.pow_pos (by decide))),toNat_ofNat _ (Nat.mod_lt _ (by decide)),hp,Pd];have:(u:Int) / 2 ^ (8*i)=((u / 2 ^ (8*i):Nat):Int):=by push_cast;rfl
 rw[this];omega

theorem Qyq (u:Nat):Qk Tryz.prog 106 [.int .u64 u] (.str (fx 8 u)):=by
 refine QL0.fn (by simp) ?_;simp only[Qa,seval];refine US (n:=8) (k:=8) rfl rfl (QXq _) (by decide) (by decide) rfl ?_;simp only[eE,seval];refine Qd (Qyp u) 8 ?_ ?_
 ·exact⟨_,_,0,rfl,rfl,by omega,rfl,rfl,rfl,rfl,rfl⟩
 rintro n st ⟨f,fr,i,rfl,rfl,hi,h0,h3,h7,h8,m5⟩;simp only[h7,h8,Qa,seval];have hlen:(QA (fx i u)).length=i:=by simp[QA,G9]
 by_cases hlt:i<8
 ·have d0:decide ((i:Int)<8)=true:=by simp;omega
  have e0:IntKind.i64.wrap (8*(i:Int))=((8*i:Nat):Int):=by rw[QE];omega
  have n0:(0≤((8*i:Nat):Int))=True:=eq_true (by omega);have n1:(0≤(i:Int))=True:=by simp
  have n2:(i<8)=True:=eq_true hlt;have e1:IntKind.i64.wrap ((i:Int)+1)=((i+1:Nat):Int):=by rw[QE];omega
  have hb:=QaO u i hlt;obtain⟨j,hj⟩:∃j,8-i=j+1:=⟨7-i,by omega⟩;have hget:(QA (fx i u)++List.replicate (8-i) (AV.int .u8 0))[0+i]? = some (.int .u8 0):=by
   rw[QX8,QYS (by omega),hlen,Nat.sub_self,hj];rfl
  have hset:(QA (fx i u)++List.replicate (8-i) (AV.int .u8 0)).set (0+i) (AV.int .u8 ((UInt8.ofNat (u / 256 ^ i % 256)).toNat:Int))=QA (fx (i+1) u)++List.replicate (8-(i+1)) (AV.int .u8 0):=by
   rw[QX8,QaN,List.set_append_right _ _ (by omega),hlen,Nat.sub_self,hj,show 8-(i+1)=j by omega];simp[QA,List.replicate_succ]
  simp only[d0,e0,n0,n1,n2,e1,hb,QYT,Qb,hget,ZL,AV.rfL,AV.rf,hset,h0,h3,h8,m5,eE,seval];exact⟨8-(i+1),by omega,_,_,i+1,rfl,rfl,by omega,by simp only[h0,Qa,seval],by simp only[h3,Qa,seval],by simp only[h7,Qa,seval],by simp only[Qa,seval],by simp only[Qa,seval]⟩
 ·have hi8:i=8:=by omega
  subst hi8;have d0:decide (((8:Nat):Int)<8)=false:=rfl;rw[Nat.sub_self,List.replicate_zero,QYv]at m5;have he:=JW (m:=[]) (fr:=fr) (site:=5) (g:=1) (sz:=1) (n:=8) (q:=false) m5 (by simp[QA,G9]);have hbo:bytesOf (QA (fx 8 u))=some (fx 8 u):=JA _;simp only[he,hbo,h3,Qa,seval]

open Up

def valid (f:R):Bool:=(X6 f.num f.wire).2==0&&(if ZP f.wire then f.data==[]else f.bits==0)

theorem Vv (n:Nat):(((n:Nat):Int)==0)=(n==0):=by
 by_cases h:n=0
 ·subst h;rfl
 ·rw[QY8.2 h,QY8.2 (by omega)]

theorem QSJ (f:R):Qk Tryz.prog 103 [f.av] (.bool (valid f)):=by
 refine QcK.fn (by simp) ?_;simp only[R.av,eE,seval];refine aC (Qyn f.num f.wire) ?_;unfold valid;generalize X6 f.num f.wire=t;obtain⟨s,e⟩:=t;simp only[Uy,Qa,seval];by_cases he:e=0
 ·subst he;simp only[eE,seval];refine aC (Qym f.wire) ?_;cases hn:ZP f.wire with
  |true=>
   simp only[QI,QYB,eE,seval]
  |false=>
   simp only[Vv,QYB,eE,seval]
 ·simp only[Qyl he,Qa,seval];simp[he]

theorem c64 (f:R):Qk Tryz.prog 64 [f.av] (.bool (valid f)):=by
 refine k64.fn (by simp) ?_;simp only[R.av,eE,seval];refine aC (c65 f.num f.wire) ?_;unfold valid;generalize X6 f.num f.wire=t;obtain⟨s,e⟩:=t;simp only[Uy,eE,seval];refine aC (c67 f.wire) ?_;by_cases he:e=0
 ·have h1:((e:Int)==0)=true:=by simp[he]
  cases hn:ZP f.wire with
  |true=>simp only[h1,show(e==0)=true by simp[he],QI,QYB,eE,seval]
  |false=>simp only[h1,show(e==0)=true by simp[he],Vv,QYB,eE,seval]
 ·have h1:((e:Int)==0)=false:=by simp;omega
  have h2:(e==0)=false:=by simp[he]
  cases hn:ZP f.wire with
  |true=>simp only[h1,h2,QYW,Qa,seval]
  |false=>simp only[h1,h2,QYW,Qa,seval]

theorem QSK (p v:AV)(h fr:Nat→Ob)(m:Qo)(hs:fr 2128=.cells [p,v])(hp:p=.nilp∨p=.ptr 0 2128 0) :
  Qg Tryz.prog 189 [.ptr 1 2128 0] (h :: fr :: m) fun x m1=>x=.tup []∧m1=h :: QK fr 2128 (.cells [.ptr 0 2128 0,v]) :: m:=by
 refine QhS.go (by simp) ?_;rcases hp with rfl|rfl
 ·simp only[hs,RR.evL,eE,seval]
 ·simp only[hs,RR.evL,AY _ _ _ hs,eE,seval]

structure Bld (fr:Nat→Ob)(bs:List UInt8):Prop where
 mk ::
 cell:∃p g,fr 2128=.cells [p,.vec 0 2005 g 0 bs.length false]∧fr 2005=.vec g 1 (QA bs)∧(p=.nilp∨p=.ptr 0 2128 0)

def Kj (fr:Nat→Ob)(g:Nat)(bs:List UInt8):Nat→Ob :=
 QK (QK fr 2005 (.vec g 1 (QA bs))) 2128 (.cells [.ptr 0 2128 0,.vec 0 2005 g 0 bs.length false])

theorem KW (fr:Nat→Ob)(g:Nat)(bs:List UInt8):Bld (Kj fr g bs) bs :=
 ⟨_,g,by rw[Kj,QR],by rw[Kj,QS _ _ (by decide),QR],.inr rfl⟩

theorem WL {fr:Nat→Ob}{g:Nat}{bs:List UInt8}{s:Nat}(h1:s≠2005)(h2:s≠2128):Kj fr g bs s=fr s:=by
 rw[Kj,QS _ _ h2,QS _ _ h1]

theorem Nl (bs t:List UInt8)(fr:Nat→Ob)(m:Qo)(h:Bld fr bs)(hl:bs.length+t.length≤140737488355328) :
  ∃g,Qg Tryz.prog 105 [.ptr 0 2128 0,.str t] (fr :: m) fun x m1=>x=.tup [.int .i64 (t.length:Int),.nili]∧m1=Kj fr g (bs++t) :: m:=by
 obtain⟨p,g,h1,h2,h3⟩:=h.cell;refine⟨g+1,?_⟩;refine QcY.go (by simp) ?_;simp only[Qa,seval];refine Qj (QSK p _ _ fr m h1 h3) rfl ?_;simp only[h1,eE,seval];refine Um (xs:=QA bs) rfl (by simp only[h2,eE,seval]) rfl (by simp[QA]) rfl hl ?_;have hb:QA bs++QA t=QA (bs++t):=by simp[QA]
 have hn:bs.length+t.length=(bs++t).length:=by simp
 simp only[h1,hb,hn,eE,seval];rw[FX _ _ _ _ _ (by decide),Dj,FX _ _ _ _ _ (by decide),Kj]

def Fv (fr:Nat→Ob)(bs:List UInt8):Nat→Ob :=
 if bs.length=0 then fr else match fr 2005 with
  |.vec g _ _=>QK fr 2005 (.vec (g+1) 1 [])
  |_=>fr

theorem QSL (bs:List UInt8)(fr:Nat→Ob)(m:Qo)(h:Bld fr bs)(hl:bs.length≤140737488355328) :
  Qg Tryz.prog 109 [.ptr 0 2128 0] (fr :: m) fun x m1=>x=.str bs∧m1=Fv fr bs :: m:=by
 obtain⟨p,g,h1,h2,h3⟩:=h.cell;refine Qdi.go (by simp) ?_;simp only[h1,eE,seval];refine⟨1,2005,g,bs.length,1,QA bs,by decide,rfl,h2,?_⟩;by_cases h0:bs.length=0
 ·have hb:bs=[]:=QYw h0;subst hb;simp only[Qn,h1,h2,QYo,Int.natCast_zero,eE,seval];refine .inl ⟨rfl,rfl,?_⟩;simp only[Qn,Fv,QYo,Qa,seval]
 ·simp only[h0,Qn,h1,h2,eE,seval];refine .inr ⟨1,g,bs.length,QA bs,bs,rfl,rfl,h2,by simp[QA],h0,QX0 (by simp[QA]),?_⟩;simp only[h0,Qn,h2,Fv,eE,seval]

end Go.Proofs.YtipjfckmopekaaaGreatDoor.Va

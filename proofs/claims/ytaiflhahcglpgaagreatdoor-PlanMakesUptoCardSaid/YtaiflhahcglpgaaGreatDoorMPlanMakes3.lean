/- Parts of the proof, in order. -/
import Derived.Test.YtaiflhahcglpgaaGreatDoorMPlanMakes2

set_option linter.unusedSimpArgs false
set_option linter.unusedSectionVars false
namespace Go.Proofs.YtaiflhahcglpgaaGreatDoor.Va
open Go Am Rc Bt Br Up So

theorem KI (e:SE)(i:Nat)(x:SI):(ZP e i x).length≤6:=by
 unfold ZP Xl;exact Qr (Qr (Qr (Qr (Qr (QR _ _ _ _) _ _ _ _) _ _ _ _) _ _ _ _) _ _ _ _) _ _ _ _
theorem ZL (x:SI):x.cells=[.str x.name,.int .i64 x.num,.list (x.notes.map fun n=>.agg n.cells)]:=rfl
theorem XJ (x:SE):x.cells=[.str x.name,.bool x.opn,.list (x.items.map fun n=>.agg n.cells),.list (x.free.map fun n=>.agg n.cells),.list (x.notes.map fun n=>.agg n.cells)]:=rfl

def EF (e:SE)(i:Nat)(f:Fr):Prop:=f 1=.ptr 0 1 0∧f 3=.ptr 0 9 0∧f 4=.int .i64 (i:Nat)∧f 5=.ptr 0 5 0∧f 48=.list (e.items.map Zv)∧f 49=.int .i64 (e.items.length:Nat)∧f 50=.int .i64 (i:Nat)

section
variable {M:Nat}(hM:M≤1048576)(e:SE)(he:e.ok M)(i:Nat)(x:SI)(hi:e.items[i]? = some x)
variable (fr:Nat→Ob)(o1:fr 1=.cells e.cells)(o5:fr 5=.cells x.cells)
variable (l:List PB)(hl:l.length≤1073741824)(f:Fr)(hf:EF e i f)(K:St→Prop)
include hl hf

include o5 in
theorem en9 (hK:∀f,EF e i f→K ⟨f,[Qm fr 9 1100 e.name x.num (l++pb e.name x.num (decide (x.num≥0)&&decide (x.num≤2147483647)) 6)],[]⟩):Ql Tryz.prog GT ⟨f,[Qm fr 9 1100 e.name x.num l],[]⟩ K:=by
 obtain⟨h1,h3,h4,h5,h48,h49,h50⟩:=hf;have c5:∀n l,Qm fr 9 1100 e.name n l 5=fr 5:=fun n l=>QL _ _ _ _ _ _ (by decide) (by decide)
 rw[ZL]at o5;simp only[GT,h3,h5,c5,o5,eE,seval];cases a1:decide (x.num≥0)
 ·rw[a1]at hK;simp only[Qa,seval];refine Qb (Xt fr 9 1100 e.name x.num l (by decide) rfl hl false 6 []) (by simp only[QzI,Qz4,Qa,seval]<;>rfl) ?_;simp only[Qa,seval];exact hK _ ⟨(by exact h1),(by exact h3),(by exact h4),(by exact h5),(by exact h48),(by exact h49),(by exact h50)⟩
 ·rw[a1]at hK;simp only[h5,c5,o5,eE,seval];refine Qb (Xt fr 9 1100 e.name x.num l (by decide) rfl hl (decide (x.num≤2147483647)) 6 []) (by simp only[QzI,Qz4,Qa,seval]<;>rfl) ?_;simp only[Qa,seval];exact hK _ ⟨(by exact h1),(by exact h3),(by exact h4),(by exact h5),(by exact h48),(by exact h49),(by exact h50)⟩

include o1 o5 hi hM he in
theorem QvQ (hK:∀f,EF e i f→K ⟨f,[Qm fr 9 1100 e.name x.num (l++pb e.name x.num (Jw e.items SI.num i x) 11)],[]⟩):Ql Tryz.prog WI ⟨f,[Qm fr 9 1100 e.name x.num l],[]⟩ K:=by
 obtain⟨h1,h3,h4,h5,h48,h49,h50⟩:=hf;have c1:∀n l,Qm fr 9 1100 e.name n l 1=fr 1:=fun n l=>QL _ _ _ _ _ _ (by decide) (by decide)
 have c5:∀n l,Qm fr 9 1100 e.name n l 5=fr 5:=fun n l=>QL _ _ _ _ _ _ (by decide) (by decide)
 have hlt:i<e.items.length:=(Qze.1 hi).1;have hl1:=he.len1;rw[ZL]at o5;rw[XJ]at o1;cases i with
 |zero=>
  simp only[WI,h3,h4,Qa,seval];refine Qb (Xt fr 9 1100 e.name x.num l (by decide) rfl hl true 11 []) (by simp only[QzI,Qz4,Qa,seval]<;>rfl) ?_;simp only[Qa,seval];exact hK _ ⟨(by exact h1),(by exact h3),(by exact h4),(by exact h5),(by exact h48),(by exact h49),(by exact h50)⟩
 |succ j=>
  obtain⟨y,hj⟩:∃y,e.items[j]? = some y:=⟨e.items[j]'(by omega),Qzf (by omega)⟩;have hg:(e.items.map fun n=>AV.agg n.cells)[j]? = some (.agg y.cells):=by rw[QAm,hj];rfl
  have wj:=JC j _ hlt (by simp only[maxLen];omega);have d0:(((j+1:Nat):Int)==0)=false:=by rw[QAO];omega
  rw[ZL]at hg;simp only[Jw,hj]at hK;simp only[WI,d0,wj,Qk,QAq,Qc,hg,h1,h3,h4,h5,c1,c5,o1,o5,eE,seval];refine Qb (Xt fr 9 1100 e.name x.num l (by decide) rfl hl (decide (x.num > y.num)) 11 []) (by simp only[QzI,Qz4,Qa,seval]<;>rfl) ?_;simp only[Qa,seval];exact hK _ ⟨(by exact h1),(by exact h3),(by exact h4),(by exact h5),(by exact h48),(by exact h49),(by exact h50)⟩

include o5 in
theorem QvR (hK:∀f,EF e i f→K ⟨f,[Qm fr 9 1100 e.name x.num (l++pb e.name x.num (Q5 x.name) 8)],[]⟩):Ql Tryz.prog Uh ⟨f,[Qm fr 9 1100 e.name x.num l],[]⟩ K:=by
 obtain⟨h1,h3,h4,h5,h48,h49,h50⟩:=hf;have c5:∀n l,Qm fr 9 1100 e.name n l 5=fr 5:=fun n l=>QL _ _ _ _ _ _ (by decide) (by decide)
 rw[ZL]at o5;simp only[Uh,h3,h5,c5,o5,eE,seval];refine aC (Bz x.name) ?_
 try simp only[eE,seval]
 refine Qb (Xt fr 9 1100 e.name x.num l (by decide) rfl hl (Q5 x.name) 8 []) (by simp only[QzI,Qz4,Qa,seval]<;>rfl) ?_;simp only[Qa,seval];exact hK _ ⟨(by exact h1),(by exact h3),(by exact h4),(by exact h5),(by exact h48),(by exact h49),(by exact h50)⟩

include o1 hi hM he in
theorem QvS (hK:∀f,EF e i f→K ⟨f,[Qm fr 9 1100 e.name x.num (l++pb e.name x.num (!((e.items.take i).any fun y=>y.name==x.name)) 9)],[]⟩):Ql Tryz.prog Ui ⟨f,[Qm fr 9 1100 e.name x.num l],[]⟩ K:=by
 obtain⟨h1,h3,h4,h5,h48,h49,h50⟩:=hf;have c1:∀n l,Qm fr 9 1100 e.name n l 1=fr 1:=fun n l=>QL _ _ _ _ _ _ (by decide) (by decide)
 have hl1:=he.len1;have hsn:=QvF e.items (by simp only[maxLen];omega) i x hi 158 SI.name QvB [Qm fr 9 1100 e.name x.num l];rw[XJ]at o1;simp only[Ui,h1,h3,h4,c1,o1,eE,seval];refine Qb hsn (by simp only[QzI,Qz4,Qa,seval]<;>rfl) ?_;simp only[Qa,seval];refine Qb (Xt fr 9 1100 e.name x.num l (by decide) rfl hl _ 9 []) (by simp only[QzI,Qz4,Qa,seval]<;>rfl) ?_;simp only[Qa,seval];exact hK _ ⟨(by exact h1),(by exact h3),(by exact h4),(by exact h5),(by exact h48),(by exact h49),(by exact h50)⟩

include o1 o5 hM he in
theorem QvT (hK:∀f,EF e i f→K ⟨f,[Qm fr 9 1100 e.name x.num (l++pb e.name x.num (!(kept e.free x.num)) 21)],[]⟩):Ql Tryz.prog Uj ⟨f,[Qm fr 9 1100 e.name x.num l],[]⟩ K:=by
 obtain⟨h1,h3,h4,h5,h48,h49,h50⟩:=hf;have c1:∀n l,Qm fr 9 1100 e.name n l 1=fr 1:=fun n l=>QL _ _ _ _ _ _ (by decide) (by decide)
 have c5:∀n l,Qm fr 9 1100 e.name n l 5=fr 5:=fun n l=>QL _ _ _ _ _ _ (by decide) (by decide)
 have hl2:=he.len2;have hr:Qu Tryz.prog 142 [.list (e.free.map fun n=>AV.agg n.cells),.int .i64 x.num] (.bool (kept e.free x.num)):=Qkh e.free (by simp only[maxLen];omega) x.num;rw[ZL]at o5;rw[XJ]at o1;simp only[Uj,h1,h3,h5,c1,c5,o1,o5,eE,seval];refine aC hr ?_;simp only[Qa,seval];refine Qb (Xt fr 9 1100 e.name x.num l (by decide) rfl hl _ 21 []) (by simp only[QzI,Qz4,Qa,seval]<;>rfl) ?_;simp only[Qa,seval];exact hK _ ⟨(by exact h1),(by exact h3),(by exact h4),(by exact h5),(by exact h48),(by exact h49),(by exact h50)⟩

include o5 hM he hi in
theorem QvU (hK:∀f,EF e i f→K ⟨f,[Qm fr 9 1100 e.name x.num (l++Xl e.name x.num x.notes 4)],[]⟩):Ql Tryz.prog Uk ⟨f,[Qm fr 9 1100 e.name x.num l],[]⟩ K:=by
 obtain⟨h1,h3,h4,h5,h48,h49,h50⟩:=hf;have c5:∀n l,Qm fr 9 1100 e.name n l 5=fr 5:=fun n l=>QL _ _ _ _ _ _ (by decide) (by decide)
 have hx:=he.items x (Qzq hi);have hln:=hx.len;rw[ZL]at o5;simp only[Uk,h3,h5,c5,o5,eE,seval];refine Qb (Y8 fr 9 1100 e.name x.num l (by decide) rfl hl [] x.notes (by simp only[maxLen];omega) hx.notes 4 (by decide)) (by simp only[QzI,Qz4,Qa,seval]<;>rfl) ?_;simp only[Qa,seval];exact hK _ ⟨(by exact h1),(by exact h3),(by exact h4),(by exact h5),(by exact h48),(by exact h49),(by exact h50)⟩
end

section
variable {M:Nat}(hM:M≤1048576)(e:SE)(he:e.ok M)

include hM he in
theorem My (l:List PB)(hl:l.length≤1000000)(n:Int)(f:Fr)(fr:Nat→Ob)(h1:f 1=.ptr 0 1 0)(h3:f 3=.ptr 0 9 0)(h48:f 48=.list (e.items.map Zv))(h49:f 49=.int .i64 (e.items.length:Nat))(h50:f 50=.int .i64 0)(o1:fr 1=.cells e.cells)(o5:fr 5=.none)(Q:Exit→St→Prop)
  (hq:∀(f:Fr) (fr:Nat→Ob) (n:Int),f 1=.ptr 0 1 0→f 3=.ptr 0 9 0→fr 1=.cells e.cells→Q (.exit 0) ⟨f,[Qm fr 9 1100 e.name n (l++upto e.items (ZP e) e.items.length)],[]⟩):QE Tryz.prog (.loop VF) ⟨f,[Qm fr 9 1100 e.name n l],[]⟩ Q:=by
 let I:Nat→St→Prop:=fun k st=>∃f fr n i,st=⟨f,[Qm fr 9 1100 e.name n (l++upto e.items (ZP e) i)],[]⟩∧k=e.items.length-i∧i≤e.items.length∧f 1=.ptr 0 1 0∧f 3=.ptr 0 9 0∧f 48=.list (e.items.map Zv)∧f 49=.int .i64 (e.items.length:Nat)∧f 50=.int .i64 (i:Nat)∧fr 1=.cells e.cells∧(fr 5).isRow=false
 have hl1:=he.len1;refine Qe I _ ⟨f,fr,n,0,by rw[upto,Qz6],rfl,Qzl _,h1,h3,h48,h49,h50,o1,by rw[o5];rfl⟩ ?_;clear h1 h3 h48 h49 h50 o1 o5;rintro _ st ⟨f0,fr0,n,i,rfl,rfl,hi,h10,h30,h480,h490,h500,Xk,r5⟩;refine QJ (a:=_) [5] (by intro s hs;simp only[QAj,QAT,or_false]at hs;subst hs;rw[QL _ _ _ _ _ _ (by decide) (by decide)];exact r5) ?_;intro f fr hf hmm hn;have h1:f 1=.ptr 0 1 0:=by rw[hf,h10]<;>rfl
 have h3:f 3=.ptr 0 9 0:=by rw[hf,h30]<;>rfl
 have h48:f 48=.list (e.items.map Zv):=by rw[hf,h480]<;>rfl
 have h49:f 49=.int .i64 (e.items.length:Nat):=by rw[hf,h490]<;>rfl
 have h50:f 50=.int .i64 (i:Nat):=by rw[hf,h500]<;>rfl
 have o1:fr 1=.cells e.cells:=by rw[hmm 1 (by decide),QL _ _ _ _ _ _ (by decide) (by decide),Xk]<;>rfl
 have o9:fr 9=.cells [.str e.name,.int .i64 n,.vec 0 1100 (1+(l++upto e.items (ZP e) i).length) 0 (l++upto e.items (ZP e) i).length false]:=by rw[hmm 9 (by decide),Z6]<;>rfl
 have oR:fr 1100=.vec (1+(l++upto e.items (ZP e) i).length) 3 ((l++upto e.items (ZP e) i).map PB.av):=by rw[hmm 1100 (by decide),JW _ _ _ _ _ _ (by decide)]<;>rfl
 have n5:=hn 5 (by decide);clear hf hmm hn h10 h30 h480 h490 h500 Xk r5;simp only[VC,h49,h50,Qa,seval];by_cases hlt:i<e.items.length
 case neg=>
  have ei:i=e.items.length:=by omega
  subst ei;simp only[QC hlt,Qa,seval];rw[←WJ o9 oR];exact hq _ _ _ (by exact h1) (by exact h3) o1
 obtain⟨x,hx⟩:∃x,e.items[i]? = some x:=⟨e.items[i],Qzf hlt⟩;have hg:(e.items.map Zv)[i]? = some (.agg x.cells):=by rw[QAm,hx];rfl
 rw[ZL]at hg;have e1:=Qn i _ hlt (by simp only[maxLen];omega);have hul:=QK (l:=e.items) (KI e) i;have q0:(l++upto e.items (ZP e) i).length≤100000000:=by rw[QzM];omega
 simp only[QA hlt,n5,VD,Qk,QAq,Qc,hg,h48,h50,eE,seval];have hfe:Qw fr 5 (.cells [.str x.name,.int .i64 x.num,.list (x.notes.map fun n=>.agg n.cells)])=Qm (Qw fr 5 (.cells [.str x.name,.int .i64 x.num,.list (x.notes.map fun n=>.agg n.cells)])) 9 1100 e.name n (l++upto e.items (ZP e) i):=(WJ (by exact o9) (by exact oR)).symm;rw[hfe];generalize hF:Qw fr 5 (.cells [.str x.name,.int .i64 x.num,.list (x.notes.map fun n=>.agg n.cells)])=F;have o1':F 1=.cells e.cells:=by rw[←hF];exact(by exact o1)
 have o5':F 5=.cells x.cells:=by rw[←hF,ZL];exact(by rfl)
 clear hfe hF o1 o9 oR n5;have cs:∀n l,Qm F 9 1100 e.name n l 9=.cells [.str e.name,.int .i64 n,.vec 0 1100 (1+l.length) 0 l.length false]:=fun n l=>Z6 F 9 1100 e.name n l
 have c5:∀n l,Qm F 9 1100 e.name n l 5=F 5:=fun n l=>QL _ _ _ _ _ _ (by decide) (by decide)
 have cn:∀n l n',Qw (Qm F 9 1100 e.name n l) 9 (.cells [.str e.name,.int .i64 n',.vec 0 1100 (1+l.length) 0 l.length false])=Qm F 9 1100 e.name n' l:=fun n l n'=>KG F 9 1100 e.name n l n'
 have o5s:=o5';rw[ZL]at o5s;simp only[VE,cs,c5,cn,o5s,h3,eE,seval];refine en9 e i x F o5' _ (by omega) _ ⟨(by exact h1),(by exact h3),(by rfl),(by rfl),(by exact h48),(by exact h49),(by exact h50)⟩ _ (fun f hf=>?_);have q1:=Qr q0 e.name x.num (decide (x.num≥0)&&decide (x.num≤2147483647)) 6;simp only[Qa,seval];refine QvQ hM e he i x hx F o1' o5' _ (by omega) f hf _ (fun f hf=>?_);have q2:=Qr q1 e.name x.num (Jw e.items SI.num i x) 11;simp only[Qa,seval];refine QvR e i x F o5' _ (by omega) f hf _ (fun f hf=>?_);have q3:=Qr q2 e.name x.num (Q5 x.name) 8;simp only[Qa,seval];refine QvS hM e he i x hx F o1' _ (by omega) f hf _ (fun f hf=>?_);have q4:=Qr q3 e.name x.num (!((e.items.take i).any fun y=>y.name==x.name)) 9;simp only[Qa,seval];refine QvT hM e he i x F o1' o5' _ (by omega) f hf _ (fun f hf=>?_);have q5:=Qr q4 e.name x.num (!(kept e.free x.num)) 21;simp only[Qa,seval];refine QvU hM e he i x hx F o5' _ (by omega) f hf _ (fun f hf=>?_);clear h1 h3 h48 h49 h50;obtain⟨h1,h3,h4,h5,h48,h49,h50⟩:=hf;simp only[D0,h50,e1,Qa,seval];exact⟨e.items.length-(i+1),by omega,_,F,x.num,i+1,by rw[XY hx];unfold ZP;simp only[Qzw]<;>rfl,rfl,by omega,(by exact h1),(by exact h3),(by exact h48),(by exact h49),(by rfl),o1',by rw[o5'];rfl⟩
end

section
variable {M:Nat}(hM:M≤1048576)(e:SE)(he:e.ok M)(base:Nat→Ob)(o1:base 1=.cells e.cells)
variable (l:List PB)(hl:l.length≤1000000)(f:Fr)(h1:f 1=.ptr 0 1 0)(h3:f 3=.ptr 0 9 0)(K:St→Prop)
include hM he o1 hl h1 h3

theorem en3 (hK:∀f:Fr,f 1=.ptr 0 1 0→f 3=.ptr 0 9 0→K ⟨f,[Qm base 9 1100 e.name (-1) (l++pb e.name (-1) (decide (e.items.length≥1)&&decide (e.items.length≤64)&&decide (e.free.length≤16)) 3)],[]⟩):Ql Tryz.prog GR ⟨f,[Qm base 9 1100 e.name (-1) l],[]⟩ K:=by
 have c1:∀n l,Qm base 9 1100 e.name n l 1=base 1:=fun n l=>QL _ _ _ _ _ _ (by decide) (by decide)
 have d1:decide ((e.items.length:Int)≥1)=decide (e.items.length≥1):=(by rw[QzY];simp only[QAl];omega);have d3:decide ((e.free.length:Int)≤16)=decide (e.free.length≤16):=(by rw[QzY];simp only[QAl];omega);rw[XJ]at o1;simp only[GR,c1,o1,QAo,d1,h1,h3,eE,seval];cases a1:decide (e.items.length≥1)
 ·rw[a1]at hK;simp only[Qa,seval];refine Qb (Xt base 9 1100 e.name (-1) l (by decide) rfl (by omega) false 3 []) (by simp only[QzI,Qz4,Qa,seval]<;>rfl) ?_;simp only[Qa,seval];exact hK _ (by exact h1) (by exact h3)
 simp only[c1,o1,QAo,BA,h1,eE,seval];cases a2:decide (e.items.length≤64)
 ·rw[a1,a2]at hK;simp only[Qa,seval];refine Qb (Xt base 9 1100 e.name (-1) l (by decide) rfl (by omega) false 3 []) (by simp only[QzI,Qz4,Qa,seval]<;>rfl) ?_;simp only[Qa,seval];exact hK _ (by exact h1) (by exact h3)
 rw[a1,a2]at hK;simp only[c1,o1,QAo,d3,h1,eE,seval];refine Qb (Xt base 9 1100 e.name (-1) l (by decide) rfl (by omega) (decide (e.free.length≤16)) 3 []) (by simp only[QzI,Qz4,Qa,seval]<;>rfl) ?_;simp only[Qa,seval];exact hK _ (by exact h1) (by exact h3)

theorem en4 (hK:∀f:Fr,f 1=.ptr 0 1 0→f 3=.ptr 0 9 0→K ⟨f,[Qm base 9 1100 e.name (-1) (l++pb e.name (-1) (Zn e) 14)],[]⟩):Ql Tryz.prog GS ⟨f,[Qm base 9 1100 e.name (-1) l],[]⟩ K:=by
 have c1:∀n l,Qm base 9 1100 e.name n l 1=base 1:=fun n l=>QL _ _ _ _ _ _ (by decide) (by decide)
 have z1:Int.toNat 0=0:=rfl;have z0:(0≤(0:Int))=True:=by simp
 rw[XJ]at o1;simp only[GS,c1,o1,QAo,Kf,h1,h3,eE,seval];cases hi:e.items with
 |nil=>
  have e0:Zn e=true:=by unfold Zn;rw[hi]
  rw[e0]at hK;simp only[QAe,Qa,seval];refine Qb (Xt base 9 1100 e.name (-1) l (by decide) rfl (by omega) true 14 []) (by simp only[QzI,Qz4,Qa,seval]<;>rfl) ?_;simp only[Qa,seval];exact hK _ (by exact h1) (by exact h3)
 |cons x r=>
  have e0:Zn e=(x.num==0):=by unfold Zn;rw[hi]
  have b0:((x :: r).length==0)=false:=rfl;have hg:((x :: r).map fun n:SI=>AV.agg n.cells)[0]? = some (.agg [.str x.name,.int .i64 x.num,.list (x.notes.map fun n=>.agg n.cells)]):=rfl;rw[e0]at hK;rw[hi]at o1;simp only[c1,o1,z0,z1,Qc,hg,h1,eE,seval];refine Qb (Xt base 9 1100 e.name (-1) l (by decide) rfl (by omega) (x.num==0) 14 []) (by simp only[QzI,Qz4,Qa,seval]<;>rfl) ?_;simp only[Qa,seval];exact hK _ (by exact h1) (by exact h3)
end

theorem QvV {M:Nat}(hM:M≤1048576)(e:SE)(he:e.ok M):Qu Tryz.prog 103 [XC e] (.list ((ZK e).map PB.av)):=by
 have hl1:=he.len1;have hl2:=he.len2;have hl3:=he.len3;have hnl:=he.name;refine QqY.fn (by simp) ?_;simp only[QdY,QdZ,Vy,Vz,XC,XJ e,eE,seval];refine Xb rfl rfl rfl rfl ?_;generalize hb:(Qw Qh 1 _:Nat→Ob)=base;have o1:base 1=.cells e.cells:=by rw[←hb,XJ];exact(by rfl)
 have c1:∀n l,Qm base 9 1100 e.name n l 1=base 1:=fun n l=>QL _ _ _ _ _ _ (by decide) (by decide)
 have o1s:=o1;rw[XJ]at o1s;rw[Hs base 9 1100 e.name (-1) (by decide)];simp only[VA,c1,o1s,eE,seval];refine aC (Mx e.name (by omega)) ?_
 try simp only[eE,seval]
 refine Qb (Xt base 9 1100 e.name (-1) [] (by decide) rfl (by simp) (Xg e.name) 8 []) (by simp only[QzI,Qz4,Qa,seval]<;>rfl) ?_;simp only[Qzy,Qa,seval];have q1:=QR e.name (-1) (Xg e.name) 8;refine en3 hM e he base o1 _ (by omega) _ (by rfl) (by rfl) _ (fun f h1 h3=>?_);have q2:=Qr q1 e.name (-1) (decide (e.items.length≥1)&&decide (e.items.length≤64)&&decide (e.free.length≤16)) 3;simp only[Qa,seval];refine en4 hM e he base o1 _ (by omega) _ h1 h3 _ (fun f h1 h3=>?_);have q3:=Qr q2 e.name (-1) (Zn e) 14;simp only[VB,c1,o1s,QAo,h1,eE,seval];refine My hM e he _ (by omega) (-1) _ base (by exact h1) (by exact h3) (by rfl) (by rfl) (by rfl) o1 (by rw[←hb];exact(by rfl)) _ (fun f F n h1 h3 o1=>?_);clear c1 o1s hb;have q4:=QK (l:=e.items) (KI e) e.items.length;have o1s:=o1;rw[XJ]at o1s;have c1:∀n l,Qm F 9 1100 e.name n l 1=F 1:=fun n l=>QL _ _ _ _ _ _ (by decide) (by decide)
 have cs:∀n l,Qm F 9 1100 e.name n l 9=.cells [.str e.name,.int .i64 n,.vec 0 1100 (1+l.length) 0 l.length false]:=fun n l=>Z6 F 9 1100 e.name n l
 have cn:∀n l n',Qw (Qm F 9 1100 e.name n l) 9 (.cells [.str e.name,.int .i64 n',.vec 0 1100 (1+l.length) 0 l.length false])=Qm F 9 1100 e.name n' l:=fun n l n'=>KG F 9 1100 e.name n l n'
 have cR:∀n l,Qm F 9 1100 e.name n l 1100=.vec (1+l.length) 3 (l.map PB.av):=fun n l=>JW F 9 1100 e.name n l (by decide)
 simp only[D1,D2,cs,cn,c1,o1s,h1,h3,eE,seval];generalize hL:pb e.name (-1) (Xg e.name) 8++pb e.name (-1) (decide (e.items.length≥1)&&decide (e.items.length≤64)&&decide (e.free.length≤16)) 3++pb e.name (-1) (Zn e) 14++upto e.items (ZP e) e.items.length=L;have q5:L.length≤10000000:=by
  rw[←hL,QzM];omega
 have hsp:=RM F 9 1100 e.name L (by decide) rfl 0 2147483647 e.free (by omega) [] (by omega);refine Qb hsp (by simp only[QzI,Qz4,Qa,seval]<;>rfl) ?_;have q6:=QK (l:=e.free) (Ji e.name 0 2147483647 e.free) e.free.length;have q7:(L++upto e.free (Ju e.name 0 2147483647 e.free) e.free.length).length≤20000000:=by
  rw[QzM];omega
 simp only[D3,c1,o1s,h1,h3,eE,seval];refine Qb (Y8 F 9 1100 e.name (-1) _ (by decide) rfl (by omega) [] e.notes (by simp only[maxLen];omega) he.notes 3 (by decide)) (by simp only[QzI,Qz4,Qa,seval]<;>rfl) ?_;have hfin:ZK e=L++upto e.free (Ju e.name 0 2147483647 e.free) e.free.length++Xl e.name (-1) e.notes 3:=by rw[←hL];rfl
 rw[←hfin];have ht:∀l:List PB,List.take l.length (List.map PB.av l)=List.map PB.av l:=fun l=>QzJ (by rw[QAo];exact Qzc _)
 simp only[D4,cs,cR,h3,QAo,QzQ,ht,QzB,Qzc,Qz7,QAc,AV.un,eE,seval]

theorem KJ (S:SC)(v:SQ)(i:Nat)(x:SO):(Jh S v i x).length≤5:=by
 unfold Jh Xl;exact Qr (Qr (Qr (Qr (QR _ _ _ _) _ _ _ _) _ _ _ _) _ _ _ _) _ _ _ _
theorem JP (x:SO):x.cells=[.str x.name,.str x.inn,.str x.out,.int .i64 x.shape,.list (x.notes.map fun n=>.agg n.cells)]:=rfl
theorem JL (x:SQ):x.cells=[.str x.name,.list (x.meths.map fun n=>.agg n.cells),.list (x.notes.map fun n=>.agg n.cells)]:=rfl
def Cs (x:SO):AV:=.agg x.cells
def Kt (x:SQ):AV:=.agg x.cells
def U4 (l:List SO)(i:Nat)(x:SO):Bool:=match i with
 |0=>true
 |j+1=>match l[j]? with
  |none=>true
  |some y=>Op.bytesLess y.name x.name
theorem Ct (S:SC)(v:SQ)(i:Nat)(x:SO):Jh S v i x=pb v.name (i:Int) (Q5 x.name) 8++pb v.name (i:Int) (U4 v.meths i x) 11++pb v.name (i:Int) (QS S x.inn&&QS S x.out) 12++pb v.name (i:Int) (decide (x.shape≥1)&&decide (x.shape≤4)) 1++Xl v.name (i:Int) x.notes 6:=by
 cases i<;>rfl
theorem FA (a b:List UInt8):(!(Op.bytesLess a b||a==b))=Op.bytesLess b a:=by
 cases h1:Op.bytesLess a b
 ·cases h2:Op.bytesLess b a
  ·have:=WB h1 h2;subst this;simp
  ·have hne:(a==b)=false:=by
    rw[QAO];rintro rfl;rw[Jf]at h2;cases h2
   rw[hne];rfl
 ·cases h2:Op.bytesLess b a
  ·rfl
  ·have:=K2 h1 h2;rw[Jf]at this;cases this

def QF (v:SQ)(i:Nat)(f:Fr):Prop:=f 2=.ptr 0 2 0∧f 3=.ptr 0 3 0∧f 5=.ptr 0 15 0∧f 6=.int .i64 (i:Nat)∧f 7=.ptr 0 7 0∧f 28=.list (v.meths.map Cs)∧f 29=.int .i64 (v.meths.length:Nat)∧f 30=.int .i64 (i:Nat)

section
variable {M:Nat}(hM:M≤1048576)(S:SC)(hS:S.ok M)(v:SQ)(hv:v.ok M)(i:Nat)(x:SO)(hi:v.meths[i]? = some x)
variable (fr:Nat→Ob)(o2:fr 2=.cells [.list (S.msgs.map fun n=>.agg n.cells),.list (S.enums.map fun n=>.agg n.cells),.list (S.servs.map fun n=>.agg n.cells)])(o3:fr 3=.cells v.cells)(o7:fr 7=.cells x.cells)
variable (l:List PB)(hl:l.length≤1073741824)(f:Fr)(hf:QF v i f)(K:St→Prop)
include hl hf

include o7 in
theorem sq8 (hK:∀f,QF v i f→K ⟨f,[Qm fr 15 1100 v.name (i:Int) (l++pb v.name (i:Int) (Q5 x.name) 8)],[]⟩):Ql Tryz.prog GU ⟨f,[Qm fr 15 1100 v.name (i:Int) l],[]⟩ K:=by
 obtain⟨h2,h3,h5,h6,h7,h28,h29,h30⟩:=hf;have c7:∀n l,Qm fr 15 1100 v.name n l 7=fr 7:=fun n l=>QL _ _ _ _ _ _ (by decide) (by decide)
 rw[JP]at o7;simp only[GU,h5,h7,c7,o7,eE,seval];refine aC (Bz x.name) ?_
 try simp only[eE,seval]
 refine Qb (Xt fr 15 1100 v.name (i:Int) l (by decide) rfl hl (Q5 x.name) 8 []) (by simp only[QzI,Qz4,Qa,seval]<;>rfl) ?_;simp only[Qa,seval];exact hK _ ⟨(by exact h2),(by exact h3),(by exact h5),(by exact h6),(by exact h7),(by exact h28),(by exact h29),(by exact h30)⟩

include o3 o7 hi hM hv in
theorem sq9 (hK:∀f,QF v i f→K ⟨f,[Qm fr 15 1100 v.name (i:Int) (l++pb v.name (i:Int) (U4 v.meths i x) 11)],[]⟩):Ql Tryz.prog Y1 ⟨f,[Qm fr 15 1100 v.name (i:Int) l],[]⟩ K:=by
 obtain⟨h2,h3,h5,h6,h7,h28,h29,h30⟩:=hf;have c3:∀n l,Qm fr 15 1100 v.name n l 3=fr 3:=fun n l=>QL _ _ _ _ _ _ (by decide) (by decide)
 have c7:∀n l,Qm fr 15 1100 v.name n l 7=fr 7:=fun n l=>QL _ _ _ _ _ _ (by decide) (by decide)
 have hlt:i<v.meths.length:=(Qze.1 hi).1;have hl1:=hv.len1;rw[JP]at o7;rw[JL]at o3;cases i with
 |zero=>
  simp only[Y1,h5,h6,Qa,seval];refine Qb (Xt fr 15 1100 v.name _ l (by decide) rfl hl true 11 []) (by simp only[QzI,Qz4,Qa,seval]<;>rfl) ?_;simp only[Qa,seval];exact hK _ ⟨(by exact h2),(by exact h3),(by exact h5),(by exact h6),(by exact h7),(by exact h28),(by exact h29),(by exact h30)⟩
 |succ j=>
  obtain⟨y,hj⟩:∃y,v.meths[j]? = some y:=⟨v.meths[j]'(by omega),Qzf (by omega)⟩;have hg:(v.meths.map fun n=>AV.agg n.cells)[j]? = some (.agg y.cells):=by rw[QAm,hj];rfl
  have wj:=JC j _ hlt (by simp only[maxLen];omega);have d0:(((j+1:Nat):Int)==0)=false:=by rw[QAO];omega
  have ha:Qx .gtr x.name y.name=some (.bool (Op.bytesLess y.name x.name)):=by rw[←FA];rfl
  rw[JP]at hg;simp only[U4,hj]at hK;simp only[Y1,d0,wj,ha,Qk,QAq,Qc,hg,h3,h5,h6,h7,c3,c7,o3,o7,eE,seval];refine Qb (Xt fr 15 1100 v.name _ l (by decide) rfl hl (Op.bytesLess y.name x.name) 11 []) (by simp only[QzI,Qz4,Qa,seval]<;>rfl) ?_;simp only[Qa,seval];exact hK _ ⟨(by exact h2),(by exact h3),(by exact h5),(by exact h6),(by exact h7),(by exact h28),(by exact h29),(by exact h30)⟩

theorem QvW (a b:Bool)(h9:f 9=.bool a)(h11:f 11=.bool b)(hK:∀f,QF v i f→K ⟨f,[Qm fr 15 1100 v.name (i:Int) (l++pb v.name (i:Int) (a&&b) 12)],[]⟩):Ql Tryz.prog Ul ⟨f,[Qm fr 15 1100 v.name (i:Int) l],[]⟩ K:=by
 obtain⟨h2,h3,h5,h6,h7,h28,h29,h30⟩:=hf;simp only[Ul,h5,h9,Qa,seval];cases a
 ·simp only[Qa,seval];refine Qb (Xt fr 15 1100 v.name (i:Int) l (by decide) rfl hl false 12 []) (by simp only[QzI,Qz4,Qa,seval]<;>rfl) ?_;simp only[Qa,seval];exact hK _ ⟨(by exact h2),(by exact h3),(by exact h5),(by exact h6),(by exact h7),(by exact h28),(by exact h29),(by exact h30)⟩
 ·rw[QAC]at hK;simp only[h11,Qa,seval];refine Qb (Xt fr 15 1100 v.name (i:Int) l (by decide) rfl hl b 12 []) (by simp only[QzI,Qz4,Qa,seval]<;>rfl) ?_;simp only[Qa,seval];exact hK _ ⟨(by exact h2),(by exact h3),(by exact h5),(by exact h6),(by exact h7),(by exact h28),(by exact h29),(by exact h30)⟩

include o7 in
theorem QvX (hK:∀f,QF v i f→K ⟨f,[Qm fr 15 1100 v.name (i:Int) (l++pb v.name (i:Int) (decide (x.shape≥1)&&decide (x.shape≤4)) 1)],[]⟩):Ql Tryz.prog Um ⟨f,[Qm fr 15 1100 v.name (i:Int) l],[]⟩ K:=by
 obtain⟨h2,h3,h5,h6,h7,h28,h29,h30⟩:=hf;have c7:∀n l,Qm fr 15 1100 v.name n l 7=fr 7:=fun n l=>QL _ _ _ _ _ _ (by decide) (by decide)
 rw[JP]at o7;simp only[Um,h5,h7,c7,o7,eE,seval];cases a1:decide (x.shape≥1)
 ·rw[a1]at hK;simp only[Qa,seval];refine Qb (Xt fr 15 1100 v.name (i:Int) l (by decide) rfl hl false 1 []) (by simp only[QzI,Qz4,Qa,seval]<;>rfl) ?_;simp only[Qa,seval];exact hK _ ⟨(by exact h2),(by exact h3),(by exact h5),(by exact h6),(by exact h7),(by exact h28),(by exact h29),(by exact h30)⟩
 ·rw[a1]at hK;simp only[h7,c7,o7,eE,seval];refine Qb (Xt fr 15 1100 v.name (i:Int) l (by decide) rfl hl (decide (x.shape≤4)) 1 []) (by simp only[QzI,Qz4,Qa,seval]<;>rfl) ?_;simp only[Qa,seval];exact hK _ ⟨(by exact h2),(by exact h3),(by exact h5),(by exact h6),(by exact h7),(by exact h28),(by exact h29),(by exact h30)⟩

include o7 hM hv hi in
theorem QvY (hK:∀f,QF v i f→K ⟨f,[Qm fr 15 1100 v.name (i:Int) (l++Xl v.name (i:Int) x.notes 6)],[]⟩):Ql Tryz.prog Un ⟨f,[Qm fr 15 1100 v.name (i:Int) l],[]⟩ K:=by
 obtain⟨h2,h3,h5,h6,h7,h28,h29,h30⟩:=hf;have c7:∀n l,Qm fr 15 1100 v.name n l 7=fr 7:=fun n l=>QL _ _ _ _ _ _ (by decide) (by decide)
 have hx:=hv.meths x (Qzq hi);have hln:=hx.len;rw[JP]at o7;simp only[Un,h5,h7,c7,o7,eE,seval];refine Qb (Y8 fr 15 1100 v.name (i:Int) l (by decide) rfl hl [] x.notes (by simp only[maxLen];omega) hx.notes 6 (by decide)) (by simp only[QzI,Qz4,Qa,seval]<;>rfl) ?_;simp only[Qa,seval];exact hK _ ⟨(by exact h2),(by exact h3),(by exact h5),(by exact h6),(by exact h7),(by exact h28),(by exact h29),(by exact h30)⟩
end

section
variable {M:Nat}(hM:M≤1048576)(S:SC)(hS:S.ok M)(v:SQ)(hv:v.ok M)

include hM hS hv in
theorem Mz (l:List PB)(hl:l.length≤1000000)(n:Int)(f:Fr)(fr:Nat→Ob)(h2:f 2=.ptr 0 2 0)(h3:f 3=.ptr 0 3 0)(h5:f 5=.ptr 0 15 0)(h28:f 28=.list (v.meths.map Cs))(h29:f 29=.int .i64 (v.meths.length:Nat))(h30:f 30=.int .i64 0)
  (o2:fr 2=.cells [.list (S.msgs.map fun n=>.agg n.cells),.list (S.enums.map fun n=>.agg n.cells),.list (S.servs.map fun n=>.agg n.cells)]) (o3:fr 3=.cells v.cells) (o7:∀s∈[7,8,10],fr s=.none) (Q:Exit→St→Prop)
  (hq:∀(f:Fr) (fr:Nat→Ob) (n:Int),f 3=.ptr 0 3 0→f 5=.ptr 0 15 0→fr 3=.cells v.cells→Q (.exit 0) ⟨f,[Qm fr 15 1100 v.name n (l++upto v.meths (Jh S v) v.meths.length)],[]⟩):QE Tryz.prog (.loop VP) ⟨f,[Qm fr 15 1100 v.name n l],[]⟩ Q:=by
 let I:Nat→St→Prop:=fun k st=>∃f fr n i,st=⟨f,[Qm fr 15 1100 v.name n (l++upto v.meths (Jh S v) i)],[]⟩∧k=v.meths.length-i∧i≤v.meths.length∧f 2=.ptr 0 2 0∧f 3=.ptr 0 3 0∧f 5=.ptr 0 15 0∧f 28=.list (v.meths.map Cs)∧f 29=.int .i64 (v.meths.length:Nat)∧f 30=.int .i64 (i:Nat)∧
  fr 2=.cells [.list (S.msgs.map fun n=>.agg n.cells),.list (S.enums.map fun n=>.agg n.cells),.list (S.servs.map fun n=>.agg n.cells)]∧fr 3=.cells v.cells∧∀s∈[7,8,10],(fr s).isRow=false
 obtain⟨l1,_,_⟩:=Zd S hS hM;have hl1:=hv.len1;refine Qe I _ ⟨f,fr,n,0,by rw[upto,Qz6],rfl,Qzl _,h2,h3,h5,h28,h29,h30,o2,o3,fun s hs=>by rw[o7 s hs];rfl⟩ ?_;clear h2 h3 h5 h28 h29 h30 o2 o3 o7;rintro _ st ⟨f0,fr0,n,i,rfl,rfl,hi,h20,h30',h50,h280,h290,h300,Jr,J4,r7⟩;refine QJ (a:=_) [10,8,7] (by
  intro s hs;simp only[QAj,QAT,or_false]at hs;have h1:s≠1100∧s≠15:=by omega
  rw[QL _ _ _ _ _ _ h1.1 h1.2];exact r7 s (by simp only[QAj,QAT,or_false];omega)) ?_
 intro f fr hf hmm hn;have h2:f 2=.ptr 0 2 0:=by rw[hf,h20]<;>rfl
 have h3:f 3=.ptr 0 3 0:=by rw[hf,h30']<;>rfl
 have h5:f 5=.ptr 0 15 0:=by rw[hf,h50]<;>rfl
 have h28:f 28=.list (v.meths.map Cs):=by rw[hf,h280]<;>rfl
 have h29:f 29=.int .i64 (v.meths.length:Nat):=by rw[hf,h290]<;>rfl
 have h30:f 30=.int .i64 (i:Nat):=by rw[hf,h300]<;>rfl
 have o2:fr 2=.cells [.list (S.msgs.map fun n=>.agg n.cells),.list (S.enums.map fun n=>.agg n.cells),.list (S.servs.map fun n=>.agg n.cells)]:=by rw[hmm 2 (by decide),QL _ _ _ _ _ _ (by decide) (by decide),Jr]<;>rfl
 have o3:fr 3=.cells v.cells:=by rw[hmm 3 (by decide),QL _ _ _ _ _ _ (by decide) (by decide),J4]<;>rfl
 have o9:fr 15=.cells [.str v.name,.int .i64 n,.vec 0 1100 (1+(l++upto v.meths (Jh S v) i).length) 0 (l++upto v.meths (Jh S v) i).length false]:=by rw[hmm 15 (by decide),Z6]<;>rfl
 have oR:fr 1100=.vec (1+(l++upto v.meths (Jh S v) i).length) 3 ((l++upto v.meths (Jh S v) i).map PB.av):=by rw[hmm 1100 (by decide),JW _ _ _ _ _ _ (by decide)]<;>rfl
 have n7:=hn 7 (by decide);have n8:=hn 8 (by decide);have n10:=hn 10 (by decide);clear hf hmm hn h20 h30' h50 h280 h290 h300 Jr J4 r7;simp only[VL,h29,h30,Qa,seval];by_cases hlt:i<v.meths.length
 case neg=>
  have ei:i=v.meths.length:=by omega
  subst ei;simp only[QC hlt,Qa,seval];rw[←WJ o9 oR];exact hq _ _ _ (by exact h3) (by exact h5) o3
 obtain⟨x,hx⟩:∃x,v.meths[i]? = some x:=⟨v.meths[i],Qzf hlt⟩;have hg:(v.meths.map Cs)[i]? = some (.agg x.cells):=by rw[QAm,hx];rfl
 rw[JP]at hg;have e1:=Qn i _ hlt (by simp only[maxLen];omega);have hul:=QK (l:=v.meths) (KJ S v) i;have q0:(l++upto v.meths (Jh S v) i).length≤100000000:=by rw[QzM];omega
 simp only[QA hlt,n7,VM,Qk,QAq,Qc,hg,h28,h30,eE,seval];have hfe:Qw fr 7 (.cells [.str x.name,.str x.inn,.str x.out,.int .i64 x.shape,.list (x.notes.map fun n=>.agg n.cells)])=Qm (Qw fr 7 (.cells [.str x.name,.str x.inn,.str x.out,.int .i64 x.shape,.list (x.notes.map fun n=>.agg n.cells)])) 15 1100 v.name n (l++upto v.meths (Jh S v) i):=(WJ (by exact o9) (by exact oR)).symm;rw[hfe];generalize hF:Qw fr 7 (.cells [.str x.name,.str x.inn,.str x.out,.int .i64 x.shape,.list (x.notes.map fun n=>.agg n.cells)])=F;have o2':F 2=.cells [.list (S.msgs.map fun n=>.agg n.cells),.list (S.enums.map fun n=>.agg n.cells),.list (S.servs.map fun n=>.agg n.cells)]:=by rw[←hF];exact(by exact o2)
 have o3':F 3=.cells v.cells:=by rw[←hF];exact(by exact o3)
 have o7':F 7=.cells x.cells:=by rw[←hF,JP];exact(by rfl)
 have n8':F 8=.none:=by rw[←hF];exact(by exact n8)
 have n10':F 10=.none:=by rw[←hF];exact(by exact n10)
 clear hfe hF o2 o3 o9 oR n7 n8 n10;have cs:∀n l,Qm F 15 1100 v.name n l 15=.cells [.str v.name,.int .i64 n,.vec 0 1100 (1+l.length) 0 l.length false]:=fun n l=>Z6 F 15 1100 v.name n l
 have cn:∀n l n',Qw (Qm F 15 1100 v.name n l) 15 (.cells [.str v.name,.int .i64 n',.vec 0 1100 (1+l.length) 0 l.length false])=Qm F 15 1100 v.name n' l:=fun n l n'=>KG F 15 1100 v.name n l n'
 simp only[VN,cs,cn,h5,eE,seval];refine sq8 v i x F o7' _ (by omega) _ ⟨(by exact h2),(by exact h3),(by exact h5),(by rfl),(by rfl),(by exact h28),(by exact h29),(by exact h30)⟩ _ (fun f hf=>?_);have q1:=Qr q0 v.name (i:Int) (Q5 x.name) 8;simp only[Qa,seval];refine sq9 hM v hv i x hx F o3' o7' _ (by omega) f hf _ (fun f hf=>?_);have q2:=Qr q1 v.name (i:Int) (U4 v.meths i x) 11;clear h2 h3 h5 h28 h29 h30;obtain⟨h2,h3,h5,h6,h7,h28,h29,h30⟩:=hf;have hc1:=UB S l1 x.inn;have hc2:=UB S l1 x.out;simp only[QT,SM.cells,SC.av]at hc1 hc2;have c2:∀n l,Qm F 15 1100 v.name n l 2=F 2:=fun n l=>QL _ _ _ _ _ _ (by decide) (by decide)
 have c7:∀n l,Qm F 15 1100 v.name n l 7=F 7:=fun n l=>QL _ _ _ _ _ _ (by decide) (by decide)
 have c8:∀n l,Qm F 15 1100 v.name n l 8=F 8:=fun n l=>QL _ _ _ _ _ _ (by decide) (by decide)
 have c10:∀n l,Qm F 15 1100 v.name n l 10=F 10:=fun n l=>QL _ _ _ _ _ _ (by decide) (by decide)
 have o7s:=o7';rw[JP]at o7s;simp only[D5,c2,c7,o2',o7s,h2,h7,eE,seval];refine aC hc1 ?_;simp only[D6,c2,c7,c8,o2',o7s,n8',h2,h7,eE,seval];refine aC hc2 ?_;simp only[c10,n10',eE,seval];rw[UD (by decide) (by decide),UD (by decide) (by decide)];generalize hF2:Qw (Qw F 8 _) 10 _=F2;have o2'':F2 2=F 2:=by rw[←hF2];exact(by rfl)
 have o3'':F2 3=F 3:=by rw[←hF2];exact(by rfl)
 have o7'':F2 7=F 7:=by rw[←hF2];exact(by rfl)
 have r8:(F2 8).isRow=false:=by rw[←hF2];rfl
 have DZ:(F2 10).isRow=false:=by rw[←hF2];rfl
 clear hF2;refine QvW v i F2 _ (by omega) _ ⟨(by exact h2),(by exact h3),(by exact h5),(by exact h6),(by exact h7),(by exact h28),(by exact h29),(by exact h30)⟩ _ (QS S x.inn) (QS S x.out) (by rfl) (by rfl) (fun f hf=>?_);have q3:=Qr q2 v.name (i:Int) (QS S x.inn&&QS S x.out) 12;simp only[Qa,seval];refine QvX v i x F2 (by rw[o7'',o7']) _ (by omega) f hf _ (fun f hf=>?_);have q4:=Qr q3 v.name (i:Int) (decide (x.shape≥1)&&decide (x.shape≤4)) 1;simp only[Qa,seval];refine QvY hM v hv i x hx F2 (by rw[o7'',o7']) _ (by omega) f hf _ (fun f hf=>?_);clear h2 h3 h5 h6 h7 h28 h29 h30;obtain⟨h2,h3,h5,h6,h7,h28,h29,h30⟩:=hf;simp only[D7,h30,e1,Qa,seval];exact⟨v.meths.length-(i+1),by omega,_,F2,(i:Int),i+1,by rw[XY hx,Ct];simp only[Qzw]<;>rfl,rfl,by omega,(by exact h2),(by exact h3),(by exact h5),(by exact h28),(by exact h29),(by rfl),by rw[o2'',o2'],by rw[o3'',o3'],by
  intro s hs;simp only[QAj,QAT,or_false]at hs;rcases hs with rfl|rfl|rfl
  ·rw[o7'',o7'];rfl
  ·exact r8
  ·exact DZ⟩
end

theorem QvZ {M:Nat}(hM:M≤1048576)(S:SC)(hS:S.ok M)(v:SQ)(hv:v.ok M):Qu Tryz.prog 104 [S.av,Kt v] (.list ((ZV S v).map PB.av)):=by
 have hl1:=hv.len1;have hl2:=hv.len2;have hnl:=hv.name;refine QqZ.fn (by simp) ?_;simp only[Qd0,Qd1,VG,VH,SC.av,Kt,JL v,eE,seval];refine Xb rfl rfl rfl rfl ?_;generalize hb:(Qw (Qw Qh 2 _) 3 _:Nat→Ob)=base;have o2:base 2=.cells [.list (S.msgs.map fun n=>.agg n.cells),.list (S.enums.map fun n=>.agg n.cells),.list (S.servs.map fun n=>.agg n.cells)]:=by rw[←hb];exact(by rfl)
 have o3:base 3=.cells v.cells:=by rw[←hb,JL];exact(by rfl)
 have o7:∀s∈[7,8,10],base s=.none:=by
  intro s hs;rw[←hb];simp only[QAj,QAT,or_false]at hs;rcases hs with rfl|rfl|rfl<;>rfl
 clear hb;have c3:∀n l,Qm base 15 1100 v.name n l 3=base 3:=fun n l=>QL _ _ _ _ _ _ (by decide) (by decide)
 have o3s:=o3;rw[JL]at o3s;rw[Hs base 15 1100 v.name (-1) (by decide)];simp only[VI,c3,o3s,eE,seval];refine aC (Mx v.name (by omega)) ?_
 try simp only[eE,seval]
 refine Qb (Xt base 15 1100 v.name (-1) [] (by decide) rfl (by simp) (Xg v.name) 8 []) (by simp only[QzI,Qz4,Qa,seval]<;>rfl) ?_;have q1:=QR v.name (-1) (Xg v.name) 8;simp only[VJ,c3,o3s,Qzy,QAo,BA,eE,seval];refine Qb (Xt base 15 1100 v.name (-1) _ (by decide) rfl (by omega) (decide (v.meths.length≤64)) 3 []) (by simp only[QzI,Qz4,Qa,seval]<;>rfl) ?_;have q2:=Qr q1 v.name (-1) (decide (v.meths.length≤64)) 3;simp only[VK,c3,o3s,QAo,eE,seval];refine Mz hM S hS v hv _ (by omega) (-1) _ base (by rfl) (by rfl) (by rfl) (by rfl) (by rfl) (by rfl) o2 o3 o7 _ (fun f F n h3 h5 o3=>?_);clear c3 o3s o2 o7;have q3:=QK (l:=v.meths) (KJ S v) v.meths.length;have o3s:=o3;rw[JL]at o3s;have c3:∀n l,Qm F 15 1100 v.name n l 3=F 3:=fun n l=>QL _ _ _ _ _ _ (by decide) (by decide)
 have cs:∀n l,Qm F 15 1100 v.name n l 15=.cells [.str v.name,.int .i64 n,.vec 0 1100 (1+l.length) 0 l.length false]:=fun n l=>Z6 F 15 1100 v.name n l
 have cn:∀n l n',Qw (Qm F 15 1100 v.name n l) 15 (.cells [.str v.name,.int .i64 n',.vec 0 1100 (1+l.length) 0 l.length false])=Qm F 15 1100 v.name n' l:=fun n l n'=>KG F 15 1100 v.name n l n'
 have cR:∀n l,Qm F 15 1100 v.name n l 1100=.vec (1+l.length) 3 (l.map PB.av):=fun n l=>JW F 15 1100 v.name n l (by decide)
 simp only[D8,D9,cs,cn,c3,o3s,h3,h5,eE,seval];generalize hL:pb v.name (-1) (Xg v.name) 8++pb v.name (-1) (decide (v.meths.length≤64)) 3++upto v.meths (Jh S v) v.meths.length=L;have q5:L.length≤10000000:=by
  rw[←hL,QzM];omega
 refine Qb (Y8 F 15 1100 v.name (-1) L (by decide) rfl (by omega) [] v.notes (by simp only[maxLen];omega) hv.notes 5 (by decide)) (by simp only[QzI,Qz4,Qa,seval]<;>rfl) ?_;have hfin:ZV S v=L++Xl v.name (-1) v.notes 5:=by rw[←hL];rfl
 rw[←hfin];have ht:∀l:List PB,List.take l.length (List.map PB.av l)=List.map PB.av l:=fun l=>QzJ (by rw[QAo];exact Qzc _)
 simp only[Fa,cs,cR,h5,QAo,QzQ,ht,QzB,Qzc,Qz7,QAc,AV.un,eE,seval]

theorem BB (a b:List UInt8):Qx .leq a b=some (.bool (!(Op.bytesLess b a))):=by
 rw[←FA a b,QAW];rfl

theorem s99 (L:List (List UInt8))(hl:L.length≤maxLen):Qu Tryz.prog 99 [.list (L.map Qi)] (.bool (XS L Op.bytesLess)):=by
 let I:Nat→St→Prop:=fun k st=>∃f i,st=⟨f,[Qh],[]⟩∧k=L.length-(i+1)∧Q7 (Wt L Op.bytesLess) (i+1)=true∧f 0=.list (L.map Qi)∧f 3=.int .i64 ((i+1:Nat):Int)
 refine k99.fn (by simp) ?_;simp only[Qa,seval];refine Qe I _ ⟨_,0,rfl,rfl,rfl,(by rfl),(by rfl)⟩ ?_;rintro _ st ⟨f,i,rfl,rfl,hx,h0,h3⟩;simp only[QAo,h0,h3,Qa,seval];by_cases hlt:i+1<L.length
 ·obtain⟨x,hi⟩:∃x,L[i]? = some x:=⟨L[i]'(by omega),Qzf (by omega)⟩;obtain⟨y,hj⟩:∃y,L[i+1]? = some y:=⟨L[i+1],Qzf hlt⟩;have hg:(L.map Qi)[i]? = some (.str x):=by simp[hi,Qi]
  have hh:(L.map Qi)[i+1]? = some (.str y):=by simp[hj,Qi]
  have e1:=Qn (i+1) _ hlt hl;have e2:=JC i _ hlt hl;simp only[QA hlt,e2,BB,Qk,QAq,Qc,hg,hh,h0,h3,eE,seval];have hs:Q7 (Wt L Op.bytesLess) (i+2)=Op.bytesLess x y:=by
   show(Q7 (Wt L Op.bytesLess) (i+1)&&Wt L Op.bytesLess (i+1))=_;rw[hx,J6 hi hj,QAC]
  cases hp:Op.bytesLess x y
  ·rw[hp]at hs;have hf:XS L Op.bytesLess=false:=by
    rw[QAH];intro h';rw[QW.2 fun k hk=>QW.1 h' k (by omega)]at hs;cases hs
   simp only[hf,QAb,Qa,seval]
  ·rw[hp]at hs;simp only[h3,e1,QAD,Qa,seval];exact⟨L.length-(i+2),by omega,_,i+1,rfl,rfl,hs,(by exact h0),(by rfl)⟩
 ·have hf:XS L Op.bytesLess=true:=QW.2 fun k hk=>QW.1 hx k (by omega)
  simp only[QC hlt,hf,Qa,seval]

structure Ls (fr:Nat→Ob)(A B C:List (List UInt8)):Prop where
 mk ::
 row:∃a b c,fr 3=.cells [.vec 0 1100 a 0 A.length false,.vec 0 1101 b 0 B.length false,.vec 0 1102 c 0 C.length false]∧fr 1100=.vec a 1 (A.map Qi)∧fr 1101=.vec b 1 (B.map Qi)∧fr 1102=.vec c 1 (C.map Qi)
 res:fr 2=.cells [.nils,.nils,.nils]

section
variable {M:Nat}(hM:M≤1048576)(S:SC)(hS:S.ok M)
include hM hS in
theorem Qv0 (A B C:List (List UInt8))(hABC:A.length≤1048576∧B.length≤1048576∧C.length≤1048576)(f:Fr)(fr:Nat→Ob)(h1:f 1=.ptr 0 1 0)(h3:f 3=.ptr 0 3 0)(h2:f 2=.ptr 0 2 0)(hw:f 11=.list (S.msgs.map QT))(hz:f 12=.int .i64 (S.msgs.length:Nat))(hk:f 13=.int .i64 0)
  (o1:fr 1=.cells [.list (S.msgs.map fun n=>.agg n.cells),.list (S.enums.map fun n=>.agg n.cells),.list (S.servs.map fun n=>.agg n.cells)]) (hL:Ls fr A B C) (r5:∀s∈[5,7,9],(fr s).isRow=false) (Q:Exit→St→Prop)
  (hq:∀(f:Fr) (fr:Nat→Ob) (i:Nat),i=S.msgs.length→f 1=.ptr 0 1 0→f 3=.ptr 0 3 0→f 2=.ptr 0 2 0→fr 1=.cells [.list (S.msgs.map fun n=>.agg n.cells),.list (S.enums.map fun n=>.agg n.cells),.list (S.servs.map fun n=>.agg n.cells)]→Ls fr (A++(S.msgs.take i).map SM.name) B C→(∀s∈[5,7,9],(fr s).isRow=false)→Q (.exit 0) ⟨f,[fr],[]⟩):QE Tryz.prog (.loop Po) ⟨f,[fr],[]⟩ Q:=by
 let I:Nat→St→Prop:=fun k st=>∃f fr i,st=⟨f,[fr],[]⟩∧k=S.msgs.length-i∧i≤S.msgs.length∧f 1=.ptr 0 1 0∧f 3=.ptr 0 3 0∧f 2=.ptr 0 2 0∧f 11=.list (S.msgs.map QT)∧f 12=.int .i64 (S.msgs.length:Nat)∧f 13=.int .i64 (i:Nat)∧
  fr 1=.cells [.list (S.msgs.map fun n=>.agg n.cells),.list (S.enums.map fun n=>.agg n.cells),.list (S.servs.map fun n=>.agg n.cells)]∧Ls fr (A++(S.msgs.take i).map SM.name) B C∧∀s∈[5,7,9],(fr s).isRow=false
 have hl1:=hS.len1;obtain⟨hA,hB,hC⟩:=hABC;refine Qe I _ ⟨f,fr,0,rfl,rfl,Qzl _,h1,h3,h2,hw,hz,hk,o1,by simpa using hL,r5⟩ ?_;clear h1 h3 h2 hw hz hk o1 hL r5;rintro _ st ⟨f0,fr0,i,rfl,rfl,hi,h10,h30,h20,hw0,hz0,hk0,Xk,hL0,r5⟩;refine QJ (a:=_) [5] (by intro s hs;exact r5 s (by simp only[QAj,QAT,or_false]at hs ⊢;omega)) ?_;intro f fr hf hmm hn;have h1:f 1=.ptr 0 1 0:=by rw[hf,h10]<;>rfl
 have h3:f 3=.ptr 0 3 0:=by rw[hf,h30]<;>rfl
 have h2:f 2=.ptr 0 2 0:=by rw[hf,h20]<;>rfl
 have hw:f 11=.list (S.msgs.map QT):=by rw[hf,hw0]<;>rfl
 have hz:f 12=.int .i64 (S.msgs.length:Nat):=by rw[hf,hz0]<;>rfl
 have hk:f 13=.int .i64 (i:Nat):=by rw[hf,hk0]<;>rfl
 have o1:fr 1=.cells [.list (S.msgs.map fun n=>.agg n.cells),.list (S.enums.map fun n=>.agg n.cells),.list (S.servs.map fun n=>.agg n.cells)]:=by rw[hmm 1 (by decide),Xk]<;>rfl
 obtain⟨a,b,c,m30,m00,m10,m20⟩:=hL0.row;have m4:fr 2=.cells [.nils,.nils,.nils]:=by rw[hmm 2 (by decide),hL0.res]<;>rfl
 have m3:fr 3=.cells [.vec 0 1100 a 0 ((A++(S.msgs.take i).map SM.name)).length false,.vec 0 1101 b 0 (B).length false,.vec 0 1102 c 0 (C).length false]:=by rw[hmm 3 (by decide),m30]<;>rfl
 have m0:fr 1100=.vec a 1 (((A++(S.msgs.take i).map SM.name)).map Qi):=by rw[hmm 1100 (by decide),m00]<;>rfl
 have m1:fr 1101=.vec b 1 ((B).map Qi):=by rw[hmm 1101 (by decide),m10]<;>rfl
 have m2:fr 1102=.vec c 1 ((C).map Qi):=by rw[hmm 1102 (by decide),m20]<;>rfl
 have nv:=hn 5 (by decide);have r5':∀s∈[5,7,9],(fr s).isRow=false:=by
  intro s hs;by_cases hsv:s=5
  ·subst hsv;rw[nv];rfl
  ·rw[hmm s (by simp only[QAj,QAT,or_false];exact hsv)];have:=r5 s hs
   revert this
   cases fr0 s<;>intro h<;>first|rfl|exact h
 clear hf hmm hn h10 h30 h20 hw0 hz0 hk0 Xk hL0 r5 m30 m00 m10 m20;simp only[hz,hk,Qa,seval];by_cases hlt:i<S.msgs.length
 case neg=>
  simp only[QC hlt,Qa,seval];exact hq _ _ i (by omega) (by exact h1) (by exact h3) (by exact h2) o1 ⟨⟨a,b,c,m3,m0,m1,m2⟩,m4⟩ r5'
 obtain⟨x,hx⟩:∃x,S.msgs[i]? = some x:=⟨S.msgs[i],Qzf hlt⟩;have hg:(S.msgs.map QT)[i]? = some (.agg x.cells):=by rw[QAm,hx];rfl
 rw[Xo]at hg;have e1:=Qn i _ hlt (by simp only[maxLen];omega);have ht:(S.msgs.take i).length≤i:=by rw[QzZ];omega
 have hsu:(S.msgs.take (i+1)).map SM.name=(S.msgs.take i).map SM.name++[x.name]:=by rw[QAx,hx,QAy,QAw];rfl
 simp only[QA hlt,nv,Qk,QAq,Qc,hg,h3,hw,hk,m3,eE,seval];refine Ze (w:=x.name) rfl ?_;refine QO (xs:=(A++(S.msgs.take i).map SM.name).map Qi) (by rfl) (by exact m0) rfl (by simp) (by rfl) rfl (by simp only[QzM,QAo,Qzr,QAe,maxLen];omega) (by simp only[QzM,QAo,Qzr,QAe];omega) ?_;simp only[h3,hk,m3,e1,Qc,eE,seval];have hs':A++(S.msgs.take (i+1)).map SM.name=(A++(S.msgs.take i).map SM.name)++[x.name]:=by rw[hsu];simp only[Qzw]
 have hm':(A++(S.msgs.take (i+1)).map SM.name).map Qi=(A++(S.msgs.take i).map SM.name).map Qi++[.str x.name]:=by rw[hs',QAw];rfl
 have hn':(A++(S.msgs.take (i+1)).map SM.name).length=(A++(S.msgs.take i).map SM.name).length+1:=by rw[hs',QzM];rfl
 refine⟨S.msgs.length-(i+1),by omega,_,_,i+1,rfl,rfl,by omega,(by exact h1),(by exact h3),(by exact h2),(by exact hw),(by exact hz),(by rfl),(by exact o1),⟨⟨_,_,_,(by rw[hn'];rfl),?_,?_,?_⟩,(by exact m4)⟩,?_⟩
 ·first|(rw[hm'];rfl)|exact m0|simp only[m0,eE,seval]
 ·first|(rw[hm'];rfl)|exact m1|simp only[m1,eE,seval]
 ·first|(rw[hm'];rfl)|exact m2|simp only[m2,eE,seval]
 ·intro s hs;simp only[QAj,QAT,or_false]at hs;rcases hs with rfl|rfl|rfl<;>first|rfl|exact r5' _ (by decide)

include hM hS in
theorem Qv1 (A B C:List (List UInt8))(hABC:A.length≤1048576∧B.length≤1048576∧C.length≤1048576)(f:Fr)(fr:Nat→Ob)(h1:f 1=.ptr 0 1 0)(h3:f 3=.ptr 0 3 0)(h2:f 2=.ptr 0 2 0)(hw:f 26=.list (S.enums.map XC))(hz:f 27=.int .i64 (S.enums.length:Nat))(hk:f 28=.int .i64 0)
  (o1:fr 1=.cells [.list (S.msgs.map fun n=>.agg n.cells),.list (S.enums.map fun n=>.agg n.cells),.list (S.servs.map fun n=>.agg n.cells)]) (hL:Ls fr A B C) (r5:∀s∈[5,7,9],(fr s).isRow=false) (Q:Exit→St→Prop)
  (hq:∀(f:Fr) (fr:Nat→Ob) (i:Nat),i=S.enums.length→f 1=.ptr 0 1 0→f 3=.ptr 0 3 0→f 2=.ptr 0 2 0→fr 1=.cells [.list (S.msgs.map fun n=>.agg n.cells),.list (S.enums.map fun n=>.agg n.cells),.list (S.servs.map fun n=>.agg n.cells)]→Ls fr A (B++(S.enums.take i).map SE.name) C→(∀s∈[5,7,9],(fr s).isRow=false)→Q (.exit 2) ⟨f,[fr],[]⟩):QE Tryz.prog (.loop Pp) ⟨f,[fr],[]⟩ Q:=by
 let I:Nat→St→Prop:=fun k st=>∃f fr i,st=⟨f,[fr],[]⟩∧k=S.enums.length-i∧i≤S.enums.length∧f 1=.ptr 0 1 0∧f 3=.ptr 0 3 0∧f 2=.ptr 0 2 0∧f 26=.list (S.enums.map XC)∧f 27=.int .i64 (S.enums.length:Nat)∧f 28=.int .i64 (i:Nat)∧
  fr 1=.cells [.list (S.msgs.map fun n=>.agg n.cells),.list (S.enums.map fun n=>.agg n.cells),.list (S.servs.map fun n=>.agg n.cells)]∧Ls fr A (B++(S.enums.take i).map SE.name) C∧∀s∈[5,7,9],(fr s).isRow=false
 have hl1:=hS.len2;obtain⟨hA,hB,hC⟩:=hABC;refine Qe I _ ⟨f,fr,0,rfl,rfl,Qzl _,h1,h3,h2,hw,hz,hk,o1,by simpa using hL,r5⟩ ?_;clear h1 h3 h2 hw hz hk o1 hL r5;rintro _ st ⟨f0,fr0,i,rfl,rfl,hi,h10,h30,h20,hw0,hz0,hk0,Xk,hL0,r5⟩;refine QJ (a:=_) [7] (by intro s hs;exact r5 s (by simp only[QAj,QAT,or_false]at hs ⊢;omega)) ?_;intro f fr hf hmm hn;have h1:f 1=.ptr 0 1 0:=by rw[hf,h10]<;>rfl
 have h3:f 3=.ptr 0 3 0:=by rw[hf,h30]<;>rfl
 have h2:f 2=.ptr 0 2 0:=by rw[hf,h20]<;>rfl
 have hw:f 26=.list (S.enums.map XC):=by rw[hf,hw0]<;>rfl
 have hz:f 27=.int .i64 (S.enums.length:Nat):=by rw[hf,hz0]<;>rfl
 have hk:f 28=.int .i64 (i:Nat):=by rw[hf,hk0]<;>rfl
 have o1:fr 1=.cells [.list (S.msgs.map fun n=>.agg n.cells),.list (S.enums.map fun n=>.agg n.cells),.list (S.servs.map fun n=>.agg n.cells)]:=by rw[hmm 1 (by decide),Xk]<;>rfl
 obtain⟨a,b,c,m30,m00,m10,m20⟩:=hL0.row;have m4:fr 2=.cells [.nils,.nils,.nils]:=by rw[hmm 2 (by decide),hL0.res]<;>rfl
 have m3:fr 3=.cells [.vec 0 1100 a 0 (A).length false,.vec 0 1101 b 0 ((B++(S.enums.take i).map SE.name)).length false,.vec 0 1102 c 0 (C).length false]:=by rw[hmm 3 (by decide),m30]<;>rfl
 have m0:fr 1100=.vec a 1 ((A).map Qi):=by rw[hmm 1100 (by decide),m00]<;>rfl
 have m1:fr 1101=.vec b 1 (((B++(S.enums.take i).map SE.name)).map Qi):=by rw[hmm 1101 (by decide),m10]<;>rfl
 have m2:fr 1102=.vec c 1 ((C).map Qi):=by rw[hmm 1102 (by decide),m20]<;>rfl
 have nv:=hn 7 (by decide);have r5':∀s∈[5,7,9],(fr s).isRow=false:=by
  intro s hs;by_cases hsv:s=7
  ·subst hsv;rw[nv];rfl
  ·rw[hmm s (by simp only[QAj,QAT,or_false];exact hsv)];have:=r5 s hs
   revert this
   cases fr0 s<;>intro h<;>first|rfl|exact h
 clear hf hmm hn h10 h30 h20 hw0 hz0 hk0 Xk hL0 r5 m30 m00 m10 m20;simp only[hz,hk,Qa,seval];by_cases hlt:i<S.enums.length
 case neg=>
  simp only[QC hlt,Qa,seval];exact hq _ _ i (by omega) (by exact h1) (by exact h3) (by exact h2) o1 ⟨⟨a,b,c,m3,m0,m1,m2⟩,m4⟩ r5'
 obtain⟨x,hx⟩:∃x,S.enums[i]? = some x:=⟨S.enums[i],Qzf hlt⟩;have hg:(S.enums.map XC)[i]? = some (.agg x.cells):=by rw[QAm,hx];rfl
 rw[XJ]at hg;have e1:=Qn i _ hlt (by simp only[maxLen];omega);have ht:(S.enums.take i).length≤i:=by rw[QzZ];omega
 have hsu:(S.enums.take (i+1)).map SE.name=(S.enums.take i).map SE.name++[x.name]:=by rw[QAx,hx,QAy,QAw];rfl
 simp only[QA hlt,nv,Qk,QAq,Qc,hg,h3,hw,hk,m3,eE,seval];refine Ze (w:=x.name) rfl ?_;refine QO (xs:=(B++(S.enums.take i).map SE.name).map Qi) (by rfl) (by exact m1) rfl (by simp) (by rfl) rfl (by simp only[QzM,QAo,Qzr,QAe,maxLen];omega) (by simp only[QzM,QAo,Qzr,QAe];omega) ?_;simp only[h3,hk,m3,e1,Qc,eE,seval];have hs':B++(S.enums.take (i+1)).map SE.name=(B++(S.enums.take i).map SE.name)++[x.name]:=by rw[hsu];simp only[Qzw]
 have hm':(B++(S.enums.take (i+1)).map SE.name).map Qi=(B++(S.enums.take i).map SE.name).map Qi++[.str x.name]:=by rw[hs',QAw];rfl
 have hn':(B++(S.enums.take (i+1)).map SE.name).length=(B++(S.enums.take i).map SE.name).length+1:=by rw[hs',QzM];rfl
 refine⟨S.enums.length-(i+1),by omega,_,_,i+1,rfl,rfl,by omega,(by exact h1),(by exact h3),(by exact h2),(by exact hw),(by exact hz),(by rfl),(by exact o1),⟨⟨_,_,_,(by rw[hn'];rfl),?_,?_,?_⟩,(by exact m4)⟩,?_⟩
 ·first|(rw[hm'];rfl)|exact m0|simp only[m0,eE,seval]
 ·first|(rw[hm'];rfl)|exact m1|simp only[m1,eE,seval]
 ·first|(rw[hm'];rfl)|exact m2|simp only[m2,eE,seval]
 ·intro s hs;simp only[QAj,QAT,or_false]at hs;rcases hs with rfl|rfl|rfl<;>first|rfl|exact r5' _ (by decide)

include hM hS in
theorem Qv2 (A B C:List (List UInt8))(hABC:A.length≤1048576∧B.length≤1048576∧C.length≤1048576)(f:Fr)(fr:Nat→Ob)(h1:f 1=.ptr 0 1 0)(h3:f 3=.ptr 0 3 0)(h2:f 2=.ptr 0 2 0)(hw:f 41=.list (S.servs.map Kt))(hz:f 42=.int .i64 (S.servs.length:Nat))(hk:f 43=.int .i64 0)
  (o1:fr 1=.cells [.list (S.msgs.map fun n=>.agg n.cells),.list (S.enums.map fun n=>.agg n.cells),.list (S.servs.map fun n=>.agg n.cells)]) (hL:Ls fr A B C) (r5:∀s∈[5,7,9],(fr s).isRow=false) (Q:Exit→St→Prop)
  (hq:∀(f:Fr) (fr:Nat→Ob) (i:Nat),i=S.servs.length→f 1=.ptr 0 1 0→f 3=.ptr 0 3 0→f 2=.ptr 0 2 0→fr 1=.cells [.list (S.msgs.map fun n=>.agg n.cells),.list (S.enums.map fun n=>.agg n.cells),.list (S.servs.map fun n=>.agg n.cells)]→Ls fr A B (C++(S.servs.take i).map SQ.name)→(∀s∈[5,7,9],(fr s).isRow=false)→Q (.exit 4) ⟨f,[fr],[]⟩):QE Tryz.prog (.loop Pq) ⟨f,[fr],[]⟩ Q:=by
 let I:Nat→St→Prop:=fun k st=>∃f fr i,st=⟨f,[fr],[]⟩∧k=S.servs.length-i∧i≤S.servs.length∧f 1=.ptr 0 1 0∧f 3=.ptr 0 3 0∧f 2=.ptr 0 2 0∧f 41=.list (S.servs.map Kt)∧f 42=.int .i64 (S.servs.length:Nat)∧f 43=.int .i64 (i:Nat)∧
  fr 1=.cells [.list (S.msgs.map fun n=>.agg n.cells),.list (S.enums.map fun n=>.agg n.cells),.list (S.servs.map fun n=>.agg n.cells)]∧Ls fr A B (C++(S.servs.take i).map SQ.name)∧∀s∈[5,7,9],(fr s).isRow=false
 have hl1:=hS.len3;obtain⟨hA,hB,hC⟩:=hABC;refine Qe I _ ⟨f,fr,0,rfl,rfl,Qzl _,h1,h3,h2,hw,hz,hk,o1,by simpa using hL,r5⟩ ?_;clear h1 h3 h2 hw hz hk o1 hL r5;rintro _ st ⟨f0,fr0,i,rfl,rfl,hi,h10,h30,h20,hw0,hz0,hk0,Xk,hL0,r5⟩;refine QJ (a:=_) [9] (by intro s hs;exact r5 s (by simp only[QAj,QAT,or_false]at hs ⊢;omega)) ?_;intro f fr hf hmm hn;have h1:f 1=.ptr 0 1 0:=by rw[hf,h10]<;>rfl
 have h3:f 3=.ptr 0 3 0:=by rw[hf,h30]<;>rfl
 have h2:f 2=.ptr 0 2 0:=by rw[hf,h20]<;>rfl
 have hw:f 41=.list (S.servs.map Kt):=by rw[hf,hw0]<;>rfl
 have hz:f 42=.int .i64 (S.servs.length:Nat):=by rw[hf,hz0]<;>rfl
 have hk:f 43=.int .i64 (i:Nat):=by rw[hf,hk0]<;>rfl
 have o1:fr 1=.cells [.list (S.msgs.map fun n=>.agg n.cells),.list (S.enums.map fun n=>.agg n.cells),.list (S.servs.map fun n=>.agg n.cells)]:=by rw[hmm 1 (by decide),Xk]<;>rfl
 obtain⟨a,b,c,m30,m00,m10,m20⟩:=hL0.row;have m4:fr 2=.cells [.nils,.nils,.nils]:=by rw[hmm 2 (by decide),hL0.res]<;>rfl
 have m3:fr 3=.cells [.vec 0 1100 a 0 (A).length false,.vec 0 1101 b 0 (B).length false,.vec 0 1102 c 0 ((C++(S.servs.take i).map SQ.name)).length false]:=by rw[hmm 3 (by decide),m30]<;>rfl
 have m0:fr 1100=.vec a 1 ((A).map Qi):=by rw[hmm 1100 (by decide),m00]<;>rfl
 have m1:fr 1101=.vec b 1 ((B).map Qi):=by rw[hmm 1101 (by decide),m10]<;>rfl
 have m2:fr 1102=.vec c 1 (((C++(S.servs.take i).map SQ.name)).map Qi):=by rw[hmm 1102 (by decide),m20]<;>rfl
 have nv:=hn 9 (by decide);have r5':∀s∈[5,7,9],(fr s).isRow=false:=by
  intro s hs;by_cases hsv:s=9
  ·subst hsv;rw[nv];rfl
  ·rw[hmm s (by simp only[QAj,QAT,or_false];exact hsv)];have:=r5 s hs
   revert this
   cases fr0 s<;>intro h<;>first|rfl|exact h
 clear hf hmm hn h10 h30 h20 hw0 hz0 hk0 Xk hL0 r5 m30 m00 m10 m20;simp only[hz,hk,Qa,seval];by_cases hlt:i<S.servs.length
 case neg=>
  simp only[QC hlt,Qa,seval];exact hq _ _ i (by omega) (by exact h1) (by exact h3) (by exact h2) o1 ⟨⟨a,b,c,m3,m0,m1,m2⟩,m4⟩ r5'
 obtain⟨x,hx⟩:∃x,S.servs[i]? = some x:=⟨S.servs[i],Qzf hlt⟩;have hg:(S.servs.map Kt)[i]? = some (.agg x.cells):=by rw[QAm,hx];rfl
 rw[JL]at hg;have e1:=Qn i _ hlt (by simp only[maxLen];omega);have ht:(S.servs.take i).length≤i:=by rw[QzZ];omega
 have hsu:(S.servs.take (i+1)).map SQ.name=(S.servs.take i).map SQ.name++[x.name]:=by rw[QAx,hx,QAy,QAw];rfl
 simp only[QA hlt,nv,Qk,QAq,Qc,hg,h3,hw,hk,m3,eE,seval];refine Ze (w:=x.name) rfl ?_;refine QO (xs:=(C++(S.servs.take i).map SQ.name).map Qi) (by rfl) (by exact m2) rfl (by simp) (by rfl) rfl (by simp only[QzM,QAo,Qzr,QAe,maxLen];omega) (by simp only[QzM,QAo,Qzr,QAe];omega) ?_;simp only[h3,hk,m3,e1,Qc,eE,seval];have hs':C++(S.servs.take (i+1)).map SQ.name=(C++(S.servs.take i).map SQ.name)++[x.name]:=by rw[hsu];simp only[Qzw]
 have hm':(C++(S.servs.take (i+1)).map SQ.name).map Qi=(C++(S.servs.take i).map SQ.name).map Qi++[.str x.name]:=by rw[hs',QAw];rfl
 have hn':(C++(S.servs.take (i+1)).map SQ.name).length=(C++(S.servs.take i).map SQ.name).length+1:=by rw[hs',QzM];rfl
 refine⟨S.servs.length-(i+1),by omega,_,_,i+1,rfl,rfl,by omega,(by exact h1),(by exact h3),(by exact h2),(by exact hw),(by exact hz),(by rfl),(by exact o1),⟨⟨_,_,_,(by rw[hn'];rfl),?_,?_,?_⟩,(by exact m4)⟩,?_⟩
 ·first|(rw[hm'];rfl)|exact m0|simp only[m0,eE,seval]
 ·first|(rw[hm'];rfl)|exact m1|simp only[m1,eE,seval]
 ·first|(rw[hm'];rfl)|exact m2|simp only[m2,eE,seval]
 ·intro s hs;simp only[QAj,QAT,or_false]at hs;rcases hs with rfl|rfl|rfl<;>first|rfl|exact r5' _ (by decide)

include hM hS in
theorem s97:Qu Tryz.prog 97 [S.av] (.agg [.list ((S.msgs.map SM.name).map Qi),.list ((S.enums.map SE.name).map Qi),.list ((S.servs.map SQ.name).map Qi)]):=by
 have l1:=hS.len1;have l2:=hS.len2;have l3:=hS.len3;refine k97.fn (by simp) ?_;simp only[SC.av,eE,seval];refine Xb rfl rfl rfl rfl ?_;refine Xb rfl rfl rfl rfl ?_;refine Xb rfl rfl rfl rfl ?_;simp only[QAo,eE,seval];refine Qv0 hM S hS [] [] [] ⟨by simp,by simp,by simp⟩ _ _ (by rfl) (by rfl) (by rfl) (by rfl) (by rfl) (by rfl) (by rfl) ⟨⟨1,1,1,rfl,rfl,rfl,rfl⟩,rfl⟩ (by
  intro s hs;simp only[QAj,QAT,or_false]at hs;rcases hs with rfl|rfl|rfl<;>rfl) _ (fun f fr i hi h1 h3 h2 o1 hL r5=>?_)
 subst hi;rw[Qzy,QAv]at hL;simp only[h1,o1,QAo,eE,seval];refine Qv1 hM S hS _ [] [] ⟨by rw[QAo];omega,by simp,by simp⟩ _ _ (by exact h1) (by exact h3) (by exact h2) (by rfl) (by rfl) (by rfl) o1 hL r5 _ (fun f fr i hi h1 h3 h2 o1 hL r5=>?_);subst hi;rw[Qzy,QAv]at hL;simp only[h1,o1,QAo,eE,seval];refine Qv2 hM S hS _ _ [] ⟨by rw[QAo];omega,by rw[QAo];omega,by simp⟩ _ _ (by exact h1) (by exact h3) (by exact h2) (by rfl) (by rfl) (by rfl) o1 hL r5 _ (fun f fr i hi h1 h3 h2 o1 hL r5=>?_);subst hi;rw[Qzy,QAv]at hL;obtain⟨a,b,c,m3,m0,m1,m2⟩:=hL.row;have ht:∀l:List (List UInt8),List.take l.length (List.map Qi l)=List.map Qi l:=fun l=>QzJ (by rw[QAo];exact Qzc _)
 have m4:=hL.res;simp only[h3,h2,m3,m0,m1,m2,m4,QzB,Qzc,Qz7,QAo,QzQ,AV.un,eE,seval];rw[show List.take S.msgs.length (List.map Qi (List.map SM.name S.msgs))=List.map Qi (List.map SM.name S.msgs)from QzJ (by simp),show List.take S.enums.length (List.map Qi (List.map SE.name S.enums))=List.map Qi (List.map SE.name S.enums)from QzJ (by simp),show List.take S.servs.length (List.map Qi (List.map SQ.name S.servs))=List.map Qi (List.map SQ.name S.servs)from QzJ (by simp)]
end

theorem Qv3 {k:Nat}(h:k<1):decide ((k:Int)<1)=true:=QAM (by omega)
theorem Qv4 {k:Nat}(h:k<2):decide ((k:Int)<2)=true:=QAM (by omega)
def Kz (A B C:List (List UInt8)):Nat→List (List UInt8)
 |0=>A
 |1=>B
 |_=>C

section
variable (A B C:List (List UInt8))(hA:A.length≤maxLen)(hB:B.length≤maxLen)(hC:C.length≤maxLen)

theorem Qv5 (k:Nat)(hk:k<3)(hl:(Kz A B C k).length≤maxLen)(fr:Nat→Ob)(o1:fr 1=.cells [.list (A.map Qi),.list (B.map Qi),.list (C.map Qi)])(o4:fr 4=.cells [.int .i64 (k:Nat)])(n:List UInt8) :
  Qq Tryz.prog 147 [Qi n,.ptr 2 1 0,.ptr 2 4 0] [Qh,Qh,fr] fun y m1=>y=.bool ((Kz A B C k).contains n)∧m1=[Qh,Qh,fr]:=by
 have hc:=s36 _ hl n;have hlt:decide ((k:Int)<3)=true:=QAM (by omega);refine Qr1.go (by simp) ?_;have hk3:k=0∨k=1∨k=2:=by omega
 rcases hk3 with rfl|rfl|rfl <;>
 ·simp only[Qi,o1,o4,Qc,eE,seval];refine aC hc ?_;simp only[Qa,seval]

def W0 (A B C:List (List UInt8))(i k:Nat):Bool:=(Kz A B C i).any fun s=>(Kz A B C k).contains s
def WC (A B C:List (List UInt8)):Bool:=!W0 A B C 1 0 && !W0 A B C 2 0 && !W0 A B C 2 1

include hA hB hC in
theorem Dg (k:Nat):(Kz A B C k).length≤maxLen:=by
 unfold Kz;split<;>assumption

include hA hB hC in
theorem Qo7 (i:Nat)(hi:i<3)(f:Fr)(fr:Nat→Ob)(h1:f 1=.ptr 0 1 0)(h3:f 3=.int .i64 (i:Nat))(h5:f 5=.int .i64 (i:Nat))(h8:f 8=.int .i64 (i:Nat))(h9:f 9=.int .i64 0)(o1:fr 1=.cells [.list (A.map Qi),.list (B.map Qi),.list (C.map Qi)])(r4:(fr 4).isRow=false)(Q:Exit→St→Prop)
  (hq:∀(f:Fr) (fr:Nat→Ob),(∀k,k<i→W0 A B C i k=false)→f 1=.ptr 0 1 0→f 5=.int .i64 (i:Nat)→fr 1=.cells [.list (A.map Qi),.list (B.map Qi),.list (C.map Qi)]→(fr 4).isRow=false→Q (.exit 2) ⟨f,[fr],[]⟩)
  (hr:∀(f:Fr) (fr:Nat→Ob) (k:Nat),k<i→W0 A B C i k=true→f 2=.bool false→Q .ret ⟨f,[fr],[]⟩):QE Tryz.prog (.loop NM) ⟨f,[fr],[]⟩ Q:=by
 let I:Nat→St→Prop:=fun n st=>∃f fr k,st=⟨f,[fr],[]⟩∧n=i-k∧k≤i∧(∀j,j<k→W0 A B C i j=false)∧f 1=.ptr 0 1 0∧f 3=.int .i64 (i:Nat)∧f 5=.int .i64 (i:Nat)∧f 8=.int .i64 (i:Nat)∧f 9=.int .i64 (k:Nat)∧fr 1=.cells [.list (A.map Qi),.list (B.map Qi),.list (C.map Qi)]∧(fr 4).isRow=false
 refine Qe I _ ⟨f,fr,0,rfl,rfl,Qzl _,fun j hj=>by omega,h1,h3,h5,h8,h9,o1,r4⟩ ?_;clear h1 h3 h5 h8 h9 o1 r4;rintro _ st ⟨f0,fr0,k,rfl,rfl,hk,hal,h10,h30,h50,h80,h90,Xk,r4⟩;refine QJ (a:=_) [4] (by intro s hs;simp only[QAj,QAT,or_false]at hs;subst hs;exact r4) ?_;intro f fr hf hmm hn;have h1:f 1=.ptr 0 1 0:=by rw[hf,h10]<;>rfl
 have h3:f 3=.int .i64 (i:Nat):=by rw[hf,h30]<;>rfl
 have h5:f 5=.int .i64 (i:Nat):=by rw[hf,h50]<;>rfl
 have h8:f 8=.int .i64 (i:Nat):=by rw[hf,h80]<;>rfl
 have h9:f 9=.int .i64 (k:Nat):=by rw[hf,h90]<;>rfl
 have o1:fr 1=.cells [.list (A.map Qi),.list (B.map Qi),.list (C.map Qi)]:=by rw[hmm 1 (by decide),Xk]<;>rfl
 have n4:=hn 4 (by decide);clear hf hmm hn h10 h30 h50 h80 h90 Xk r4;simp only[h8,h9,Qa,seval];by_cases hlt:k<i
 case neg=>
  have e:k=i:=by omega
  subst e;simp only[QC hlt,Qa,seval];exact hq _ _ hal (by exact h1) (by exact h5) o1 (by rw[n4];rfl)
 have e1:=Qn k _ hlt (by simp only[maxLen];omega);have hcc:∀F:Nat→Ob,F 1=.cells [.list (A.map Qi),.list (B.map Qi),.list (C.map Qi)]→F 4=.cells [.int .i64 (k:Nat)]→Qq Tryz.prog 133 [.list ((Kz A B C i).map Qi),.fn (.func 147) [] [.ptr 0 1 0,.ptr 0 4 0]] [F] fun y m1=>y=.bool (W0 A B C i k)∧m1=[F] :=
  fun F g1 g4=>Bs (Kz A B C i) (Dg A B C hA hB hC i) (fun s=>(Kz A B C k).contains s) 147 [.ptr 0 1 0,.ptr 0 4 0] [F] fun o _=>Qv5 A B C k (by omega) (Dg A B C hA hB hC k) F g1 g4 o
 have hi3:i=1∨i=2:=by omega
 rcases hi3 with rfl|rfl <;>
 ·first
   |simp only[Qv3 hlt,n4,o1,Qc,h1,h3,h9,eE,seval]
   |simp only[Qv4 hlt,n4,o1,Qc,h1,h3,h9,eE,seval]
  refine Qb (hcc _ (by exact o1) (by rfl)) (by simp only[QzI,Qz4,h1,Kz,Qa,seval]<;>rfl) ?_;cases ha:W0 A B C _ k
  ·simp only[h9,e1,Qa,seval];exact⟨_,by omega,_,_,k+1,rfl,rfl,by omega,fun j hj=>(by rcases QAG.1 hj with h|rfl;exact hal j h;exact ha),(by exact h1),(by exact h3),(by exact h5),(by exact h8),(by rfl),(by exact o1),rfl⟩
  ·simp only[Qa,seval];exact hr _ _ k hlt ha (by rfl)

include hA hB hC in
theorem Qv6:Qu Tryz.prog 100 [.agg [.list (A.map Qi),.list (B.map Qi),.list (C.map Qi)]] (.bool (WC A B C)):=by
 let I:Nat→St→Prop:=fun n st=>∃f fr i,st=⟨f,[fr],[]⟩∧n=3-i∧i≤3∧(∀j,j<i→∀k,k<j→W0 A B C j k=false)∧f 1=.ptr 0 1 0∧f 5=.int .i64 (i:Nat)∧fr 1=.cells [.list (A.map Qi),.list (B.map Qi),.list (C.map Qi)]∧(fr 4).isRow=false
 refine IC.fn (by simp) ?_;simp only[eE,seval];refine Qe I _ ⟨_,_,0,rfl,rfl,by omega,fun j hj=>by omega,(by rfl),(by rfl),(by rfl),rfl⟩ ?_;rintro _ st ⟨f0,fr0,i,rfl,rfl,hi,hal,h10,h50,Xk,r4⟩;refine QJ (a:=_) [4] (by intro s hs;simp only[QAj,QAT,or_false]at hs;subst hs;exact r4) ?_;intro f fr hf hmm hn;have h1:f 1=.ptr 0 1 0:=by rw[hf,h10]<;>rfl
 have h5:f 5=.int .i64 (i:Nat):=by rw[hf,h50]<;>rfl
 have o1:fr 1=.cells [.list (A.map Qi),.list (B.map Qi),.list (C.map Qi)]:=by rw[hmm 1 (by decide),Xk]<;>rfl
 have n4:=hn 4 (by decide);clear hf hmm hn h10 h50 Xk r4;simp only[h5,Qa,seval];by_cases hlt:i<3
 case neg=>
  have e:i=3:=by omega
  subst e;have d:decide (((3:Nat):Int)<3)=false:=rfl;have hap:WC A B C=true:=by
   unfold WC;rw[hal 1 (by omega) 0 (by omega),hal 2 (by omega) 0 (by omega),hal 2 (by omega) 1 (by omega)];rfl
  simp only[hap,Qa,seval]
 have d:decide ((i:Int)<3)=true:=QAM (by omega);have e1:=Qn i 3 hlt (by simp only[maxLen];omega);simp only[d,h5,Qa,seval];refine Qo7 A B C hA hB hC i hlt _ _ (by exact h1) (by rfl) (by exact h5) (by rfl) (by rfl) o1 (by rw[n4];rfl) _ (fun f fr hk h1 h5 o1 r4=>?_) (fun f fr k hk ha h2=>?_)
 ·simp only[h5,e1,Qa,seval];exact⟨3-(i+1),by omega,_,_,i+1,rfl,rfl,by omega,fun j hj=>(by rcases QAG.1 hj with h|rfl;exact hal j h;exact hk),(by exact h1),(by rfl),o1,r4⟩
 ·have hap:WC A B C=false:=by
   unfold WC;have h3:(i=1∧k=0)∨(i=2∧k=0)∨(i=2∧k=1):=by omega
   rcases h3 with⟨rfl,rfl⟩|⟨rfl,rfl⟩|⟨rfl,rfl⟩<;>rw[ha]<;>simp
  simp only[h2,hap,Qa,seval]
end

theorem Cu (S:SC):WC (S.msgs.map SM.name) (S.enums.map SE.name) (S.servs.map SQ.name)=Z7 S:=by
 have key:∀ {α β:Type} (l:List α) (r:List β) (f:α→List UInt8) (g:β→List UInt8),((l.map f).any fun s=>(r.map g).contains s)=l.any fun x=>r.any fun y=>g y==f x:=by
  intro α β l r f g;rw[List.any_map];congr 1
  funext x;show(r.map g).contains (f x)=_;rw[←Fz,List.any_map];rfl
 unfold WC Z7 W0;show(!((S.enums.map SE.name).any fun s=>(S.msgs.map SM.name).contains s) && !((S.servs.map SQ.name).any fun s=>(S.msgs.map SM.name).contains s) && !((S.servs.map SQ.name).any fun s=>(S.enums.map SE.name).contains s))=_;rw[key,key,key]

theorem WK {M:Nat}(hM:M≤1048576)(S:SC)(cy:SM→Bool)(m:SM)(hm:m.ok M):(ZO S cy m).length≤14000000:=by
 have h1:=hm.len1;have h2:=hm.len2;have h3:=hm.len3;have a:=QR m.name (-1) (Xg m.name) 8;have b:=QR m.name (-1) (decide (m.fields.length≤64)&&decide (m.free.length≤16)&&decide (m.gone.length≤16)) 3;have c:=QK (l:=m.fields) (KH S m) m.fields.length;have d:=QK (l:=m.free) (Ji m.name 1 65535 m.free) m.free.length;have e:=QK (l:=m.gone) (g:=fun _ g=>pb m.name (-1) (Z2 g) 7) (c:=1) (fun _ g=>QR ..) m.gone.length;have f:=QR m.name (-1) (XT m.notes 1==0) (XT m.notes 1);have g:=QR m.name (-1) (!cy m) 19;unfold ZO Xl;simp only[QzM];omega
theorem WL {M:Nat}(hM:M≤1048576)(e:SE)(he:e.ok M):(ZK e).length≤14000000:=by
 have h1:=he.len1;have h2:=he.len2;have a:=QR e.name (-1) (Xg e.name) 8;have b:=QR e.name (-1) (decide (e.items.length≥1)&&decide (e.items.length≤64)&&decide (e.free.length≤16)) 3;have b2:=QR e.name (-1) (Zn e) 14;have c:=QK (l:=e.items) (KI e) e.items.length;have d:=QK (l:=e.free) (Ji e.name 0 2147483647 e.free) e.free.length;have f:=QR e.name (-1) (XT e.notes 3==0) (XT e.notes 3);unfold ZK Xl;simp only[QzM];omega
theorem FB {M:Nat}(hM:M≤1048576)(S:SC)(v:SQ)(hv:v.ok M):(ZV S v).length≤14000000:=by
 have h1:=hv.len1;have a:=QR v.name (-1) (Xg v.name) 8;have b:=QR v.name (-1) (decide (v.meths.length≤64)) 3;have c:=QK (l:=v.meths) (KJ S v) v.meths.length;have f:=QR v.name (-1) (XT v.notes 5==0) (XT v.notes 5);unfold ZV Xl;simp only[QzM];omega
theorem UE (l:List PB):(l.map PB.av).all (fun e=>e.cells.length==3)=true:=by
 rw[Qzp];intro x hx;obtain⟨y,_,rfl⟩:=QAk.1 hx;rfl

theorem Zp (l:List (List UInt8)):(ZQ l).length≤2:=by
 have a:=QR [] (-1) (decide (l.length≤64)) 3;have b:=QR [] (-1) (XS l Op.bytesLess) 11;unfold ZQ;rw[QzM];omega
def Z4 (A B C:List (List UInt8)):Nat→List PB
 |0=>[]
 |1=>ZQ A
 |2=>ZQ A++ZQ B
 |_=>ZQ A++ZQ B++ZQ C

section
variable (A B C:List (List UInt8))(hA:A.length≤1048576)(hB:B.length≤1048576)(hC:C.length≤1048576)(base:Nat→Ob)
def AF (f:Fr):Prop:=f 1=.ptr 0 1 0∧f 3=.ptr 0 15 0∧f 4=.ptr 0 4 0

include hA hB hC in
theorem Qv7 (f:Fr)(hf:AF f)(h18:f 18=.agg [.list (A.map Qi),.list (B.map Qi),.list (C.map Qi)])(h19:f 19=.int .i64 0)(Q:Exit→St→Prop)
  (hq:∀f,AF f→Q (.exit 0) ⟨f,[Qm base 15 1100 [] (-1) (Z4 A B C 3)],[]⟩):QE Tryz.prog (.loop Bc) ⟨f,[Qm base 15 1100 [] (-1) []],[]⟩ Q:=by
 let I:Nat→St→Prop:=fun n st=>∃f i,st=⟨f,[Qm base 15 1100 [] (-1) (Z4 A B C i)],[]⟩∧n=3-i∧i≤3∧AF f∧f 18=.agg [.list (A.map Qi),.list (B.map Qi),.list (C.map Qi)]∧f 19=.int .i64 (i:Nat)
 refine Qe I _ ⟨f,0,rfl,rfl,by omega,hf,h18,h19⟩ ?_;clear hf h18 h19;rintro _ st ⟨f,i,rfl,rfl,hi,⟨h1,h3,h4⟩,h18,h19⟩;simp only[Bc,Pj,h19,Qa,seval];by_cases hlt:i<3
 case neg=>
  have e:i=3:=by omega
  subst e;have d:decide (((3:Nat):Int)<3)=false:=rfl;simp only[Qa,seval];exact hq _ ⟨(by exact h1),(by exact h3),(by exact h4)⟩
 have d:decide ((i:Int)<3)=true:=QAM (by omega);have e1:=Qn i 3 hlt (by simp only[maxLen];omega);have key:∀(L:List (List UInt8)) (hL:L.length≤1048576) (p:List PB) (hp:p.length≤100) (hs:Z4 A B C (i+1)=p++ZQ L) (f:Fr) (h1:f 1=.ptr 0 1 0) (h3:f 3=.ptr 0 15 0) (h4:f 4=.ptr 0 4 0) (h18:f 18=.agg [.list (A.map Qi),.list (B.map Qi),.list (C.map Qi)]) (h19:f 19=.int .i64 (i:Nat)) (h6:f 6=.list (L.map Qi)),
   Ql Tryz.prog F9 ⟨f,[Qm base 15 1100 [] (-1) p],[]⟩ (Kc Tryz.prog (.reg Ba) (Kb 1 (Kc Tryz.prog (.reg Bb) (Kl I (3-i) Q))) Exit.normal):=by
  intro L hL p hp hs f h1 h3 h4 h18 h19 h6;simp only[F9,h3,h6,QAo,BA,Qa,seval];refine Qb (Xt base 15 1100 [] (-1) p (by decide) rfl (by omega) (decide (L.length≤64)) 3 []) (by simp only[QzI,Qz4,Qa,seval]<;>rfl) ?_;simp only[Ba,h3,h6,Qa,seval];refine aC (s99 L (by simp only[maxLen];omega)) ?_
  try simp only[eE,seval]
  have q1:=Qr hp [] (-1) (decide (L.length≤64)) 3;refine Qb (Xt base 15 1100 [] (-1) _ (by decide) rfl (by omega) (XS L Op.bytesLess) 11 []) (by simp only[QzI,Qz4,Qa,seval]<;>rfl) ?_;simp only[Bb,h19,e1,Qa,seval];exact⟨3-(i+1),by omega,_,i+1,by rw[hs,ZQ,Qzw],rfl,by omega,⟨(by exact h1),(by exact h3),(by exact h4)⟩,(by exact h18),(by rfl)⟩
 rcases(show i=0∨i=1∨i=2 by omega)with rfl|rfl|rfl
 ·simp only[Hh,h18,h19,Qa,seval];refine key A hA [] (by simp) rfl _ (by exact h1) (by exact h3) (by exact h4) (by exact h18) (by exact h19) (by rfl)
 ·simp only[Hh,h18,h19,Qa,seval];refine key B hB (ZQ A) (by have:=Zp A;omega) rfl _ (by exact h1) (by exact h3) (by exact h4) (by exact h18) (by exact h19) (by rfl)
 ·simp only[Hh,h18,h19,Qa,seval];refine key C hC (ZQ A++ZQ B) (by have:=Zp A;have:=Zp B;simp only[QzM];omega) rfl _ (by exact h1) (by exact h3) (by exact h4) (by exact h18) (by exact h19) (by rfl)
end

theorem X0 {α β:Type}{l:List α}{g:α→List β}{i:Nat}{x:α}(h:l[i]? = some x):(l.take (i+1)).flatMap g=(l.take i).flatMap g++g x:=by
 rw[QAx,h,QAy,List.flatMap_append,List.flatMap_cons,List.flatMap_nil,Qz6]
theorem ZR {α β:Type}{l:List α}{g:α→List β}{c:Nat}(h:∀x∈l,(g x).length≤c):∀n,((l.take n).flatMap g).length≤c*n
 |0=>by simp
 |n+1=>by
  have ih:=ZR h n;rw[Nat.mul_add];cases hx:l[n]? with
  |none=>
   rw[QAx,hx,Option.toList_none,Qz6];omega
  |some x=>
   have:=h x (Qzq hx);rw[X0 hx,QzM];omega
def AR (fr:Nat→Ob)(L:List PB):Prop:=∃g,fr 15=.cells [.str [],.int .i64 (-1),.vec 0 1100 g 0 L.length false]∧fr 1100=.vec g 3 (L.map PB.av)

section
variable {M:Nat}(hM:M≤1048576)(S:SC)(hS:S.ok M)(X:List (List UInt8))
include hM hS in
theorem Qv8 (l:List PB)(hl:l.length≤1000000000)(h8:S.msgs.length≤8)(f:Fr)(fr:Nat→Ob)(h1:f 1=.ptr 0 1 0)(h3:f 3=.ptr 0 15 0)(h7:f 7=.mp X (Q8 X))(hw:f 39=.list (S.msgs.map QT))(hz:f 40=.int .i64 (S.msgs.length:Nat))(hk:f 41=.int .i64 0)
  (o1:fr 1=.cells [.list (S.msgs.map fun n=>.agg n.cells),.list (S.enums.map fun n=>.agg n.cells),.list (S.servs.map fun n=>.agg n.cells)]) (hA:AR fr l) (rv:∀s∈[9,11,13],(fr s).isRow=false) (Q:Exit→St→Prop)
  (hq:∀(f:Fr) (fr:Nat→Ob),f 1=.ptr 0 1 0→f 3=.ptr 0 15 0→f 7=.mp X (Q8 X)→fr 1=.cells [.list (S.msgs.map fun n=>.agg n.cells),.list (S.enums.map fun n=>.agg n.cells),.list (S.servs.map fun n=>.agg n.cells)]→AR fr (l++S.msgs.flatMap (ZO S (fun m=>(XU m).any fun n=>QS S n && !X.contains n)))→(∀s∈[9,11,13],(fr s).isRow=false)→Q (.exit 2) ⟨f,[fr],[]⟩):QE Tryz.prog (.loop Pl) ⟨f,[fr],[]⟩ Q:=by
 let I:Nat→St→Prop:=fun n st=>∃f fr i,st=⟨f,[fr],[]⟩∧n=S.msgs.length-i∧i≤S.msgs.length∧f 1=.ptr 0 1 0∧f 3=.ptr 0 15 0∧f 7=.mp X (Q8 X)∧f 39=.list (S.msgs.map QT)∧f 40=.int .i64 (S.msgs.length:Nat)∧f 41=.int .i64 (i:Nat)∧
  fr 1=.cells [.list (S.msgs.map fun n=>.agg n.cells),.list (S.enums.map fun n=>.agg n.cells),.list (S.servs.map fun n=>.agg n.cells)]∧AR fr (l++(S.msgs.take i).flatMap (ZO S (fun m=>(XU m).any fun n=>QS S n && !X.contains n)))∧∀s∈[9,11,13],(fr s).isRow=false
 have hg:∀x∈S.msgs,((ZO S (fun m=>(XU m).any fun n=>QS S n && !X.contains n)) x).length≤14000000:=fun x hx=>WK hM S _ x (hS.msgs x hx)
 refine Qe I _ ⟨f,fr,0,rfl,rfl,Qzl _,h1,h3,h7,hw,hz,hk,o1,by simpa using hA,rv⟩ ?_;clear h1 h3 h7 hw hz hk o1 hA rv;rintro _ st ⟨f0,fr0,i,rfl,rfl,hi,h10,h30,h70,hw0,hz0,hk0,Xk,⟨g,m15,mR⟩,rv⟩;refine QJ (a:=_) [9] (by intro s hs;simp only[QAj,QAT,or_false]at hs;subst hs;exact rv _ (by decide)) ?_;intro f fr hf hmm hn;have h1:f 1=.ptr 0 1 0:=by rw[hf,h10]<;>rfl
 have h3:f 3=.ptr 0 15 0:=by rw[hf,h30]<;>rfl
 have h7:f 7=.mp X (Q8 X):=by rw[hf,h70]<;>rfl
 have hw:f 39=.list (S.msgs.map QT):=by rw[hf,hw0]<;>rfl
 have hz:f 40=.int .i64 (S.msgs.length:Nat):=by rw[hf,hz0]<;>rfl
 have hk:f 41=.int .i64 (i:Nat):=by rw[hf,hk0]<;>rfl
 have o1:fr 1=.cells [.list (S.msgs.map fun n=>.agg n.cells),.list (S.enums.map fun n=>.agg n.cells),.list (S.servs.map fun n=>.agg n.cells)]:=by rw[hmm 1 (by decide),Xk]<;>rfl
 have oS:fr 15=.cells [.str [],.int .i64 (-1),.vec 0 1100 g 0 (l++(S.msgs.take i).flatMap (ZO S (fun m=>(XU m).any fun n=>QS S n && !X.contains n))).length false]:=by rw[hmm 15 (by decide),m15]<;>rfl
 have oR:fr 1100=.vec g 3 ((l++(S.msgs.take i).flatMap (ZO S (fun m=>(XU m).any fun n=>QS S n && !X.contains n))).map PB.av):=by rw[hmm 1100 (by decide),mR]<;>rfl
 have nv:=hn 9 (by decide);have rv':∀s∈[9,11,13],(fr s).isRow=false:=by
  intro s hs;by_cases hsv:s=9
  ·subst hsv;rw[nv];rfl
  ·rw[hmm s (by simp only[QAj,QAT,or_false];exact hsv)];have:=rv s hs
   revert this
   cases fr0 s<;>intro h<;>first|rfl|exact h
 clear hf hmm hn h10 h30 h70 hw0 hz0 hk0 Xk m15 mR rv;simp only[Nx,Ny,Nz,NA,hz,hk,Qa,seval];by_cases hlt:i<S.msgs.length
 case neg=>
  have e:i=S.msgs.length:=by omega
  subst e;simp only[QC hlt,Qa,seval];rw[QAv]at oS oR;exact hq _ _ (by exact h1) (by exact h3) (by exact h7) o1 ⟨g,oS,oR⟩ rv'
 obtain⟨x,hx⟩:∃x,S.msgs[i]? = some x:=⟨S.msgs[i],Qzf hlt⟩;have hm:=Qzq hx;have hgx:(S.msgs.map QT)[i]? = some (.agg x.cells):=by rw[QAm,hx];rfl
 rw[Xo]at hgx;have e1:=Qn i _ hlt (by simp only[maxLen];omega);have q1:=ZR hg i;have q2:=hg x hm;have hc:=QvP hM S hS x (hS.msgs x hm) X;simp only[QT,Xo,SC.av]at hc;simp only[QA hlt,nv,Qk,QAq,Qc,hgx,h1,h3,h7,hw,hk,o1,oS,eE,seval];refine aC hc ?_;refine QO (xs:=(l++(S.msgs.take i).flatMap (ZO S (fun m=>(XU m).any fun n=>QS S n && !X.contains n))).map PB.av) (by rfl) (by exact oR) rfl (by simp) (by rfl) (UE _) (by simp only[QzM,QAo,maxLen];omega) (by simp only[QzM,QAo];omega) ?_;simp only[hk,oS,e1,eE,seval];refine⟨S.msgs.length-(i+1),by omega,_,_,i+1,rfl,rfl,by omega,(by exact h1),(by exact h3),(by exact h7),(by exact hw),(by exact hz),(by rfl),(by exact o1),⟨g+1,?_,?_⟩,?_⟩
 ·rw[X0 hx,←Qzw];simp only[QzM,QAo,Qa,seval]
 ·rw[X0 hx,←Qzw];simp only[QAw,Qa,seval]
 ·intro s hs;simp only[QAj,QAT,or_false]at hs;rcases hs with rfl|rfl|rfl<;>first|rfl|exact rv' _ (by decide)

include hM hS in
theorem Qv9 (l:List PB)(hl:l.length≤1000000000)(h8:S.enums.length≤8)(f:Fr)(fr:Nat→Ob)(h1:f 1=.ptr 0 1 0)(h3:f 3=.ptr 0 15 0)(h7:f 7=.mp X (Q8 X))(hw:f 59=.list (S.enums.map XC))(hz:f 60=.int .i64 (S.enums.length:Nat))(hk:f 61=.int .i64 0)
  (o1:fr 1=.cells [.list (S.msgs.map fun n=>.agg n.cells),.list (S.enums.map fun n=>.agg n.cells),.list (S.servs.map fun n=>.agg n.cells)]) (hA:AR fr l) (rv:∀s∈[9,11,13],(fr s).isRow=false) (Q:Exit→St→Prop)
  (hq:∀(f:Fr) (fr:Nat→Ob),f 1=.ptr 0 1 0→f 3=.ptr 0 15 0→f 7=.mp X (Q8 X)→fr 1=.cells [.list (S.msgs.map fun n=>.agg n.cells),.list (S.enums.map fun n=>.agg n.cells),.list (S.servs.map fun n=>.agg n.cells)]→AR fr (l++S.enums.flatMap (ZK))→(∀s∈[9,11,13],(fr s).isRow=false)→Q (.exit 4) ⟨f,[fr],[]⟩):QE Tryz.prog (.loop Pm) ⟨f,[fr],[]⟩ Q:=by
 let I:Nat→St→Prop:=fun n st=>∃f fr i,st=⟨f,[fr],[]⟩∧n=S.enums.length-i∧i≤S.enums.length∧f 1=.ptr 0 1 0∧f 3=.ptr 0 15 0∧f 7=.mp X (Q8 X)∧f 59=.list (S.enums.map XC)∧f 60=.int .i64 (S.enums.length:Nat)∧f 61=.int .i64 (i:Nat)∧
  fr 1=.cells [.list (S.msgs.map fun n=>.agg n.cells),.list (S.enums.map fun n=>.agg n.cells),.list (S.servs.map fun n=>.agg n.cells)]∧AR fr (l++(S.enums.take i).flatMap (ZK))∧∀s∈[9,11,13],(fr s).isRow=false
 have hg:∀x∈S.enums,((ZK) x).length≤14000000:=fun x hx=>WL hM x (hS.enums x hx)
 refine Qe I _ ⟨f,fr,0,rfl,rfl,Qzl _,h1,h3,h7,hw,hz,hk,o1,by simpa using hA,rv⟩ ?_;clear h1 h3 h7 hw hz hk o1 hA rv;rintro _ st ⟨f0,fr0,i,rfl,rfl,hi,h10,h30,h70,hw0,hz0,hk0,Xk,⟨g,m15,mR⟩,rv⟩;refine QJ (a:=_) [11] (by intro s hs;simp only[QAj,QAT,or_false]at hs;subst hs;exact rv _ (by decide)) ?_;intro f fr hf hmm hn;have h1:f 1=.ptr 0 1 0:=by rw[hf,h10]<;>rfl
 have h3:f 3=.ptr 0 15 0:=by rw[hf,h30]<;>rfl
 have h7:f 7=.mp X (Q8 X):=by rw[hf,h70]<;>rfl
 have hw:f 59=.list (S.enums.map XC):=by rw[hf,hw0]<;>rfl
 have hz:f 60=.int .i64 (S.enums.length:Nat):=by rw[hf,hz0]<;>rfl
 have hk:f 61=.int .i64 (i:Nat):=by rw[hf,hk0]<;>rfl
 have o1:fr 1=.cells [.list (S.msgs.map fun n=>.agg n.cells),.list (S.enums.map fun n=>.agg n.cells),.list (S.servs.map fun n=>.agg n.cells)]:=by rw[hmm 1 (by decide),Xk]<;>rfl
 have oS:fr 15=.cells [.str [],.int .i64 (-1),.vec 0 1100 g 0 (l++(S.enums.take i).flatMap (ZK)).length false]:=by rw[hmm 15 (by decide),m15]<;>rfl
 have oR:fr 1100=.vec g 3 ((l++(S.enums.take i).flatMap (ZK)).map PB.av):=by rw[hmm 1100 (by decide),mR]<;>rfl
 have nv:=hn 11 (by decide);have rv':∀s∈[9,11,13],(fr s).isRow=false:=by
  intro s hs;by_cases hsv:s=11
  ·subst hsv;rw[nv];rfl
  ·rw[hmm s (by simp only[QAj,QAT,or_false];exact hsv)];have:=rv s hs
   revert this
   cases fr0 s<;>intro h<;>first|rfl|exact h
 clear hf hmm hn h10 h30 h70 hw0 hz0 hk0 Xk m15 mR rv;simp only[NC,ND,NE,NF,hz,hk,Qa,seval];by_cases hlt:i<S.enums.length
 case neg=>
  have e:i=S.enums.length:=by omega
  subst e;simp only[QC hlt,Qa,seval];rw[QAv]at oS oR;exact hq _ _ (by exact h1) (by exact h3) (by exact h7) o1 ⟨g,oS,oR⟩ rv'
 obtain⟨x,hx⟩:∃x,S.enums[i]? = some x:=⟨S.enums[i],Qzf hlt⟩;have hm:=Qzq hx;have hgx:(S.enums.map XC)[i]? = some (.agg x.cells):=by rw[QAm,hx];rfl
 rw[XJ]at hgx;have e1:=Qn i _ hlt (by simp only[maxLen];omega);have q1:=ZR hg i;have q2:=hg x hm;have hc:=QvV hM x (hS.enums x hm);simp only[XC,XJ]at hc;simp only[QA hlt,nv,Qk,QAq,Qc,hgx,h3,hw,hk,oS,eE,seval];refine aC hc ?_;refine QO (xs:=(l++(S.enums.take i).flatMap (ZK)).map PB.av) (by rfl) (by exact oR) rfl (by simp) (by rfl) (UE _) (by simp only[QzM,QAo,maxLen];omega) (by simp only[QzM,QAo];omega) ?_;simp only[hk,oS,e1,eE,seval];refine⟨S.enums.length-(i+1),by omega,_,_,i+1,rfl,rfl,by omega,(by exact h1),(by exact h3),(by exact h7),(by exact hw),(by exact hz),(by rfl),(by exact o1),⟨g+1,?_,?_⟩,?_⟩
 ·rw[X0 hx,←Qzw];simp only[QzM,QAo,Qa,seval]
 ·rw[X0 hx,←Qzw];simp only[QAw,Qa,seval]
 ·intro s hs;simp only[QAj,QAT,or_false]at hs;rcases hs with rfl|rfl|rfl<;>first|rfl|exact rv' _ (by decide)

include hM hS in
theorem Qwa (l:List PB)(hl:l.length≤1000000000)(h8:S.servs.length≤8)(f:Fr)(fr:Nat→Ob)(h1:f 1=.ptr 0 1 0)(h3:f 3=.ptr 0 15 0)(h7:f 7=.mp X (Q8 X))(hw:f 77=.list (S.servs.map Kt))(hz:f 78=.int .i64 (S.servs.length:Nat))(hk:f 79=.int .i64 0)
  (o1:fr 1=.cells [.list (S.msgs.map fun n=>.agg n.cells),.list (S.enums.map fun n=>.agg n.cells),.list (S.servs.map fun n=>.agg n.cells)]) (hA:AR fr l) (rv:∀s∈[9,11,13],(fr s).isRow=false) (Q:Exit→St→Prop)
  (hq:∀(f:Fr) (fr:Nat→Ob),f 1=.ptr 0 1 0→f 3=.ptr 0 15 0→f 7=.mp X (Q8 X)→fr 1=.cells [.list (S.msgs.map fun n=>.agg n.cells),.list (S.enums.map fun n=>.agg n.cells),.list (S.servs.map fun n=>.agg n.cells)]→AR fr (l++S.servs.flatMap (ZV S))→(∀s∈[9,11,13],(fr s).isRow=false)→Q (.exit 6) ⟨f,[fr],[]⟩):QE Tryz.prog (.loop Pn) ⟨f,[fr],[]⟩ Q:=by
 let I:Nat→St→Prop:=fun n st=>∃f fr i,st=⟨f,[fr],[]⟩∧n=S.servs.length-i∧i≤S.servs.length∧f 1=.ptr 0 1 0∧f 3=.ptr 0 15 0∧f 7=.mp X (Q8 X)∧f 77=.list (S.servs.map Kt)∧f 78=.int .i64 (S.servs.length:Nat)∧f 79=.int .i64 (i:Nat)∧
  fr 1=.cells [.list (S.msgs.map fun n=>.agg n.cells),.list (S.enums.map fun n=>.agg n.cells),.list (S.servs.map fun n=>.agg n.cells)]∧AR fr (l++(S.servs.take i).flatMap (ZV S))∧∀s∈[9,11,13],(fr s).isRow=false
 have hg:∀x∈S.servs,((ZV S) x).length≤14000000:=fun x hx=>FB hM S x (hS.servs x hx)
 refine Qe I _ ⟨f,fr,0,rfl,rfl,Qzl _,h1,h3,h7,hw,hz,hk,o1,by simpa using hA,rv⟩ ?_;clear h1 h3 h7 hw hz hk o1 hA rv;rintro _ st ⟨f0,fr0,i,rfl,rfl,hi,h10,h30,h70,hw0,hz0,hk0,Xk,⟨g,m15,mR⟩,rv⟩;refine QJ (a:=_) [13] (by intro s hs;simp only[QAj,QAT,or_false]at hs;subst hs;exact rv _ (by decide)) ?_;intro f fr hf hmm hn;have h1:f 1=.ptr 0 1 0:=by rw[hf,h10]<;>rfl
 have h3:f 3=.ptr 0 15 0:=by rw[hf,h30]<;>rfl
 have h7:f 7=.mp X (Q8 X):=by rw[hf,h70]<;>rfl
 have hw:f 77=.list (S.servs.map Kt):=by rw[hf,hw0]<;>rfl
 have hz:f 78=.int .i64 (S.servs.length:Nat):=by rw[hf,hz0]<;>rfl
 have hk:f 79=.int .i64 (i:Nat):=by rw[hf,hk0]<;>rfl
 have o1:fr 1=.cells [.list (S.msgs.map fun n=>.agg n.cells),.list (S.enums.map fun n=>.agg n.cells),.list (S.servs.map fun n=>.agg n.cells)]:=by rw[hmm 1 (by decide),Xk]<;>rfl
 have oS:fr 15=.cells [.str [],.int .i64 (-1),.vec 0 1100 g 0 (l++(S.servs.take i).flatMap (ZV S)).length false]:=by rw[hmm 15 (by decide),m15]<;>rfl
 have oR:fr 1100=.vec g 3 ((l++(S.servs.take i).flatMap (ZV S)).map PB.av):=by rw[hmm 1100 (by decide),mR]<;>rfl
 have nv:=hn 13 (by decide);have rv':∀s∈[9,11,13],(fr s).isRow=false:=by
  intro s hs;by_cases hsv:s=13
  ·subst hsv;rw[nv];rfl
  ·rw[hmm s (by simp only[QAj,QAT,or_false];exact hsv)];have:=rv s hs
   revert this
   cases fr0 s<;>intro h<;>first|rfl|exact h
 clear hf hmm hn h10 h30 h70 hw0 hz0 hk0 Xk m15 mR rv;simp only[NH,NI,NJ,NK,hz,hk,Qa,seval];by_cases hlt:i<S.servs.length
 case neg=>
  have e:i=S.servs.length:=by omega
  subst e;simp only[QC hlt,Qa,seval];rw[QAv]at oS oR;exact hq _ _ (by exact h1) (by exact h3) (by exact h7) o1 ⟨g,oS,oR⟩ rv'
 obtain⟨x,hx⟩:∃x,S.servs[i]? = some x:=⟨S.servs[i],Qzf hlt⟩;have hm:=Qzq hx;have hgx:(S.servs.map Kt)[i]? = some (.agg x.cells):=by rw[QAm,hx];rfl
 rw[JL]at hgx;have e1:=Qn i _ hlt (by simp only[maxLen];omega);have q1:=ZR hg i;have q2:=hg x hm;have hc:=QvZ hM S hS x (hS.servs x hm);simp only[Kt,JL,SC.av]at hc;simp only[QA hlt,nv,Qk,QAq,Qc,hgx,h1,h3,hw,hk,o1,oS,eE,seval];refine aC hc ?_;refine QO (xs:=(l++(S.servs.take i).flatMap (ZV S)).map PB.av) (by rfl) (by exact oR) rfl (by simp) (by rfl) (UE _) (by simp only[QzM,QAo,maxLen];omega) (by simp only[QzM,QAo];omega) ?_;simp only[hk,oS,e1,eE,seval];refine⟨S.servs.length-(i+1),by omega,_,_,i+1,rfl,rfl,by omega,(by exact h1),(by exact h3),(by exact h7),(by exact hw),(by exact hz),(by rfl),(by exact o1),⟨g+1,?_,?_⟩,?_⟩
 ·rw[X0 hx,←Qzw];simp only[QzM,QAo,Qa,seval]
 ·rw[X0 hx,←Qzw];simp only[QAw,Qa,seval]
 ·intro s hs;simp only[QAj,QAT,or_false]at hs;rcases hs with rfl|rfl|rfl<;>first|rfl|exact rv' _ (by decide)

end

theorem s33 {M:Nat}(hM:M≤1048576)(S:SC)(hS:S.ok M)(h8:S.msgs.length≤8∧S.enums.length≤8∧S.servs.length≤8):Qu Tryz.prog 33 [S.av] (.list ((KF S (Y6 S)).map PB.av)):=by
 obtain⟨l1,l2,l3⟩:=h8;refine k33.fn (by simp) ?_;simp only[E4,E5,Pf,Pg,SC.av,eE,seval];refine Xb rfl rfl rfl rfl ?_;simp only[Ph,eE,seval];have hc:=s97 hM S hS;have hf:=QvO hM S hS;simp only[SC.av]at hc hf;refine aC hc ?_;rw[Hs _ 15 1100 [] (-1) (by decide)];generalize hb:(Qw Qh 1 _:Nat→Ob)=base;have c4:∀n l,Qm base 15 1100 [] n l 4=.none:=fun n l=>by rw[QL _ _ _ _ _ _ (by decide) (by decide),←hb];rfl
 have o1:base 1=.cells [.list (S.msgs.map fun n=>.agg n.cells),.list (S.enums.map fun n=>.agg n.cells),.list (S.servs.map fun n=>.agg n.cells)]:=by rw[←hb];rfl
 have r9:∀s∈[9,11,13],base s=.none:=by
  intro s hs;rw[←hb];simp only[QAj,QAT,or_false]at hs;rcases hs with rfl|rfl|rfl<;>rfl
 clear hb;simp only[c4,Pi,eE,seval];rw[UD (by decide) (by decide)];generalize hA:S.msgs.map SM.name=A;generalize hB:S.enums.map SE.name=B;generalize hC:S.servs.map SQ.name=C;have lA:A.length≤8:=by rw[←hA,QAo];exact l1
 have lB:B.length≤8:=by rw[←hB,QAo];exact l2
 have lC:C.length≤8:=by rw[←hC,QAo];exact l3
 generalize hb:(Qw base 4 _:Nat→Ob)=b2;have p1:∀n l,Qm b2 15 1100 [] n l 1=.cells [.list (S.msgs.map fun n=>.agg n.cells),.list (S.enums.map fun n=>.agg n.cells),.list (S.servs.map fun n=>.agg n.cells)]:=fun n l=>by rw[QL _ _ _ _ _ _ (by decide) (by decide),←hb];exact(by exact o1)
 have p4:∀n l,Qm b2 15 1100 [] n l 4=.cells [.list (A.map Qi),.list (B.map Qi),.list (C.map Qi)]:=fun n l=>by rw[QL _ _ _ _ _ _ (by decide) (by decide),←hb];exact(by rfl)
 have p9:∀n l,∀s∈[9,11,13],(Qm b2 15 1100 [] n l s).isRow=false:=by
  intro n l s hs;have e:s≠1100∧s≠15∧s≠4:=by simp only[QAj,QAT,or_false]at hs;omega
  rw[QL _ _ _ _ _ _ e.1 e.2.1,←hb,QP _ _ e.2.2,r9 s hs];rfl
 clear hb o1 r9 c4;refine Qv7 A B C (by omega) (by omega) (by omega) b2 _ ⟨(by rfl),(by rfl),(by rfl)⟩ (by rfl) (by rfl) _ (fun f hf=>?_);obtain⟨h1,h3,h4⟩:=hf;have q0:(Z4 A B C 3).length≤6:=by
  have a:=Zp A;have b:=Zp B;have c:=Zp C;simp only[Z4,QzM];omega
 simp only[Pk,h3,h4,p4,eE,seval];refine aC (Qv6 A B C (by simp only[maxLen];omega) (by simp only[maxLen];omega) (by simp only[maxLen];omega)) ?_
 try simp only[eE,seval]
 refine Qb (Xt b2 15 1100 [] (-1) _ (by decide) rfl (by omega) (WC A B C) 9 []) (by simp only[QzI,Qz4,Qa,seval]<;>rfl) ?_;have q1:=Qr q0 [] (-1) (WC A B C) 9;generalize hL:Z4 A B C 3++pb [] (-1) (WC A B C) 9=L at q1;simp only[Nv,h1,p1,eE,seval];refine aC hf ?_;simp only[Nw,h1,p1,QAo,eE,seval];refine Qv8 hM S hS (KZ S) L (by omega) l1 _ _ (by exact h1) (by exact h3) (by rfl) (by rfl) (by rfl) (by rfl) (p1 _ _) ⟨_,Z6 _ _ _ _ _ _,JW _ _ _ _ _ _ (by decide)⟩ (p9 _ _) _ (fun f fr h1 h3 h7 o1 hA1 r9=>?_);have q2:=ZR (l:=S.msgs) (fun x hx=>WK hM S (fun m=>(XU m).any fun n=>QS S n && !(KZ S).contains n) x (hS.msgs x hx)) S.msgs.length;rw[QAv]at q2;simp only[NB,h1,o1,QAo,eE,seval];refine Qv9 hM S hS (KZ S) _ (by rw[QzM];omega) l2 _ _ (by exact h1) (by exact h3) (by exact h7) (by rfl) (by rfl) (by rfl) o1 hA1 r9 _ (fun f fr h1 h3 h7 o1 hA1 r9=>?_);have q3:=ZR (l:=S.enums) (fun x hx=>WL hM x (hS.enums x hx)) S.enums.length;rw[QAv]at q3;simp only[NG,h1,o1,QAo,eE,seval];refine Qwa hM S hS (KZ S) _ (by rw[QzM,QzM];omega) l3 _ _ (by exact h1) (by exact h3) (by exact h7) (by rfl) (by rfl) (by rfl) o1 hA1 r9 _ (fun f fr h1 h3 h7 o1 hA1 r9=>?_);obtain⟨g,oS,oR⟩:=hA1;have ht:∀l:List PB,List.take l.length (List.map PB.av l)=List.map PB.av l:=fun l=>QzJ (by rw[QAo];exact Qzc _)
 have hfin:L++S.msgs.flatMap (ZO S (fun m=>(XU m).any fun n=>QS S n && !(KZ S).contains n))++S.enums.flatMap ZK++S.servs.flatMap (ZV S)=KF S (Y6 S):=by
  rw[←hL];unfold KF Z4;rw[hA,hB,hC,←hA,←hB,←hC,Cu];rfl
 rw[hfin]at oS oR;simp only[NL,h3,oS,oR,QAo,QzQ,ht,QzB,Qzc,Qz7,QAc,AV.un,eE,seval]

theorem s13 {M:Nat}(hM:M≤1048576)(S:SC)(hS:S.ok M)(h8:S.msgs.length≤8∧S.enums.length≤8∧S.servs.length≤8):Qu Tryz.prog 13 [S.av] (.bool (ZF S)):=by
 have hc:=s33 hM S hS h8;have hv:(((KF S (Y6 S)).length:Int)==0)=ZF S:=by
  have e:=Ax (S:=S);rw[QzY,QzA,←e]
  constructor
  ·intro h;exact Qz8 (by omega)
  ·intro h;rw[h];rfl
 refine k13.fn (by simp) ?_;simp only[SC.av,eE,seval];simp only[SC.av]at hc;refine aC hc ?_;simp only[QAo,hv,Qa,seval]

theorem QkM (L:List (List UInt8))(hl:L.length≤maxLen)(n:List UInt8):Qu Tryz.prog 117 [.list (L.map Qi),.str n] (.bool (L.contains n)):=by
 let I:Nat→St→Prop:=fun k st=>∃f i,st=⟨f,[Qh],[]⟩∧k=L.length-i∧L.contains n=(L.drop i).contains n∧f 0=.list (L.map Qi)∧f 1=.str n∧f 5=.int .i64 (i:Nat)
 refine Qre.fn (by simp) ?_;simp only[Qa,seval];refine Qe I _ ⟨_,0,rfl,rfl,rfl,(by rfl),(by rfl),(by rfl)⟩ ?_;rintro _ st ⟨f,i,rfl,rfl,hx,h0,h1,h5⟩;simp only[QAo,h0,h5,Qa,seval];by_cases hlt:i<L.length
 ·obtain⟨x,hi⟩:∃x,L[i]? = some x:=⟨L[i],Qzf hlt⟩;have hg:(L.map Qi)[i]? = some (.str x):=by simp[hi,Qi]
  have e1:=Qn i _ hlt hl;have hd:(L.drop i).contains n=((x==n)||(L.drop (i+1)).contains n):=by
   rw[QzR hlt,show L[i]=x from(Qze.1 hi).2,List.contains_cons];congr 1
   rw[QzY,QzA,QzA];exact eq_comm
  simp only[QA hlt,Qk,QAq,Qc,hg,h0,h1,h5,Qx,eE,seval];cases hp:(x==n)
  ·rw[hp,QAF]at hd;rw[hd]at hx;simp only[h5,e1,Qa,seval];exact⟨L.length-(i+1),by omega,_,i+1,rfl,rfl,hx,(by exact h0),(by exact h1),(by rfl)⟩
  ·rw[hp,QAE]at hd;rw[hd]at hx;simp only[hx,Qa,seval]
 ·have hx':L.contains n=false:=by rw[hx,QzL (by omega)];rfl
  simp only[QC hlt,hx',Qa,seval]

theorem u40 (L:List (List UInt8))(hl:L.length≤maxLen)(n:List UInt8):Qu Tryz.prog 40 [.list (L.map Qi),.str n] (.bool (L.contains n)):=by
 let I:Nat→St→Prop:=fun k st=>∃f i,st=⟨f,[Qh],[]⟩∧k=L.length-i∧L.contains n=(L.drop i).contains n∧f 0=.list (L.map Qi)∧f 1=.str n∧f 5=.int .i64 (i:Nat)
 refine k40.fn (by simp) ?_;simp only[Qa,seval];refine Qe I _ ⟨_,0,rfl,rfl,rfl,(by rfl),(by rfl),(by rfl)⟩ ?_;rintro _ st ⟨f,i,rfl,rfl,hx,h0,h1,h5⟩;simp only[QAo,h0,h5,Qa,seval];by_cases hlt:i<L.length
 ·obtain⟨x,hi⟩:∃x,L[i]? = some x:=⟨L[i],Qzf hlt⟩;have hg:(L.map Qi)[i]? = some (.str x):=by simp[hi,Qi]
  have e1:=Qn i _ hlt hl;have hd:(L.drop i).contains n=((x==n)||(L.drop (i+1)).contains n):=by
   rw[QzR hlt,show L[i]=x from(Qze.1 hi).2,List.contains_cons];congr 1
   rw[QzY,QzA,QzA];exact eq_comm
  simp only[QA hlt,Qk,QAq,Qc,hg,h0,h1,h5,Qx,eE,seval];cases hp:(x==n)
  ·rw[hp,QAF]at hd;rw[hd]at hx;simp only[h5,e1,Qa,seval];exact⟨L.length-(i+1),by omega,_,i+1,rfl,rfl,hx,(by exact h0),(by exact h1),(by rfl)⟩
  ·rw[hp,QAE]at hd;rw[hd]at hx;simp only[hx,Qa,seval]
 ·have hx':L.contains n=false:=by rw[hx,QzL (by omega)];rfl
  simp only[QC hlt,hx',Qa,seval]

def W2 (S:SC)(n:List UInt8):Int:=QZ (fun m:SE=>m.name==n) S.enums 0

theorem BC (S:SC)(hl:S.msgs.length≤maxLen)(s:List UInt8):Qu Tryz.prog 129 [S.av,.str s] (.int .i64 (Je S s)):=by
 let I:Nat→St→Prop:=fun k st=>∃f fr i,st=⟨f,[fr],[]⟩∧k=S.msgs.length-i∧Je S s=QZ (fun g:SM=>g.name==s) (S.msgs.drop i) i∧f 1=.str s∧f 2=.ptr 0 2 0∧f 5=.int .i64 (i:Nat)∧fr 2=.cells [.list (S.msgs.map fun n=>.agg n.cells),.list (S.enums.map fun n=>.agg n.cells),.list (S.servs.map fun n=>.agg n.cells)]
 refine QrM.fn (by simp) ?_;simp only[SC.av,eE,seval];refine Qe I _ ⟨_,_,0,rfl,rfl,rfl,(by rfl),(by rfl),(by rfl),(by rfl)⟩ ?_;rintro _ st ⟨f,fr,i,rfl,rfl,hx,h1,h2,h5,m2⟩;simp only[QAo,h2,h5,m2,eE,seval];by_cases hlt:i<S.msgs.length
 ·obtain⟨x,hi⟩:∃x,S.msgs[i]? = some x:=⟨S.msgs[i],Qzf hlt⟩;have hg:(S.msgs.map fun n=>AV.agg n.cells)[i]? = some (.agg x.cells):=by rw[QAm,hi];rfl
  have e1:=Qn i _ hlt hl;rw[Xo]at hg;rw[XG _ hi]at hx;simp only[QA hlt,Qk,QAq,Qc,hg,h1,h2,h5,m2,Qx,eE,seval];cases hp:(x.name==s)
  ·rw[hp]at hx;simp only[Qzv,if_false]at hx;simp only[h5,e1,Qa,seval];exact⟨S.msgs.length-(i+1),by omega,_,_,i+1,rfl,rfl,hx,(by exact h1),(by exact h2),(by rfl),m2⟩
  ·rw[hp]at hx;simp only[if_true]at hx;simp only[hx,h5,Qa,seval]
 ·have hx':Je S s = -1:=by rw[hx,QzL (by omega)];rfl
  simp only[QC hlt,hx',Qa,seval]

theorem QkN (S:SC)(hl:S.enums.length≤maxLen)(s:List UInt8):Qu Tryz.prog 171 [S.av,.str s] (.int .i64 (W2 S s)):=by
 let I:Nat→St→Prop:=fun k st=>∃f fr i,st=⟨f,[fr],[]⟩∧k=S.enums.length-i∧W2 S s=QZ (fun g:SE=>g.name==s) (S.enums.drop i) i∧f 1=.str s∧f 2=.ptr 0 2 0∧f 5=.int .i64 (i:Nat)∧fr 2=.cells [.list (S.msgs.map fun n=>.agg n.cells),.list (S.enums.map fun n=>.agg n.cells),.list (S.servs.map fun n=>.agg n.cells)]
 refine Qss.fn (by simp) ?_;simp only[SC.av,eE,seval];refine Qe I _ ⟨_,_,0,rfl,rfl,rfl,(by rfl),(by rfl),(by rfl),(by rfl)⟩ ?_;rintro _ st ⟨f,fr,i,rfl,rfl,hx,h1,h2,h5,m2⟩;simp only[QAo,h2,h5,m2,eE,seval];by_cases hlt:i<S.enums.length
 ·obtain⟨x,hi⟩:∃x,S.enums[i]? = some x:=⟨S.enums[i],Qzf hlt⟩;have hg:(S.enums.map fun n=>AV.agg n.cells)[i]? = some (.agg x.cells):=by rw[QAm,hi];rfl
  have e1:=Qn i _ hlt hl;rw[XJ]at hg;rw[XG _ hi]at hx;simp only[QA hlt,Qk,QAq,Qc,hg,h1,h2,h5,m2,Qx,eE,seval];cases hp:(x.name==s)
  ·rw[hp]at hx;simp only[Qzv,if_false]at hx;simp only[h5,e1,Qa,seval];exact⟨S.enums.length-(i+1),by omega,_,_,i+1,rfl,rfl,hx,(by exact h1),(by exact h2),(by rfl),m2⟩
  ·rw[hp]at hx;simp only[if_true]at hx;simp only[hx,h5,Qa,seval]
 ·have hx':W2 S s = -1:=by rw[hx,QzL (by omega)];rfl
  simp only[QC hlt,hx',Qa,seval]

theorem Cv (S:SC)(n:List UInt8):decide (Je S n≥0)=QS S n:=Fk _ _
theorem QkO (S:SC)(n:List UInt8):decide (W2 S n≥0)=G7 S n:=Fk _ _
theorem Cw (S:SC)(n:List UInt8):decide (Je S n<0)=!QS S n:=by
 rw[←Cv];exact(by rw[QzY];simp only[QAl,Qz0,QAN];omega)

theorem BD (s:List UInt8):Qu Tryz.prog 120 [.str s] (.bool (Q5 s)):=by
 refine Qrn.fn (by simp) ?_;simp only[Q5,Qa,seval];refine aC (Mn s) ?_;cases QU s
 ·simp only[QAs,Qa,seval]
 ·simp only[QAC,Qa,seval];refine aC (Qkf s) ?_;simp only[Qa,seval]

def UsI (s:List UInt8)(k:Nat)(st:St):Prop :=
 ∃f u i,st=⟨f,[Qh],[]⟩∧k=u.length∧u.length≤120∧i+u.length≤120∧(u≠[]→(Qg u).all QU=true)∧(Qg s).any Za=Ce u∧f 0=.str u∧f 3=.int .i64 (i:Nat)

theorem MA (s:List UInt8):Qu Tryz.prog 119 [.str s] (.bool (Xg s)):=by
 refine Qrk.fn (by simp) ?_;simp only[Xg,Qa,seval];refine aC (QuN s) ?_;cases hf:(decide (s.length≤120)&&(Qg s).all QU)
 ·simp only[QAs,QAb,Qa,seval]
 simp only[QAC,QAD,Qa,seval];obtain⟨hl,ha⟩:=Qzg.1 hf;have hl:=of_decide_eq_true hl;have hne:s≠[]:=by
  rintro rfl;cases ha
 refine Qe (UsI s) _ ⟨_,s,0,rfl,rfl,hl,by omega,fun _=>ha,by unfold Ce;rw[Qzj hne],(by rfl),(by rfl)⟩ ?_;rintro _ st ⟨f,u,i,rfl,rfl,hul,hui,hua,hx,h0,h3⟩;simp only[h3,Qa,seval];by_cases hu:u=[]
 ·subst hu;have b0:(!(([]:List UInt8)==[]))=false:=rfl;have e:(Qg s).any Za=false:=hx;cases hd:decide ((i:Int)<120)<;>simp only[b0,e,h0,Qx,QAb,Qa,seval]
 ·have b0:(!(u==[]))=true:=by simp[hu]
  have hlp:0<u.length:=QAi.2 hu;have d:decide ((i:Int)<120)=true:=QAM (by omega);have e1:IntKind.i64.wrap ((i:Int)+1)=((i+1:Nat):Int):=by simp only[ZE];omega
  simp only[d,b0,h0,Qx,Qa,seval];refine aC (QuO u hul) ?_;simp only[Qa,seval];refine aC (Qkf (Zt u).2) ?_;have hw:Ce u=(Ce (Zt u).1||Za (Zt u).2):=by
   unfold Ce;rw[Qzj hu];rcases G4 u with⟨h1,h2,h3⟩|⟨h1,h2⟩
   ·rw[h1,h2,Qzk rfl,Ko h3];simp
   ·have hp:Qg u=Qg (Zt u).1++[(Zt u).2]:=by
     conv=>lhs;rw[h1]
     exact Y4 h2
    have ha':=hua hu;rw[hp,QAh,Qzz]at ha';have hn:(Zt u).1≠[]:=by
     intro h;rw[h]at ha';cases ha'.1
    rw[Qzj hn,hp];simp
  cases hq:Za (Zt u).2
  ·rw[hq,QAQ]at hw;have hlen:(Zt u).1.length<u.length∧((Zt u).1≠[]→(Qg (Zt u).1).all QU=true):=by
    rcases G4 u with⟨h1,h2,h3⟩|⟨h1,h2⟩
    ·rw[h1];exact⟨hlp,fun h=>absurd rfl h⟩
    ·have hp:Qg u=Qg (Zt u).1++[(Zt u).2]:=by
      conv=>lhs;rw[h1]
      exact Y4 h2
     refine⟨?_,fun _=>?_⟩
     ·conv=>rhs;rw[h1]
      simp
     ·have ha':=hua hu;rw[hp,QAh,Qzz]at ha';exact ha'.1
   simp only[h3,e1,Qa,seval];exact⟨(Zt u).1.length,hlen.1,_,(Zt u).1,i+1,rfl,rfl,by omega,by omega,hlen.2,by rw[hx,hw],(by rfl),(by rfl)⟩
  ·rw[hq,Bool.or_true]at hw;rw[hw]at hx;simp only[hx,QAD,Qa,seval]

section
variable (k:Int)(b:Nat)(t:List UInt8)(l p s r:List AV)
theorem Qwb:Qu Tryz.prog 174 [vo k b t l p s r] (vo k (Zb k b) t l p s r):=by
 refine QsB.fn (by simp) ?_;simp only[vo,eE,seval];by_cases hk:k=6
 ·have b0:(k==6)=true:=by simp[hk]
  simp only[b0,eE,seval];refine aC (Qvc b) ?_;simp only[Qkn,Qa,seval];by_cases hc:Y5 b=0
  ·simp only[hc,Zb,hk,decide_true,Qz7,eE,seval]
   try rfl
  ·simp only[hc,Zb,decide_false,and_false,eE,seval]
 ·have b0:(k==6)=false:=by simp[hk]
  simp only[b0,Zb,hk,false_and,eE,seval]

theorem Yi (a b:Nat)(h:a+b≤9223372036854775807):IntKind.i64.wrap ((a:Int)+(b:Int))=((a+b:Nat):Int):=by
 simp only[ZE];omega
theorem Qwc (a b c d a2 b2 c2 d2:Nat)(h:a+b+c+d+(a2+b2+c2+d2)≤9223372036854775807):IntKind.i64.wrap (IntKind.i64.wrap (IntKind.i64.wrap (IntKind.i64.wrap (IntKind.i64.wrap (IntKind.i64.wrap (IntKind.i64.wrap ((a:Int)+(b:Int))+(c:Int))+(d:Int))+(a2:Int))+(b2:Int))+(c2:Int))+(d2:Int))=((a+b+c+d+(a2+b2+c2+d2):Nat):Int):=by
 rw[Yi a b (by omega),Yi (a+b) c (by omega),Yi (a+b+c) d (by omega),Yi (a+b+c+d) a2 (by omega),Yi (a+b+c+d+a2) b2 (by omega),Yi (a+b+c+d+a2+b2) c2 (by omega),Yi (a+b+c+d+a2+b2+c2) d2 (by omega)];congr 1
 omega

theorem QkP (k2:Int)(b2:Nat)(t2:List UInt8)(l2 p2 s2 r2:List AV)(h:l.length+p.length+s.length+r.length+(l2.length+p2.length+s2.length+r2.length)≤9223372036854775807) :
  Qu Tryz.prog 172 [vo k b t l p s r,vo k2 b2 t2 l2 p2 s2 r2] (.bool (k==k2&&(b:Int)==(b2:Int)&&t==t2&&((l.length+p.length+s.length+r.length+(l2.length+p2.length+s2.length+r2.length):Nat):Int)==0)):=by
 have w:=Qwc _ _ _ _ _ _ _ _ h;refine Qsv.fn (by simp) ?_;simp only[vo,eE,seval];cases h1:(k==k2)
 ·simp only[QAs,Qa,seval]
 cases h2:((b:Int)==(b2:Int))
 ·simp only[h2,QAs,QAC,eE,seval]
 cases h3:(t==t2)
 ·simp only[h2,h3,Qx,QAs,QAC,eE,seval]
 simp only[h2,h3,Qx,w,QAC,eE,seval]
end

theorem Qwd (x:SF):Qu Tryz.prog 122 [Xm x] (.bool (Ww x)):=by
 refine Qrt.fn (by simp) ?_;simp only[Xm,QD,eE,seval];unfold Ww G8;by_cases h5:x.card=5
 ·have d:(x.card != 5)=false:=by simp[h5]
  have q:(decide (x.card≥1)&&decide (x.card≤5))=true:=by rw[h5];rfl
  rw[q,Qzk h5];rw[QAC];by_cases hk:x.key=1∨x.key=2∨x.key=3∨x.key=4∨x.key=5∨x.key=7
  ·have e:(decide (x.key≥1)&&decide (x.key≤7)&&x.key != 6)=true:=by simp only[Qzz,QAl,QzE,ne_eq];omega
   rw[e];rcases hk with h|h|h|h|h|h<;>simp only[d,h,seval,eE]
  ·have e:(decide (x.key≥1)&&decide (x.key≤7)&&x.key != 6)=false:=by simp only[Bool.and_eq_false_iff,QAN,bne_eq_false_iff_eq];omega
   have k1:(x.key==1)=false:=by rw[QAO];omega
   have k2:(x.key==2)=false:=by rw[QAO];omega
   have k3:(x.key==3)=false:=by rw[QAO];omega
   have k4:(x.key==4)=false:=by rw[QAO];omega
   have k5:(x.key==5)=false:=by rw[QAO];omega
   have k7:(x.key==7)=false:=by rw[QAO];omega
   rw[e];simp only[d,k1,k2,k3,k4,k5,k7,eE,seval]
 ·have d:(x.card != 5)=true:=by simp[h5]
  rw[Qzj h5];simp only[d,eE,seval];have q:decide (x.card≤5)=decide (x.card≤4):=(by rw[QzY];simp only[QAl];omega);rw[q];cases h1:decide (x.card≥1)
  ·simp only[QAs,Qa,seval]
  cases h2:decide (x.card≤4)
  ·simp only[h2,QAC,QAs,eE,seval]
  simp only[h2,QAC,eE,seval]

section
variable {M:Nat}(S:SC)(hS:S.ok M)(hM:M≤1048576)(x:SF)(hx:x.ok M)
include hS hM in
theorem Qwe:Qu Tryz.prog 123 [S.av,Xm x] (.bool (JD S x)):=by
 obtain⟨l1,l2,_⟩:=Zd S hS hM;have hm:=BC S l1 x.tname;have he:=QkN S l2 x.tname;simp only[SC.av]at hm he;refine Qrw.fn (by simp) ?_;unfold JD;simp only[SC.av,Xm,QD,eE,seval];by_cases h3:x.kind=9
 ·have d3:(x.kind==9)=true:=by simp[h3]
  rw[Qzj (by omega),Qzk h3];simp only[d3,eE,seval];refine aC he ?_;simp only[QkO,Qa,seval]
 have d3:(x.kind==9)=false:=by simp[h3]
 by_cases h4:x.kind=10
 ·have d4:(x.kind==10)=true:=by simp[h4]
  rw[Qzj (by omega),Qzj h3,Qzk h4];simp only[d3,d4,eE,seval];refine aC hm ?_;cases hh:QS S x.tname<;>simp only[Cv,hh,QAC,QAs,eE,seval]
 have d4:(x.kind==10)=false:=by simp[h4]
 by_cases h1:x.kind≥1
 ·have d1:decide (x.kind≥1)=true:=QAM h1;by_cases h2:x.kind≤8
  ·have d2:decide (x.kind≤8)=true:=QAM h2;rw[Qzk ⟨h1,h2⟩];simp only[d1,d2,d3,d4,Qx,eE,seval]
  ·have d2:decide (x.kind≤8)=false:=QAR h2;rw[Qzj fun h=>h2 h.2,Qzj h3,Qzj h4];simp only[d1,d2,d3,d4,eE,seval]
 ·have d1:decide (x.kind≥1)=false:=QAR h1;rw[Qzj fun h=>h1 h.1,Qzj h3,Qzj h4];simp only[d1,d3,d4,eE,seval]
end

theorem Jj {α:Type}{l:List α}{q:α→Bool}{i:Nat}{x:α}(h:l[i]? = some x):(l.take (i+1)).any q=((l.take i).any q||q x):=by
 rw[QAx,h,QAy,List.any_append];simp

section
variable {M:Nat}(S:SC)(hS:S.ok M)(hM:M≤1048576)(x:SF)(hx:x.ok M)
include hS hM hx in
theorem Qwf:Qu Tryz.prog 125 [S.av,Xm x] (.bool (Kq S x)):=by
 obtain⟨l1,l2,_⟩:=Zd S hS hM;have he:=QkN S l2 x.tname;have hv:=hx.dflt;have n1:=hv.nl;have n2:=hv.np;have n3:=hv.ns;have n4:=hv.nr;have n5:=hv.text;have hz:=QkP x.dflt.kd x.dflt.bits x.dflt.text (x.dflt.list.map V.av) (x.dflt.pairs.map V.pav) (x.dflt.slots.map V.sav) (x.dflt.raws.map R.av) 0 0 [] [] [] [] [] (by simp;omega);have hq:=QkP x.dflt.kd x.dflt.bits x.dflt.text (x.dflt.list.map V.av) (x.dflt.pairs.map V.pav) (x.dflt.slots.map V.sav) (x.dflt.raws.map R.av) x.dflt.kd (Zb x.dflt.kd x.dflt.bits) x.dflt.text (x.dflt.list.map V.av) (x.dflt.pairs.map V.pav) (x.dflt.slots.map V.sav) (x.dflt.raws.map R.av) (by simp;omega);have hf:=Qkp x.kind x.dflt.kd x.dflt.bits x.dflt.text (x.dflt.list.map V.av) (x.dflt.pairs.map V.pav) (x.dflt.slots.map V.sav) (x.dflt.raws.map R.av) (by simp only[maxLen];omega);have hn:=Qwb x.dflt.kd x.dflt.bits x.dflt.text (x.dflt.list.map V.av) (x.dflt.pairs.map V.pav) (x.dflt.slots.map V.sav) (x.dflt.raws.map R.av);have ef:x.dflt.fitk x.kind=ZY x.kind x.dflt.kd x.dflt.bits x.dflt.text (x.dflt.list.map V.av) (x.dflt.pairs.map V.pav) (x.dflt.slots.map V.sav) (x.dflt.raws.map R.av):=rfl;have ez:(x.dflt.kd==0&&((x.dflt.bits:Nat):Int)==((0:Nat):Int)&&x.dflt.text==[]&&(((x.dflt.list.map V.av).length+(x.dflt.pairs.map V.pav).length+(x.dflt.slots.map V.sav).length+(x.dflt.raws.map R.av).length+(([]:List AV).length+([]:List AV).length+([]:List AV).length+([]:List AV).length):Nat):Int)==0)=x.dflt.zro:=by
  unfold V.zro;rw[show(((x.dflt.bits:Nat):Int)==((0:Nat):Int))=(x.dflt.bits==0)from Kf _,Kf];simp only[QAo,QAe,QzH]
 rw[ez]at hz;simp only[vo]at hf hn hz hq;simp only[SC.av]at he;refine QrC.fn (by simp) ?_;unfold Kq;rw[ef];simp only[SC.av,Xm,QD,eE,seval];cases hd:x.hasd
 ·rw[Qzk rfl];simp only[eE,seval];refine aC hz ?_;simp only[Qa,seval]
 rw[Qzj (by simp)];by_cases hc:x.card=2
 case neg=>
  have d1:(x.card != 2)=true:=by simp[hc]
  rw[Qzj fun h=>hc h.1];simp only[d1,eE,seval]
 have d1:(x.card != 2)=false:=by simp[hc]
 by_cases hu:x.union=[]
 case neg=>
  have d2:(!(x.union==[]))=true:=by simp[hu]
  rw[Qzj fun h=>hu h.2.1];simp only[d1,d2,Qx,eE,seval]
 have d2:(!(x.union==[]))=false:=by simp[hu]
 simp only[d1,d2,Qx,eE,seval];refine aC hf ?_;cases hfv:ZY x.kind x.dflt.kd x.dflt.bits x.dflt.text (x.dflt.list.map V.av) (x.dflt.pairs.map V.pav) (x.dflt.slots.map V.sav) (x.dflt.raws.map R.av)
 ·rw[Qzj fun h=>Bool.false_ne_true h.2.2.1];simp only[Qa,seval]
 simp only[eE,seval];refine aC hn ?_;simp only[Qa,seval];have eq2:(x.dflt.kd==x.dflt.kd&&((x.dflt.bits:Nat):Int)==((Zb x.dflt.kd x.dflt.bits:Nat):Int)&&x.dflt.text==x.dflt.text&&(((x.dflt.list.map V.av).length+(x.dflt.pairs.map V.pav).length+(x.dflt.slots.map V.sav).length+(x.dflt.raws.map R.av).length+((x.dflt.list.map V.av).length+(x.dflt.pairs.map V.pav).length+(x.dflt.slots.map V.sav).length+(x.dflt.raws.map R.av).length):Nat):Int)==0)=decide (Zb x.dflt.kd x.dflt.bits=x.dflt.bits):=by
  have hlon:Wb (x.dflt.list.map V.av) (x.dflt.pairs.map V.pav) (x.dflt.slots.map V.sav) (x.dflt.raws.map R.av)=true:=by
   unfold ZY at hfv;simp only[Qzz]at hfv;exact hfv.1.1.1.1.2
  unfold Wb at hlon;simp only[Qzz,QzA]at hlon;obtain⟨⟨⟨q1,q2⟩,q3⟩,q4⟩:=hlon;rw[QzY];simp only[Qzz,QzA,QAl,true_and,and_true];omega
 rw[eq2]at hq;refine aC hq ?_;by_cases hnb:Zb x.dflt.kd x.dflt.bits=x.dflt.bits
 case neg=>
  rw[Qzj fun h=>hnb h.2.2];simp only[hnb,decide_false,QAb,Qa,seval]
 rw[Qzk ⟨hc,hu,hnb⟩];simp only[hnb,decide_true,QAD,eE,seval];refine aC he ?_;by_cases h9:x.kind=9
 case neg=>
  have d9:(x.kind != 9)=true:=by simp[h9]
  rw[Qzj h9];simp only[d9,eE,seval]
 have d9:(x.kind != 9)=false:=by simp[h9]
 rw[Qzk h9];have e2:W2 S x.tname=QZ (fun m:SE=>m.name==x.tname) S.enums 0:=rfl;rcases Xp (fun m:SE=>m.name==x.tname) S.enums 0 with⟨g1,g2⟩|⟨k,e,g1,g2,g3⟩
 ·rw[g1]at e2;simp only[e2,g2,d9,eE,seval]
 rw[g1,QzB]at e2;have hem:=hS.enums e (Qzq g2);have hlm:=hem.len1;have hke:(S.enums.map fun n=>AV.agg n.cells)[k]? = some (.agg e.cells):=by rw[QAm,g2];rfl
 rw[XJ]at hke;have dk:decide ((k:Int)<0)=false:=QAR (by omega);simp only[e2,g3,d9,dk,eE,seval]
 let I:Nat→St→Prop:=fun n st=>∃f fr i,st=⟨f,[fr],[]⟩∧n=e.items.length-i∧i≤e.items.length∧(e.items.take i).any (fun it=>IntKind.u64.wrap it.num==(x.dflt.bits:Int))=false∧f 2=.ptr 0 2 0∧f 5=.ptr 0 5 0∧f 6=.int .i64 (k:Nat)∧f 7=.int .i64 (i:Nat)∧
  fr 2=.cells [.list (S.msgs.map fun n=>.agg n.cells),.list (S.enums.map fun n=>.agg n.cells),.list (S.servs.map fun n=>.agg n.cells)]∧fr 5=.cells [.int .i64 x.dflt.kd,.int .u64 (x.dflt.bits:Nat),.str x.dflt.text,.list (x.dflt.list.map V.av),.list (x.dflt.pairs.map V.pav),.list (x.dflt.slots.map V.sav),.list (x.dflt.raws.map R.av)]
 refine Qe I _ ⟨_,_,0,rfl,rfl,Qzl _,rfl,(by rfl),(by rfl),(by rfl),(by rfl),(by rfl),(by rfl)⟩ ?_;rintro _ st ⟨f,fr,i,rfl,rfl,hi,hal,h2,h5,h6,h7,o2,o5⟩;simp only[Qk,QAq,Qc,hke,QAo,h2,h6,h7,o2,eE,seval];by_cases hlt:i<e.items.length
 ·obtain⟨y,hy⟩:∃y,e.items[i]? = some y:=⟨e.items[i],Qzf hlt⟩;have hg:(e.items.map fun n=>AV.agg n.cells)[i]? = some (.agg y.cells):=by rw[QAm,hy];rfl
  rw[ZL]at hg;have e1:=Qn i _ hlt (by simp only[maxLen];omega);have ht:=Jj (q:=fun it:SI=>IntKind.u64.wrap it.num==(x.dflt.bits:Int)) hy;rw[hal,QAF]at ht;simp only[QA hlt,Qk,QAq,Qc,hke,hg,h2,h5,h6,h7,o2,o5,eE,seval];cases hp:(IntKind.u64.wrap y.num==(x.dflt.bits:Int))
  ·rw[hp]at ht;simp only[h7,e1,Qa,seval];exact⟨e.items.length-(i+1),by omega,_,_,i+1,rfl,rfl,by omega,ht,(by exact h2),(by exact h5),(by exact h6),(by rfl),o2,o5⟩
  ·have hr:e.items.any (fun it=>IntKind.u64.wrap it.num==(x.dflt.bits:Int))=true:=QAJ.2 ⟨y,Qzq hy,hp⟩;simp only[hr,Qa,seval]
 ·have hr:e.items.any (fun it=>IntKind.u64.wrap it.num==(x.dflt.bits:Int))=false:=by rw[←hal,QzJ (by omega)]
  simp only[QC hlt,hr,Qa,seval]
end

def upv (m:SM)(u:List UInt8):Nat→Bool
 |0=>true
 |j+1=>match m.fields[j]? with
  |none=>true
  |some y=>y.union==u
theorem AC {m:SM}{i:Nat}{x:SF}(hi:m.fields[i]? = some x):Js m i=(x.union==[]||(x.card==2&&Q5 x.union && !(m.fields.any fun y=>y.name==x.union)&&(!((m.fields.take i).any fun y=>y.union==x.union)||upv m x.union i))):=by
 unfold Js;rw[hi];cases i<;>rfl

section
variable {M:Nat}(hM:M≤1048576)(m:SM)(hm:m.ok M)(i:Nat)(x:SF)(hi:m.fields[i]? = some x)
include hM hm hi in
theorem Qwg:Qu Tryz.prog 124 [QT m,.int .i64 (i:Nat)] (.bool (Js m i)):=by
 have hil:=(Qze.1 hi).1;have hl1:=hm.len1;have hg:(m.fields.map fun n=>AV.agg n.cells)[i]? = some (.agg x.cells):=by rw[QAm,hi];rfl
 rw[QD]at hg;have hun:=AC hi;refine Qrz.fn (by simp) ?_;simp only[QT,Xo,Qk,QAq,Qc,hg,eE,seval];by_cases hu:x.union=[]
 ·have d:(x.union==[])=true:=by simp[hu]
  rw[d,QAE]at hun;simp only[d,hun,Qx,Qa,seval]
 have d:(x.union==[])=false:=by simp[hu]
 rw[d,QAF]at hun;by_cases hc:x.card=2
 case neg=>
  have d1:(x.card != 2)=true:=by simp[hc]
  have d1':(x.card==2)=false:=by simp[hc]
  rw[d1']at hun;simp only[QAs]at hun;simp only[d,d1,hun,Qx,eE,seval]
 have d1:(x.card != 2)=false:=by simp[hc]
 have d1':(x.card==2)=true:=by simp[hc]
 rw[d1',QAC]at hun;simp only[d,d1,Qx,eE,seval];refine aC (BD x.union) ?_;cases hus:Q5 x.union
 ·rw[hus]at hun;simp only[QAs]at hun;simp only[hun,QAb,Qa,seval]
 rw[hus,QAC]at hun;simp only[QAD,Qa,seval]
 let I:Nat→St→Prop:=fun n st=>∃f fr j,st=⟨f,[fr],[]⟩∧n=m.fields.length-j∧j≤m.fields.length∧(m.fields.take j).any (fun y=>y.name==x.union)=false∧f 1=.int .i64 (i:Nat)∧f 2=.ptr 0 2 0∧f 5=.ptr 0 5 0∧f 6=.bool ((m.fields.take (min j i)).any fun y=>y.union==x.union)∧f 7=.int .i64 (j:Nat)∧
  fr 2=.cells [.str m.name,.list (m.fields.map fun n=>.agg n.cells),.list (m.free.map fun n=>.agg n.cells),.list (m.gone.map AV.str),.list (m.notes.map fun n=>.agg n.cells)]∧fr 5=.cells x.cells
 refine Qe I _ ⟨_,_,0,rfl,rfl,Qzl _,rfl,(by rfl),(by rfl),(by rfl),by rw[Nat.zero_min];exact(by rfl),(by rfl),(by rfl),by rw[QD];exact(by rfl)⟩ ?_;rintro _ st ⟨f,fr,j,rfl,rfl,hj,hal,h1,h2,h5,h6,h7,o2,o5⟩;rw[QD]at o5;simp only[QAo,h2,h7,o2,eE,seval];by_cases hlt:j<m.fields.length
 ·obtain⟨y,hy⟩:∃y,m.fields[j]? = some y:=⟨m.fields[j],Qzf hlt⟩;have hgy:(m.fields.map fun n=>AV.agg n.cells)[j]? = some (.agg y.cells):=by rw[QAm,hy];rfl
  rw[QD]at hgy;have e1:=Qn j _ hlt (by simp only[maxLen];omega);have ht:=Jj (q:=fun y:SF=>y.name==x.union) hy;rw[hal,QAF]at ht;simp only[QA hlt,Qk,QAq,Qc,hgy,h2,h5,h7,o2,o5,Qx,eE,seval];cases hp:(y.name==x.union)
  case true=>
   have hr:m.fields.any (fun y=>y.name==x.union)=true:=QAJ.2 ⟨y,Qzq hy,hp⟩;rw[hr]at hun;simp only[QAD,QAs]at hun;simp only[hun,Qa,seval]
  rw[hp]at ht;simp only[h1,h7,Qa,seval];by_cases hji:j<i
  case neg=>
   have dji:decide ((j:Int)<(i:Nat))=false:=QAR (by omega);have hmn:min (j+1) i=min j i:=by omega
   simp only[dji,h7,e1,Qa,seval];exact⟨m.fields.length-(j+1),by omega,_,_,j+1,rfl,rfl,by omega,ht,(by exact h1),(by exact h2),(by exact h5),by rw[hmn];exact(by exact h6),(by rfl),o2,by rw[QD];exact o5⟩
  have dji:decide ((j:Int)<(i:Nat))=true:=QAM (by omega);have hm1:min (j+1) i=j+1:=by omega
  have hm0:min j i=j:=by omega
  have ht2:=Jj (q:=fun y:SF=>y.union==x.union) hy;rw[hm0]at h6;simp only[dji,Qk,QAq,Qc,hgy,h2,h5,h7,o2,o5,Qx,eE,seval];cases hpu:(y.union==x.union)
  ·rw[hpu,QAQ]at ht2;simp only[h7,e1,Qa,seval];exact⟨m.fields.length-(j+1),by omega,_,_,j+1,rfl,rfl,by omega,ht,(by exact h1),(by exact h2),(by exact h5),by rw[hm1,ht2];exact(by exact h6),(by rfl),o2,by rw[QD];exact o5⟩
  ·rw[hpu,Bool.or_true]at ht2;simp only[h7,e1,Qa,seval];exact⟨m.fields.length-(j+1),by omega,_,_,j+1,rfl,rfl,by omega,ht,(by exact h1),(by exact h2),(by exact h5),by rw[hm1,ht2];exact(by rfl),(by rfl),o2,by rw[QD];exact o5⟩
 have hjl:j=m.fields.length:=by omega
 have hmi:min j i=i:=by omega
 rw[hmi]at h6;rw[QzJ (by omega)]at hal;rw[hal]at hun;simp only[QAb,QAC]at hun;simp only[QC hlt,h6,Qa,seval];cases hea:(m.fields.take i).any fun y=>y.union==x.union
 ·rw[hea]at hun;simp only[QAb,QAE]at hun;simp only[hun,QAb,Qa,seval]
 rw[hea]at hun;simp only[QAD,QAF]at hun;cases i with
 |zero=>cases hea
 |succ k=>
  obtain⟨y,hy⟩:∃y,m.fields[k]? = some y:=⟨m.fields[k]'(by omega),Qzf (by omega)⟩;have hgy:(m.fields.map fun n=>AV.agg n.cells)[k]? = some (.agg y.cells):=by rw[QAm,hy];rfl
  rw[QD]at hgy;have e2:=JC k _ hil (by simp only[maxLen];omega);rw[upv,hy]at hun;simp only[QAD,e2,Qk,QAq,Qc,hgy,h1,h2,h5,o2,o5,Qx,hun,eE,seval]
end

section
variable {M:Nat}(hM:M≤1048576)(S:SC)(hS:S.ok M)(F:List Bool)(hF:F.length=S.msgs.length)
include hM hS hF in
theorem QkQ (m:SM)(hm:m.ok M):Qu Tryz.prog 118 [S.av,QT m,.list (F.map AV.bool)] (.bool (Xh S F m)):=by
 obtain⟨l1,l2,_⟩:=Zd S hS hM;have hl1:=hm.len1;generalize hp:(fun n=>decide (Je S n≥0) && !(F[(Je S n).toNat]?.getD false))=p;have hs:Xh S F m=(XA m m.fields.length).any p:=by
  unfold Xh XA XU;rw[QAv,hp]
 let I:Nat→St→Prop:=fun n st=>∃f fr j,st=⟨f,[fr],[]⟩∧n=m.fields.length-j∧j≤m.fields.length∧(XA m j).any p=false∧f 2=.list (F.map AV.bool)∧f 3=.ptr 0 3 0∧f 4=.ptr 0 4 0∧f 7=.int .i64 (j:Nat)∧
  fr 3=.cells [.list (S.msgs.map fun n=>.agg n.cells),.list (S.enums.map fun n=>.agg n.cells),.list (S.servs.map fun n=>.agg n.cells)]∧fr 4=.cells m.cells∧∀s∈[8],(fr s).isRow=false
 refine Qrh.fn (by simp) ?_;simp only[SC.av,QT,Xo,eE,seval];refine Qe I _ ⟨_,_,0,rfl,rfl,Qzl _,rfl,(by rfl),(by rfl),(by rfl),(by rfl),(by rfl),by rw[Xo];exact(by rfl),by intro s hs;simp only[QAj,QAT,or_false]at hs;subst hs;rfl⟩ ?_;rintro _ st ⟨f0,fr0,j,rfl,rfl,hj,hal,h20,h30,h40,h70,J4,JO,r8⟩;refine QJ (a:=_) [8] r8 ?_;intro f fr hf hmm hn;have h2:f 2=.list (F.map AV.bool):=by rw[hf,h20]<;>rfl
 have h3:f 3=.ptr 0 3 0:=by rw[hf,h30]<;>rfl
 have h4:f 4=.ptr 0 4 0:=by rw[hf,h40]<;>rfl
 have h7:f 7=.int .i64 (j:Nat):=by rw[hf,h70]<;>rfl
 have o3:fr 3=.cells [.list (S.msgs.map fun n=>.agg n.cells),.list (S.enums.map fun n=>.agg n.cells),.list (S.servs.map fun n=>.agg n.cells)]:=by rw[hmm 3 (by decide),J4]<;>rfl
 have o4:fr 4=.cells m.cells:=by rw[hmm 4 (by decide),JO]<;>rfl
 have n8:=hn 8 (by decide);clear hf hmm hn h20 h30 h40 h70 J4 JO r8;have o4':=o4;rw[Xo]at o4;simp only[QAo,h4,h7,o4,eE,seval];by_cases hlt:j<m.fields.length
 case neg=>
  have ej:j=m.fields.length:=by omega
  subst ej;rw[hal]at hs;simp only[QC hlt,hs,Qa,seval]
 obtain⟨x,hx⟩:∃x,m.fields[j]? = some x:=⟨m.fields[j],Qzf hlt⟩;have hg:(m.fields.map fun n=>AV.agg n.cells)[j]? = some (.agg x.cells):=by rw[QAm,hx];rfl
 rw[QD]at hg;have e1:=Qn j _ hlt (by simp only[maxLen];omega);have hnd:=U3 hx;simp only[QA hlt,n8,Qk,QAq,Qc,hg,h4,h7,o4,eE,seval];have key:∀f:Fr,∀fr:Nat→Ob,(XA m (j+1)).any p=false→f 2=.list (F.map AV.bool)→f 3=.ptr 0 3 0→f 4=.ptr 0 4 0→f 7=.int .i64 ((j+1:Nat):Int)→fr 3=.cells [.list (S.msgs.map fun n=>.agg n.cells),.list (S.enums.map fun n=>.agg n.cells),.list (S.servs.map fun n=>.agg n.cells)]→fr 4=.cells m.cells→(fr 8).isRow=false→∃k,k<m.fields.length-j∧I k ⟨f,[fr],[]⟩ :=
  fun f fr a b c d e g h i=>⟨m.fields.length-(j+1),by omega,f,fr,j+1,rfl,rfl,by omega,a,b,c,d,e,g,h,fun s hs=>by simp only[QAj,QAT,or_false]at hs;subst hs;exact i⟩
 by_cases hc:x.card=1
 case neg=>
  have d1:(x.card != 1)=true:=by simp[hc]
  rw[Qzj (by simp[hc])]at hnd;simp only[d1,h7,e1,Qa,seval];exact key _ _ (by rw[hnd];exact hal) (by exact h2) (by exact h3) (by exact h4) (by rfl) (by exact o3) (by exact o4') rfl
 have d1:(x.card != 1)=false:=by simp[hc]
 by_cases hk:x.kind=10
 case neg=>
  have d2:(x.kind != 10)=true:=by simp[hk]
  rw[Qzj (by simp[hk])]at hnd;simp only[d1,d2,h7,e1,eE,seval];exact key _ _ (by rw[hnd];exact hal) (by exact h2) (by exact h3) (by exact h4) (by rfl) (by exact o3) (by exact o4') rfl
 have d2:(x.kind != 10)=false:=by simp[hk]
 rw[Qzk (by simp[hc,hk])]at hnd;have hh:=BC S l1 x.tname;simp only[SC.av]at hh;simp only[d1,d2,h3,o3,eE,seval];refine aC hh ?_;have hpn:(XA m (j+1)).any p=p x.tname:=by
  rw[hnd,List.any_append,hal,QAF];simp
 rcases Xp (fun m:SM=>m.name==x.tname) S.msgs 0 with⟨g1,g2⟩|⟨k,y,g1,g2,g3⟩
 ·have e2:Je S x.tname = -1:=g1;have e3:p x.tname=false:=by rw[←hp];simp[e2]
  simp only[e2,h7,e1,Qa,seval];exact key _ _ (by rw[hpn,e3]) (by exact h2) (by exact h3) (by exact h4) (by rfl) (by exact o3) (by exact o4') rfl
 ·rw[QzB]at g1;have e2:Je S x.tname=(k:Int):=g1;have hkl:k<F.length:=by rw[hF];exact(Qze.1 g2).1
  have hFk:F[k]? = some F[k]:=Qzf hkl;have hFm:(F.map AV.bool)[k]? = some (.bool F[k]):=by rw[QAm,hFk];rfl
  have dk:decide ((k:Int)≥0)=true:=QAM (by omega);have e3:p x.tname=!F[k]:=by
   rw[←hp];simp[e2,hFk]
  simp only[e2,Qk,QAq,Qc,hFm,h2,eE,seval];cases hb:F[k]
  ·rw[hb]at e3;have hr:Xh S F m=true:=by
    rw[hs];have hin:x.tname∈XA m m.fields.length:=by
     unfold XA;rw[QAv];exact QAk.2 ⟨x,List.mem_filter.2 ⟨Qzq hx,by simp[hc,hk]⟩,rfl⟩
    exact QAJ.2 ⟨_,hin,e3⟩
   simp only[hr,QAb,Qa,seval]
  ·rw[hb]at e3;simp only[h7,e1,QAD,Qa,seval];exact key _ _ (by rw[hpn,e3];rfl) (by exact h2) (by exact h3) (by exact h4) (by rfl) (by exact o3) (by exact o4') rfl
end

structure FnS (S:SC)(B:List Bool)(a:Bool)(r:Nat)(f:Fr)(fr:Nat→Ob):Prop where
 h1:f 1=.ptr 0 1 0
 o1:fr 1=.cells [.list (S.msgs.map fun n=>.agg n.cells),.list (S.enums.map fun n=>.agg n.cells),.list (S.servs.map fun n=>.agg n.cells)]
 h3:f 3=.vec 0 10 1 0 S.msgs.length false
 m10:fr 10=.vec 1 1 (B.map AV.bool)
 h4:f 4=.bool a
 h5:f 5=.int .i64 (r:Nat)

section
variable {M:Nat}(hM:M≤1048576)(S:SC)(hS:S.ok M)
include hM hS
theorem Qo8 (r:Nat)(F:List Bool)(hF:F.length=S.msgs.length)(f:Fr)(fr:Nat→Ob)(H:FnS S F false r f fr)(h6:f 6=.int .i64 0)(Q:Exit→St→Prop)
  (hq:∀f fr,FnS S (Xi S F S.msgs.length) (decide (Xi S F S.msgs.length≠F)) r f fr→Q (.exit 2) ⟨f,[fr],[]⟩):QE Tryz.prog (.loop Rg) ⟨f,[fr],[]⟩ Q:=by
 let I:Nat→St→Prop:=fun n st=>∃f fr i,st=⟨f,[fr],[]⟩∧n=S.msgs.length-i∧i≤S.msgs.length∧FnS S (Xi S F i) (decide (Xi S F i≠F)) r f fr∧f 6=.int .i64 (i:Nat)
 have hl1:=hS.len1;refine Qe I _ ⟨f,fr,0,rfl,rfl,Qzl _,by rw[Xi,QAR (by simp)];exact H,h6⟩ ?_;clear H h6;rintro _ st ⟨f,fr,i,rfl,rfl,hi,⟨h1,o1,h3,m10,h4,h5⟩,h6⟩;simp only[QAo,h1,h6,o1,eE,seval];by_cases hlt:i<S.msgs.length
 case neg=>
  have e:i=S.msgs.length:=by omega
  subst e;simp only[QC hlt,Qa,seval];exact hq _ _ ⟨(by exact h1),o1,(by exact h3),m10,(by exact h4),(by exact h5)⟩
 obtain⟨x,hx⟩:∃x,S.msgs[i]? = some x:=⟨S.msgs[i],Qzf hlt⟩;have hg:(S.msgs.map fun n=>AV.agg n.cells)[i]? = some (.agg x.cells):=by rw[QAm,hx];rfl
 rw[Xo]at hg;have e1:=Qn i _ hlt (by simp only[maxLen];omega);have hsl:(Xi S F i).length=S.msgs.length:=by rw[JZ,hF]
 have hss:Xi S F (i+1)=Kd S (Xi S F i) i:=rfl;have htr:=KE S F i;have htr2:=KE S F (i+1);generalize Xi S F i=B at *;obtain⟨b,hb⟩:∃b,B[i]? = some b:=⟨B[i]'(by omega),Qzf (by omega)⟩;have hbm:(B.map AV.bool)[i]? = some (.bool b):=by rw[QAm,hb];rfl
 have ia:∀fr':Nat→Ob,fr' 10=.vec 1 1 (B.map AV.bool)→Qc [fr'] 1 none (.vec 0 10 1 0 S.msgs.length false) (i:Int)=some (.vptr 0 10 1 i 0):=by
  intro fr' h;have e:Am.Qf [fr'] 0 10=.vec 1 1 (B.map AV.bool):=h;simp only[Qc,e,Qk,if_true,QAq];simp;omega
 have il:∀fr':Nat→Ob,fr' 10=.vec 1 1 (B.map AV.bool)→Xn [fr'] none (.vptr 0 10 1 i 0)=some (.bool b):=by
  intro fr' h;have e:Am.Qf [fr'] 0 10=.vec 1 1 (B.map AV.bool):=h;simp[Xn,e,hb,AV.cells]<;>rfl
 cases b
 case true=>
  have hst:Kd S B i=B:=by
   unfold Kd;rw[hx];dsimp only;rw[Qzj (by rw[hb];simp)]
  rw[hst]at hss;simp only[QA hlt,ia _ m10,il _ m10,h3,h6,e1,Qa,seval];exact⟨S.msgs.length-(i+1),by omega,_,_,i+1,rfl,rfl,by omega,by rw[hss];exact⟨(by exact h1),o1,(by exact h3),m10,(by exact h4),(by exact h5)⟩,(by rfl)⟩
 have hc:=QkQ hM S hS B hsl x (hS.msgs x (Qzq hx));simp only[QT,Xo,SC.av]at hc;simp only[QA hlt,ia _ m10,il _ m10,h1,h3,h6,o1,QAb,eE,seval];simp only[Qk,QAq,Qc,hg,eE,seval];refine Q4 hc ?_ rfl rfl (.inr rfl) ?_
 ·have ht:List.take S.msgs.length (B.map AV.bool)=B.map AV.bool:=QzJ (by rw[QAo];omega);simp only[QzI,Qz4,AV.stillL,AV.still,Am.Qf,m10,QAo,hsl,ht,QzQ,QzB,Qzc,Qz7,QAs,Qzv,Qa,seval]<;>rfl
 cases hn:Xh S B x
 case true=>
  have hst:Kd S B i=B:=by
   unfold Kd;rw[hx];dsimp only;rw[Qzj (by rw[hn];simp)]
  rw[hst]at hss;simp only[h6,e1,QAD,Qa,seval];exact⟨S.msgs.length-(i+1),by omega,_,_,i+1,rfl,rfl,by omega,by rw[hss];exact⟨(by exact h1),o1,(by exact h3),m10,(by exact h4),(by exact h5)⟩,(by rfl)⟩
 have hst:Kd S B i=B.set i true:=by
  unfold Kd;rw[hx];dsimp only;rw[Qzk ⟨hb,hn⟩]
 rw[hst]at hss;have hne:decide (Xi S F (i+1)≠F)=true:=by
  have h1:=Fm hb;refine QAM fun h=>?_
  rw[hss]at h;rw[h]at h1;rcases htr with g|g
  ·rw[g]at h1;omega
  ·omega
 have ist:∀fr':Nat→Ob,fr' 10=.vec 1 1 (B.map AV.bool)→Q1 [fr'] (.vptr 0 10 1 i 0) [.bool true]=some [Qw fr' 10 (.vec 1 1 ((B.set i true).map AV.bool))]:=by
  intro fr' h;have e:Am.Qf [fr'] 0 10=.vec 1 1 (B.map AV.bool):=h;rw[List.map_set];simp only[Q1,e,hbm];simp[AV.cells,AV.rfL,AV.rf,Am.put,Ja]
 simp only[ia _ m10,ist _ m10,h3,h6,e1,QAb,eE,seval];exact⟨S.msgs.length-(i+1),by omega,_,_,i+1,rfl,rfl,by omega,by rw[hne,hss];exact⟨(by exact h1),(by exact o1),(by exact h3),(by rfl),(by rfl),(by exact h5)⟩,(by rfl)⟩

theorem u50:Qu Tryz.prog 50 [S.av] (.list ((Q2 S).map AV.bool)):=by
 have hl1:=hS.len1;have hz:Jq 1 [AV.bool false]=.bool false:=rfl;have hr0:List.replicate S.msgs.length (AV.bool false)=(List.replicate S.msgs.length false).map AV.bool:=by simp
 let I:Nat→St→Prop:=fun n st=>∃f fr r F a,st=⟨f,[fr],[]⟩∧n=S.msgs.length-r∧r≤S.msgs.length∧F.length=S.msgs.length∧Q2 S=(if a=true then Zz S (S.msgs.length-r) F else F)∧FnS S F a r f fr
 refine k50.fn (by simp) ?_;simp only[SC.av,QAo,eE,seval];refine DE (n:=S.msgs.length) (k:=S.msgs.length) rfl rfl (Qzc _) (by omega) (by omega) rfl ?_;simp only[hz,hr0,Qa,seval];refine Qe I _ ⟨_,_,0,List.replicate S.msgs.length false,true,rfl,rfl,Qzl _,by simp,rfl,⟨(by rfl),(by rfl),(by rfl),(by rfl),(by rfl),(by rfl)⟩⟩ ?_;rintro _ st ⟨f,fr,r,F,a,rfl,rfl,hr,hF,hs,⟨h1,o1,h3,m10,h4,h5⟩⟩;simp only[QAo,h1,h5,o1,eE,seval];have hfin:∀B:List Bool,B.length=S.msgs.length→fr 10=.vec 1 1 (B.map AV.bool)→Q2 S=B→List.take S.msgs.length (B.map AV.bool)=(Q2 S).map AV.bool:=by
  intro B hB _ e;rw[e];exact QzJ (by rw[QAo];omega)
 by_cases hlt:r<S.msgs.length
 case neg=>
  have hsF:Q2 S=F:=by
   rw[hs];have e:S.msgs.length-r=0:=by omega
   rw[e,Zz];split<;>rfl
  have ht:=hfin F hF m10 hsF;simp only[QC hlt,h3,m10,ht,hF,QAo,QzQ,QzB,Qzc,Qz7,QAc,AV.un,eE,seval]
 cases a
 ·rw[Qzj (by simp)]at hs;have ht:=hfin F hF m10 hs;simp only[QA hlt,h3,h4,m10,ht,hF,QAo,QzQ,QzB,Qzc,Qz7,QAc,AV.un,eE,seval]
 ·rw[Qzk rfl]at hs;have e1:=Qn r _ hlt (by simp only[maxLen];omega);simp only[QA hlt,h4,Qa,seval];refine Qo8 hM S hS r F hF _ _ ⟨(by exact h1),o1,(by exact h3),m10,(by rfl),(by exact h5)⟩ (by rfl) _ (fun f fr H=>?_);obtain⟨h1,o1,h3,m10,h4,h5⟩:=H;simp only[h5,e1,Qa,seval];refine⟨S.msgs.length-(r+1),by omega,_,_,r+1,Xi S F S.msgs.length,decide (Xi S F S.msgs.length≠F),rfl,rfl,by omega,by rw[JZ,hF],?_,⟨(by exact h1),o1,(by exact h3),m10,(by exact h4),(by rfl)⟩⟩;rw[hs];have e:S.msgs.length-r=(S.msgs.length-(r+1))+1:=by omega
  rw[e,Zz];by_cases hh:Xi S F S.msgs.length=F
  ·rw[Qzk hh,Qzj (by simp[hh])];exact hh.symm
  ·rw[Qzj hh,Qzk (by simp[hh])]
end

def QV (fr:Nat→Ob)(s R:Nat)(d:List UInt8)(l:List PB):Nat→Ob :=
 Qw (Qw fr R (.vec (1+l.length) 3 (l.map PB.av))) s (.cells [.str d,.vec 0 R (1+l.length) 0 l.length false])
section
variable (fr:Nat→Ob)(s R:Nat)(d:List UInt8)(l:List PB)(h:R≠s)
theorem Qv (k:Nat):QV fr s R d l k=bif Nat.beq k s then .cells [.str d,.vec 0 R (1+l.length) 0 l.length false]else bif Nat.beq k R then .vec (1+l.length) 3 (l.map PB.av)else fr k:=id rfl
theorem WM:QV fr s R d l s=.cells [.str d,.vec 0 R (1+l.length) 0 l.length false]:=QM ..
include h in
theorem WN:QV fr s R d l R=.vec (1+l.length) 3 (l.map PB.av):=by rw[QV,QP _ _ h,QM]
theorem Zq {k:Nat}(h1:k≠R)(h2:k≠s):QV fr s R d l k=fr k:=by rw[QV,QP _ _ h2,QP _ _ h1]
theorem UF (h1:fr s=.cells [.str d,.vec 0 R (1+l.length) 0 l.length false])(h2:fr R=.vec (1+l.length) 3 (l.map PB.av)):QV fr s R d l=fr:=by
 rw[QV,WH fr R _ h2,WH fr s _ h1]
theorem UG {k:Nat}(h1:k≠R)(h2:k≠s)(o:Ob):Qw (QV fr s R d l) k o=QV (Qw fr k o) s R d l:=by
 rw[QV,QV,ZN _ s k _ _ (Ne.symm h2),ZN _ R k _ _ (Ne.symm h1)]
theorem Ht (A:Ob)(h:R≠s):Qw (Qw (Qw fr s A) R (.vec 1 3 [])) s (.cells ([.str d,.nils].set 1 (.vec 0 R 1 0 0 false)))=QV fr s R d []:=by
 rw[QV,ZN fr s R _ _ (Ne.symm h),Jb];rfl
include h in
theorem FC (x:PB):Qw (Qw (QV fr s R d l) R (.vec (1+l.length+1) 3 (l.map PB.av++[x.av]))) s (.cells [.str d,.vec 0 R (1+l.length+1) 0 (l.length+1) false])=QV fr s R d (l++[x]):=by
 have e:(l++[x]).length=l.length+1:=by simp
 rw[QV,QV,e,QAw,ZN (Qw fr R _) s R _ _ (Ne.symm h),Jb,Jb];rfl
end

section
variable (fr:Nat→Ob)(s R:Nat)(d:List UInt8)(l:List PB)(h:R≠s)(hR:X1 R 160=true)(hl:l.length≤1073741824)(n e:Int)(m:Qo)
include h hR hl

theorem Qwh (Zu:Bool)  : Qq Tryz.prog 47 [.ptr 0 s 0,.bool Zu,.int .i64 n,.int .i64 e] ( QV fr s R d l :: m) fun x m1=>x=.tup []∧m1 =  QV fr s R d (l++pb d n (!Zu) e) :: m:=by
 have hs:=WM fr s R d l;have hr:=WN fr s R d l h;cases Zu
 ·refine Rf.go (by simp) ?_;have ep:pb d n true e=[]:=rfl;simp only[QAb,ep,Qz6,Qa,seval]
 ·refine Rf.go (by simp) ?_;simp only[hs,eE,seval];refine Xa rfl rfl (by decide) rfl rfl ?_;refine JK (xs:=l.map PB.av) (by rfl) (by simp only[hr,DJ,seval]) hR (by simp) (by rfl) rfl (by simp only[Qzr,QAe,maxLen];omega) (by simp only[Qzr,QAe];omega) ?_;have hb:(s==R)=false:=QAO.2 (Ne.symm h);have ha:=FC fr s R d l h ⟨d,n,e⟩;have ep:pb d n false e=[⟨d,n,e⟩]:=rfl;simp only[PB.av]at ha;simp only[hs,hb,nn0,QzI,Qz4,cond_false,eE,seval];simp only[ha,ep,seval]

theorem BE (Zu:Bool)(a:Nat→Ob):Qq Tryz.prog 47 [.ptr 1 s 0,.bool Zu,.int .i64 n,.int .i64 e] (a :: QV fr s R d l :: m) fun x m1=>x=.tup []∧m1=a :: QV fr s R d (l++pb d n (!Zu) e) :: m:=by
 have hs:=WM fr s R d l;have hr:=WN fr s R d l h;cases Zu
 ·refine Rf.go (by simp) ?_;have ep:pb d n true e=[]:=rfl;simp only[QAb,ep,Qz6,Qa,seval]
 ·refine Rf.go (by simp) ?_;simp only[hs,eE,seval];refine Xa rfl rfl (by decide) rfl rfl ?_;refine JK (xs:=l.map PB.av) (by rfl) (by simp only[hr,DJ,seval]) hR (by simp) (by rfl) rfl (by simp only[Qzr,QAe,maxLen];omega) (by simp only[Qzr,QAe];omega) ?_;have hb:(s==R)=false:=QAO.2 (Ne.symm h);have ha:=FC fr s R d l h ⟨d,n,e⟩;have ep:pb d n false e=[⟨d,n,e⟩]:=rfl;simp only[PB.av]at ha;simp only[hs,hb,nn0,QzI,Qz4,cond_false,eE,seval];simp only[ha,ep,seval]

theorem Qo9 {M:Nat}(hM:M+8≤maxLen)(N:List SN)(hN:N.length≤maxLen)(hn:∀x∈N,x.ok M)(t:Int)(ht:t∈KD):Qq Tryz.prog 126 [.ptr 0 s 0,.list (N.map fun x=>.agg x.cells),.int .i64 t,.int .i64 n] (QV fr s R d l :: m) fun x m1=>x=.tup []∧m1=QV fr s R d (l++Xl d n N t) :: m:=by
 have e:pb d n (!(XT N t != 0)) (XT N t)=Xl d n N t:=by unfold Xl;rw[bne,QAW]
 refine QrF.go (by simp) ?_;simp only[Qa,seval];refine aC (Qvl hM N hN hn t ht) ?_;simp only[Qa,seval];refine Qb (BE fr s R d l h hR hl n (XT N t) m (XT N t != 0) Qh) rfl ?_;simp only[e,Qa,seval]
end

def Hd (f:Fr):List (Nat×AV)→Prop
 | []=>True
 |(k,v) :: l=>f k=v∧Hd f l

section
variable (fr:Nat→Ob)(s R:Nat)(d:List UInt8)(h:R≠s)(hR:X1 R 160=true)(lo hi:Int)(F:List PS)(hF:F.length≤1048576)(m:Qo)

def W3 (F:List PS)(s:Nat)(lo hi:Int)(i:Nat):List (Nat×AV):=[(0,.ptr 1 s 0),(1,.list (F.map Q0)),(2,.int .i64 lo),(3,.int .i64 hi),(8,.int .i64 (i:Nat))]

section
variable (l:List PB)(i:Nat)(x:PS)(hx:F[i]? = some x)(own:Nat→Ob)(hl:l.length≤1073741824)(f:Fr)(hf:Hd f (W3 F s lo hi i))(K:St→Prop)
include h hR hl hf hx hF
theorem up3 (hK:∀f,Hd f (W3 F s lo hi i)→K ⟨f,own :: QV fr s R d (l++pb d (-1) (decide (x.lo≥lo)&&decide (x.hi≤hi)&&decide (x.lo≤x.hi)) 6) :: m,[]⟩):Ql Tryz.prog GV ⟨f,own :: QV fr s R d l :: m,[]⟩ K:=by
 obtain⟨h0,h1,h2,h3,h8,-⟩:=hf;have hb:(decide (x.lo≥lo)&&decide (x.hi≤hi)&&decide (x.lo≤x.hi))=!(decide (x.lo<lo)||decide (x.hi > hi)||decide (x.lo > x.hi)):=(by rw[QzY];simp only[QAl,Qz0,QAN,Qzz,QzX];omega);rw[hb]at hK;have hg:(F.map Q0)[i]? = some (.agg [.int .i64 x.lo,.int .i64 x.hi]):=by rw[QAm,hx];rfl
 simp only[GV,Qk,QAq,Qc,hg,h0,h1,h2,h8,eE,seval];cases c1:decide (x.lo<lo)<;>cases c2:decide (x.hi > hi)<;>cases c3:decide (x.lo > x.hi) <;>
 ·rw[c1,c2,c3]at hK;simp only[c2,c3,Qk,QAq,Qc,hg,h1,h3,h8,eE,seval];refine Qb (BE fr s R d l h hR hl (-1) 6 m _ own) (by simp only[QzI,Qz4,Qa,seval]<;>rfl) ?_;simp only[Qa,seval];exact hK _ (by simp only[Hd,W3,Qz7,h0,h1,h2,h3,h8,Qa,seval])

theorem up4 (hK:∀f,Hd f (W3 F s lo hi i)→K ⟨f,own :: QV fr s R d (l++pb d (-1) (Cn F i x) 11) :: m,[]⟩):Ql Tryz.prog Y2 ⟨f,own :: QV fr s R d l :: m,[]⟩ K:=by
 obtain⟨h0,h1,h2,h3,h8,-⟩:=hf;have hlt:i<F.length:=(Qze.1 hx).1;have hg:(F.map Q0)[i]? = some (.agg [.int .i64 x.lo,.int .i64 x.hi]):=by rw[QAm,hx];rfl
 cases i with
 |zero=>
  have d0:decide (((0:Nat):Int) > 0)=false:=rfl;simp only[Y2,h0,h8,Qa,seval];refine Qb (BE fr s R d l h hR hl (-1) 11 m false own) (by simp only[QzI,Qz4,Qa,seval]<;>rfl) ?_;simp only[Qa,seval];exact hK _ (by simp only[Hd,W3,Qz7,h0,h1,h2,h3,h8,Qa,seval])
 |succ j=>
  obtain⟨y,hj⟩:∃y,F[j]? = some y:=⟨F[j]'(by omega),Qzf (by omega)⟩;have hgj:(F.map Q0)[j]? = some (.agg [.int .i64 y.lo,.int .i64 y.hi]):=by rw[QAm,hj];rfl
  have wj:=JC j _ hlt (by simp only[maxLen];omega);have d0:decide (((j+1:Nat):Int) > 0)=true:=QAM (by omega);have hb:decide (x.lo > y.hi)=!decide (x.lo≤y.hi):=(by rw[QzY];simp only[QAl,Qz0,QAN];omega);simp only[Cn,hj,hb]at hK;simp only[Y2,d0,wj,Qk,QAq,Qc,hg,hgj,h0,h1,h8,eE,seval];refine Qb (BE fr s R d l h hR hl (-1) 11 m (decide (x.lo≤y.hi)) own) (by simp only[QzI,Qz4,Qa,seval]<;>rfl) ?_;simp only[Qa,seval];exact hK _ (by simp only[Hd,W3,Qz7,h0,h1,h2,h3,h8,Qa,seval])
end

include h hR hF in
theorem RN (l:List PB)(hl:l.length≤1048576000):Qq Tryz.prog 127 [.ptr 0 s 0,.list (F.map Q0),.int .i64 lo,.int .i64 hi] (QV fr s R d l :: m) fun x m1=>x=.tup []∧m1=QV fr s R d (l++upto F (Ju d lo hi F) F.length) :: m:=by
 have hul:∀n,n≤F.length→(l++upto F (Ju d lo hi F) n).length≤1051000000:=by
  intro n hn;have:=QK (l:=F) (Ji d lo hi F) n;rw[QzM];omega
 let I:Nat→St→Prop:=fun k st=>∃f own i,st=⟨f,own :: QV fr s R d (l++upto F (Ju d lo hi F) i) :: m,[]⟩∧k=F.length-i∧i≤F.length∧Hd f (W3 F s lo hi i)
 refine QrG.go (by simp) ?_;simp only[QfG,QfH,VQ,Qa,seval];refine Qe I _ ⟨_,_,0,by rw[upto,Qz6],rfl,Qzl _,by simp only[Hd,W3,Qz7,Qa,seval]<;>exact⟨rfl,trivial⟩⟩ ?_;rintro _ st ⟨f,own,i,rfl,rfl,hil,hf⟩;have hf':=hf;obtain⟨h0,h1,h2,h3,h8,-⟩:=hf';simp only[VT,VR,QAo,h1,h8,Qa,seval];by_cases hlt:i<F.length
 case neg=>
  have e:i=F.length:=by omega
  subst e;simp only[QC hlt,Qa,seval]
 obtain⟨x,hx⟩:∃x,F[i]? = some x:=⟨F[i],Qzf hlt⟩;have e1:=Qn i _ hlt (by simp only[maxLen];omega);simp only[QA hlt,Qa,seval];have q0:=hul i hil;refine up3 fr s R d h hR lo hi F hF m _ i x hx own (by omega) _ (by simp only[Hd,W3,Qz7,h0,h1,h2,h3,h8,Qa,seval]) _ (fun f hf=>?_);simp only[Qa,seval];have q1:=QR d (-1) (decide (x.lo≥lo)&&decide (x.hi≤hi)&&decide (x.lo≤x.hi)) 6;refine up4 fr s R d h hR lo hi F hF m _ i x hx own (by rw[QzM];omega) _ hf _ (fun f hf=>?_);clear h0 h1 h2 h3 h8;obtain⟨h0,h1,h2,h3,h8,-⟩:=hf;simp only[VS,h8,e1,Qa,seval];exact⟨F.length-(i+1),by omega,_,own,i+1,by rw[XY hx,Co,Qzw,Qzw],rfl,by omega,by simp only[Hd,W3,Qz7,h0,h1,h2,h3,Qa,seval]⟩
end

theorem QH {fr:Nat→Ob}{s:Nat}{d:List UInt8}{l:List PB}{f:Fr}{K:St→Prop}{d0:Nat}{r0 r1 r2 r3:RA}{Zu:Bool}{n e:Int}(hs:(1100:Nat)≠s)(h0:r0.ev f=.ptr 0 s 0)(h1:r1.ev f=.bool Zu)(h2:r2.ev f=.int .i64 n)(h3:r3.ev f=.int .i64 e)(hl:l.length≤1073741824)
  (hk:K ⟨Qw f d0 (.tup []),[QV fr s 1100 d (l++pb d n (!Zu) e)],[]⟩):Ql Tryz.prog [⟨some d0,.callF (.f 47) [r0,r1,r2,r3],none⟩] ⟨f,[QV fr s 1100 d l],[]⟩ K :=
 Qb (Qwh fr s 1100 d l hs rfl hl n e [] Zu) (by simp only[QzI,Qz4,h0,h1,h2,h3]) hk
theorem JE {M:Nat}(hM:M+8≤maxLen){N:List SN}(hN:N.length≤maxLen)(hn:∀x∈N,x.ok M){fr:Nat→Ob}{s:Nat}{d:List UInt8}{l:List PB}{f:Fr}{K:St→Prop}{d0:Nat}{r0 r1 r2 r3:RA}{n t:Int}(hs:(1100:Nat)≠s)(h0:r0.ev f=.ptr 0 s 0)(h1:r1.ev f=.list (N.map fun x=>.agg x.cells))(h2:r2.ev f=.int .i64 t)(h3:r3.ev f=.int .i64 n)(ht:t∈KD)(hl:l.length≤1073741824)
  (hk:K ⟨Qw f d0 (.tup []),[QV fr s 1100 d (l++Xl d n N t)],[]⟩):Ql Tryz.prog [⟨some d0,.callF (.f 126) [r0,r1,r2,r3],none⟩] ⟨f,[QV fr s 1100 d l],[]⟩ K :=
 Qb (Qo9 fr s 1100 d l hs rfl hl n [] hM N hN hn t ht) (by simp only[QzI,Qz4,h0,h1,h2,h3]) hk
def Z5 (Qd:List Am.Item)(fr:Nat→Ob)(s:Nat)(d:List UInt8)(fl:List (Nat×AV))(p:List PB):Prop :=
 ∀(l:List PB) (f:Fr) (K:St→Prop),l.length≤1073741824→Hd f fl→(∀f,Hd f fl→K ⟨f,[QV fr s 1100 d (l++p)],[]⟩)→Ql Tryz.prog Qd ⟨f,[QV fr s 1100 d l],[]⟩ K
def Zf (Fb:List Bool)(i:Nat)(tw:Bool):List (Nat×AV):=[(2,.list (Fb.map AV.bool)),(3,.ptr 0 3 0),(4,.ptr 0 4 0),(7,.ptr 0 7 0),(8,.int .i64 (i:Nat)),(9,.ptr 0 9 0),(10,.bool tw)]

section
variable {M:Nat}(hM:M≤1048576)(S:SC)(hS:S.ok M)(m:SM)(hm:m.ok M)(Fb:List Bool)(i:Nat)(x:SF)(hi:m.fields[i]? = some x)(tw:Bool)(fr:Nat→Ob)
 (o3:fr 3=.cells [.list (S.msgs.map fun n=>.agg n.cells),.list (S.enums.map fun n=>.agg n.cells),.list (S.servs.map fun n=>.agg n.cells)]) (o4:fr 4=.cells m.cells) (o9:fr 9=.cells x.cells)

include o9 in
theorem Qwi:Z5 Gt fr 7 m.name (Zf Fb i tw) (pb m.name x.num (decide (x.num≥1)&&decide (x.num≤65535)) 6):=by
 rintro l f K hl ⟨h2,h3,h4,h7,h8,h9,h10,-⟩ hK;rw[QD]at o9;have hb:(decide (x.num≥1)&&decide (x.num≤65535))=!(decide (x.num<1)||decide (x.num > 65535)):=(by rw[QzY];simp only[QAl,Qz0,QAN,Qzz,QzX];omega);rw[hb]at hK;simp only[Gt,Qv,h9,o9,eE,seval];cases c1:decide (x.num<1)<;>cases c2:decide (x.num > 65535) <;>
 ·rw[c1,c2]at hK;simp only[c2,Qv,h9,o9,eE,seval];exact QH (by decide) (by exact h7) rfl rfl rfl hl (hK _ (by simp only[Hd,Zf,Qz7,h2,h3,h4,h7,h8,h9,h10,Qa,seval]))

include o4 o9 hi hM hm in
theorem Qwj:Z5 YW fr 7 m.name (Zf Fb i tw) (pb m.name x.num (Jw m.fields SF.num i x) 11):=by
 rintro l f K hl ⟨h2,h3,h4,h7,h8,h9,h10,-⟩ hK;rw[QD]at o9;rw[Xo]at o4;have hlt:i<m.fields.length:=(Qze.1 hi).1;have hl1:=hm.len1;cases i with
 |zero=>
  have d0:decide (((0:Nat):Int) > 0)=false:=rfl;simp only[YW,Qv,h8,h9,o9,eE,seval];exact QH (by decide) (by exact h7) rfl rfl rfl hl (hK _ (by simp only[Hd,Zf,Qz7,h2,h3,h4,h7,h8,h9,h10,Qa,seval]))
 |succ j=>
  obtain⟨y,hj⟩:∃y,m.fields[j]? = some y:=⟨m.fields[j]'(by omega),Qzf (by omega)⟩;have hgj:(m.fields.map fun n=>AV.agg n.cells)[j]? = some (.agg y.cells):=by rw[QAm,hj];rfl
  rw[QD]at hgj;have wj:=JC j _ hlt (by simp only[maxLen];omega);have d0:decide (((j+1:Nat):Int) > 0)=true:=QAM (by omega);have hb:decide (x.num > y.num)=!decide (x.num≤y.num):=(by rw[QzY];simp only[QAl,Qz0,QAN];omega);simp only[Jw,hj,hb]at hK;simp only[YW,Qv,Qk,QAq,Qc,hgj,wj,h4,h8,h9,o4,o9,d0,eE,seval];exact QH (by decide) (by exact h7) rfl rfl rfl hl (hK _ (by simp only[Hd,Zf,Qz7,h2,h3,h4,h7,h8,h9,h10,Qa,seval]))

include o9 in
theorem Qwk:Z5 Gu fr 7 m.name (Zf Fb i tw) (pb m.name x.num (Q5 x.name) 8):=by
 rintro l f K hl ⟨h2,h3,h4,h7,h8,h9,h10,-⟩ hK;rw[QD]at o9;rw[←QAW (Q5 x.name)]at hK;simp only[Gu,Qv,h9,o9,eE,seval];refine aC (BD x.name) ?_;simp only[Qv,h9,o9,eE,seval];exact QH (by decide) (by exact h7) rfl rfl rfl hl (hK _ (by simp only[Hd,Zf,Qz7,h2,h3,h4,h7,h8,h9,h10,Qa,seval]))

include o9 in
theorem Qwl:Z5 Gv fr 7 m.name (Zf Fb i tw) (pb m.name x.num (!tw) 9):=by
 rintro l f K hl ⟨h2,h3,h4,h7,h8,h9,h10,-⟩ hK;rw[QD]at o9;simp only[Gv,Qv,h9,h10,o9,eE,seval];exact QH (by decide) (by exact h7) rfl rfl rfl hl (hK _ (by simp only[Hd,Zf,Qz7,h2,h3,h4,h7,h8,h9,h10,Qa,seval]))

include o4 o9 hM hm in
theorem Qwm:Z5 Gw fr 7 m.name (Zf Fb i tw) (pb m.name x.num (!(kept m.free x.num) && !(m.gone.contains x.name)) 21):=by
 rintro l f K hl ⟨h2,h3,h4,h7,h8,h9,h10,-⟩ hK;rw[QD]at o9;rw[Xo]at o4;have hl2:=hm.len2;have hl3:=hm.len3;have hk:=Qko m.free (by simp only[maxLen];omega) x.num;have hh:=QkM m.gone (by simp only[maxLen];omega) x.name;rw[←Bool.not_or]at hK;simp only[Gw,Qv,h4,h9,o4,o9,eE,seval];refine aC hk ?_;cases a1:kept m.free x.num
 ·rw[a1,QAF]at hK;simp only[Qv,h4,h9,o4,o9,eE,seval];refine aC hh ?_;simp only[Qv,h9,o9,eE,seval];exact QH (by decide) (by exact h7) rfl rfl rfl hl (hK _ (by simp only[Hd,Zf,Qz7,h2,h3,h4,h7,h8,h9,h10,Qa,seval]))
 ·rw[a1,QAE]at hK;simp only[Qv,h9,o9,eE,seval];exact QH (by decide) (by exact h7) rfl rfl rfl hl (hK _ (by simp only[Hd,Zf,Qz7,h2,h3,h4,h7,h8,h9,h10,Qa,seval]))

include o3 o4 o9 hi hM hm hS in
theorem Qwn:Z5 Gx fr 7 m.name (Zf Fb i tw) (pb m.name x.num (Ww x) 1):=by
 rintro l f K hl ⟨h2,h3,h4,h7,h8,h9,h10,-⟩ hK;have hc:=Qwd x;simp only[Xm]at hc
 try rw[QD x]at hc
 rw[QD]at o9;rw[Xo]at o4;rw[←QAW (Ww x)]at hK;simp only[Gx,Qv,h9,o9,eE,seval];refine aC hc ?_;simp only[Qv,h9,o9,eE,seval];exact QH (by decide) (by exact h7) rfl rfl rfl hl (hK _ (by simp only[Hd,Zf,Qz7,h2,h3,h4,h7,h8,h9,h10,Qa,seval]))

include o3 o4 o9 hi hM hm hS in
theorem Qwo:Z5 Gy fr 7 m.name (Zf Fb i tw) (pb m.name x.num (JD S x) 12):=by
 rintro l f K hl ⟨h2,h3,h4,h7,h8,h9,h10,-⟩ hK;have hc:=Qwe S hS hM x;simp only[SC.av,Xm]at hc
 try rw[QD x]at hc
 rw[QD]at o9;rw[Xo]at o4;rw[←QAW (JD S x)]at hK;simp only[Gy,Qv,h3,h9,o3,o9,eE,seval];refine aC hc ?_;simp only[Qv,h9,o9,eE,seval];exact QH (by decide) (by exact h7) rfl rfl rfl hl (hK _ (by simp only[Hd,Zf,Qz7,h2,h3,h4,h7,h8,h9,h10,Qa,seval]))

include o3 o4 o9 hi hM hm hS in
theorem Qwp:Z5 Gz fr 7 m.name (Zf Fb i tw) (pb m.name x.num (Js m i) 15):=by
 rintro l f K hl ⟨h2,h3,h4,h7,h8,h9,h10,-⟩ hK;have hc:=Qwg hM m hm i x hi;simp only[QT]at hc
 try rw[QD x]at hc
 rw[QD]at o9;rw[Xo]at o4;rw[←QAW (Js m i)]at hK;simp only[Gz,Qv,h4,h8,o4,eE,seval];refine aC hc ?_;simp only[Qv,h9,o9,eE,seval];exact QH (by decide) (by exact h7) rfl rfl rfl hl (hK _ (by simp only[Hd,Zf,Qz7,h2,h3,h4,h7,h8,h9,h10,Qa,seval]))

include o3 o4 o9 hi hM hm hS in
theorem Qwq:Z5 GA fr 7 m.name (Zf Fb i tw) (pb m.name x.num (Kq S x) 1):=by
 rintro l f K hl ⟨h2,h3,h4,h7,h8,h9,h10,-⟩ hK;have hc:=Qwf S hS hM x (hm.fields x (Qzq hi));simp only[SC.av,Xm]at hc
 try rw[QD x]at hc
 rw[QD]at o9;rw[Xo]at o4;rw[←QAW (Kq S x)]at hK;simp only[GA,Qv,h3,h9,o3,o9,eE,seval];refine aC hc ?_;simp only[Qv,h9,o9,eE,seval];exact QH (by decide) (by exact h7) rfl rfl rfl hl (hK _ (by simp only[Hd,Zf,Qz7,h2,h3,h4,h7,h8,h9,h10,Qa,seval]))

include o9 hi hM hm in
theorem Qwr:Z5 GB fr 7 m.name (Zf Fb i tw) (Xl m.name x.num x.notes 2):=by
 rintro l f K hl ⟨h2,h3,h4,h7,h8,h9,h10,-⟩ hK;have hx:=hm.fields x (Qzq hi);have hln:=hx.len;rw[QD]at o9;simp only[GB,Qv,h9,o9,eE,seval];exact JE (by simp only[maxLen];omega) (by simp only[maxLen];omega) hx.notes (by decide) (by exact h7) rfl rfl rfl (by decide) hl (hK _ (by simp only[Hd,Zf,Qz7,h2,h3,h4,h7,h8,h9,h10,Qa,seval]))

include o4 o9 hi hM hm in
theorem Qpa (F:Nat→Ob)(l:List PB)(hF:F=QV fr 7 1100 m.name l)(f:Fr)(hf:Hd f (Zf Fb i false))(h11:f 11=.int .i64 0)(Q:Exit→St→Prop)
  (hq:∀f,Hd f (Zf Fb i ((m.fields.take i).any fun y=>y.name==x.name))→Q (.exit 2) ⟨f,[F],[]⟩):QE Tryz.prog (.loop Bl) ⟨f,[F],[]⟩ Q:=by
 let I:Nat→St→Prop:=fun n st=>∃f k,st=⟨f,[F],[]⟩∧n=i-k∧k≤i∧Hd f (Zf Fb i ((m.fields.take k).any fun y=>y.name==x.name))∧f 11=.int .i64 (k:Nat)
 have hil:i<m.fields.length:=(Qze.1 hi).1;have hl1:=hm.len1;rw[QD]at o9;rw[Xo]at o4;have p4:F 4=fr 4:=by rw[hF,Zq _ _ _ _ _ (by decide) (by decide)]
 have p9:F 9=fr 9:=by rw[hF,Zq _ _ _ _ _ (by decide) (by decide)]
 rw[o4]at p4;rw[o9]at p9;refine Qe I _ ⟨f,0,rfl,rfl,Qzl _,hf,h11⟩ ?_;clear hf h11;rintro _ st ⟨f,k,rfl,rfl,hk,hf,h11⟩;have hf':=hf;obtain⟨h2,h3,h4,h7,h8,h9,h10,-⟩:=hf';simp only[Bl,Vk,h8,h11,Qa,seval];by_cases hlt:k<i
 case neg=>
  have e:k=i:=by omega
  subst e;simp only[QC hlt,Qa,seval];exact hq _ (by simp only[Hd,Zf,Qz7,h2,h3,h4,h7,h8,h9,h10,Qa,seval])
 obtain⟨y,hy⟩:∃y,m.fields[k]? = some y:=⟨m.fields[k]'(by omega),Qzf (by omega)⟩;have hg:(m.fields.map fun n=>AV.agg n.cells)[k]? = some (.agg y.cells):=by rw[QAm,hy];rfl
 rw[QD]at hg;have e1:=Qn k _ hlt (by simp only[maxLen];omega);have ht:=Jj (q:=fun y:SF=>y.name==x.name) hy;simp only[QA hlt,Vl,Qk,QAq,Qc,hg,h4,h9,h11,p4,p9,Qx,eE,seval];cases hp:(y.name==x.name)
 ·rw[hp,QAQ]at ht;simp only[Gs,h11,e1,Qa,seval];exact⟨i-(k+1),by omega,_,k+1,rfl,rfl,by omega,by simp only[ht,Hd,Zf,Qz7,h2,h3,h4,h7,h8,h9,h10,Qa,seval],(by rfl)⟩
 ·rw[hp,Bool.or_true]at ht;simp only[Gs,Vm,h11,e1,Qa,seval];exact⟨i-(k+1),by omega,_,k+1,rfl,rfl,by omega,by simp only[ht,Hd,Zf,Qz7,h2,h3,h4,h7,h8,h9,Qa,seval],(by rfl)⟩
end

section
variable {M:Nat}(hM:M≤1048576)(S:SC)(hS:S.ok M)(m:SM)(hm:m.ok M)(Fb:List Bool)
include hM hS hm in
theorem Cx (l:List PB)(hl:l.length≤1000000)(f:Fr)(fr:Nat→Ob)(h2:f 2=.list (Fb.map AV.bool))(h3:f 3=.ptr 0 3 0)(h4:f 4=.ptr 0 4 0)(h7:f 7=.ptr 0 7 0)(h8:f 8=.int .i64 0)
  (o3:fr 3=.cells [.list (S.msgs.map fun n=>.agg n.cells),.list (S.enums.map fun n=>.agg n.cells),.list (S.servs.map fun n=>.agg n.cells)]) (o4:fr 4=.cells m.cells) (o9:fr 9=.none) (Q:Exit→St→Prop)
  (hq:∀(f:Fr) (fr:Nat→Ob),f 2=.list (Fb.map AV.bool)→f 3=.ptr 0 3 0→f 4=.ptr 0 4 0→f 7=.ptr 0 7 0→fr 3=.cells [.list (S.msgs.map fun n=>.agg n.cells),.list (S.enums.map fun n=>.agg n.cells),.list (S.servs.map fun n=>.agg n.cells)]→fr 4=.cells m.cells→Q (.exit 0) ⟨f,[QV fr 7 1100 m.name (l++upto m.fields (Jg S m) m.fields.length)],[]⟩) :
  QE Tryz.prog (.loop Bm) ⟨f,[QV fr 7 1100 m.name l],[]⟩ Q:=by
 let I:Nat→St→Prop:=fun n st=>∃f fr i,st=⟨f,[QV fr 7 1100 m.name (l++upto m.fields (Jg S m) i)],[]⟩∧n=m.fields.length-i∧i≤m.fields.length∧f 2=.list (Fb.map AV.bool)∧f 3=.ptr 0 3 0∧f 4=.ptr 0 4 0∧f 7=.ptr 0 7 0∧f 8=.int .i64 (i:Nat)∧
  fr 3=.cells [.list (S.msgs.map fun n=>.agg n.cells),.list (S.enums.map fun n=>.agg n.cells),.list (S.servs.map fun n=>.agg n.cells)]∧fr 4=.cells m.cells∧(fr 9).isRow=false
 have hl1:=hm.len1;refine Qe I _ ⟨f,fr,0,by rw[upto,Qz6],rfl,Qzl _,h2,h3,h4,h7,h8,o3,o4,by rw[o9];rfl⟩ ?_;clear h2 h3 h4 h7 h8 o3 o4 o9;rintro _ st ⟨f0,fr0,i,rfl,rfl,hi,h20,h30,h40,h70,h80,J4,JO,r9⟩;refine QJ (a:=_) [9] (by
  intro s hs;simp only[QAj,QAT,or_false]at hs;subst hs;rw[Zq _ _ _ _ _ (by decide) (by decide)];exact r9) ?_
 intro f fr hf hmm hn;have h2:f 2=.list (Fb.map AV.bool):=by rw[hf,h20]<;>rfl
 have h3:f 3=.ptr 0 3 0:=by rw[hf,h30]<;>rfl
 have h4:f 4=.ptr 0 4 0:=by rw[hf,h40]<;>rfl
 have h7:f 7=.ptr 0 7 0:=by rw[hf,h70]<;>rfl
 have h8:f 8=.int .i64 (i:Nat):=by rw[hf,h80]<;>rfl
 have o3:fr 3=.cells [.list (S.msgs.map fun n=>.agg n.cells),.list (S.enums.map fun n=>.agg n.cells),.list (S.servs.map fun n=>.agg n.cells)]:=by rw[hmm 3 (by decide),Zq _ _ _ _ _ (by decide) (by decide),J4]<;>rfl
 have o4:fr 4=.cells m.cells:=by rw[hmm 4 (by decide),Zq _ _ _ _ _ (by decide) (by decide),JO]<;>rfl
 have n9:=hn 9 (by decide);have q0:(l++upto m.fields (Jg S m) i).length≤100000000:=by
  have:=QK (l:=m.fields) (KH S m) i;rw[QzM];omega
 have hfe:QV fr 7 1100 m.name (l++upto m.fields (Jg S m) i)=fr:=UF _ _ _ _ _ (by rw[hmm 7 (by decide),WM]<;>rfl) (by rw[hmm 1100 (by decide),WN _ _ _ _ _ (by decide)]<;>rfl);clear hf hmm hn h20 h30 h40 h70 h80 J4 JO r9;have o4':=o4;rw[Xo]at o4';simp only[Rm,QAo,h4,h8,o4',eE,seval];by_cases hlt:i<m.fields.length
 case neg=>
  have ei:i=m.fields.length:=by omega
  subst ei;simp only[QC hlt,Qa,seval];rw[←hfe];exact hq _ _ (by exact h2) (by exact h3) (by exact h4) (by exact h7) o3 o4
 obtain⟨x,hx⟩:∃x,m.fields[i]? = some x:=⟨m.fields[i],Qzf hlt⟩;have hg:(m.fields.map fun n=>AV.agg n.cells)[i]? = some (.agg x.cells):=by rw[QAm,hx];rfl
 rw[QD]at hg;have e1:=Qn i _ hlt (by simp only[maxLen];omega);simp only[QA hlt,n9,Rn,Ro,Rp,Qk,QAq,Qc,hg,h4,h8,o4',eE,seval];rw[←hfe,UG _ _ _ _ _ (by decide) (by decide)];generalize hF:Qw fr 9 _=F;have p3:F 3=.cells [.list (S.msgs.map fun n=>.agg n.cells),.list (S.enums.map fun n=>.agg n.cells),.list (S.servs.map fun n=>.agg n.cells)]:=by rw[←hF];exact(by exact o3)
 have p4:F 4=.cells m.cells:=by rw[←hF];exact(by exact o4)
 have p9:F 9=.cells x.cells:=by rw[←hF,QD];exact(by rfl)
 clear hF hfe o3 o4 o4' n9;refine Qpa hM m hm Fb i x hx F p4 p9 _ _ rfl _ (by simp only[Hd,Zf,Qz7,h2,h3,h4,h7,h8,Qa,seval]) (by rfl) _ (fun f hf=>?_);clear h2 h3 h4 h7 h8;generalize hT:((m.fields.take i).any fun y=>y.name==x.name)=tw at hf;simp only[Qa,seval];refine Qwi m Fb i x tw F p9 _ f _ (by omega) hf (fun f hf=>?_);have q1:=Qr q0 m.name x.num (decide (x.num≥1)&&decide (x.num≤65535)) 6;simp only[Qa,seval];refine Qwj hM m hm Fb i x hx tw F p4 p9 _ f _ (by omega) hf (fun f hf=>?_);have q2:=Qr q1 m.name x.num (Jw m.fields SF.num i x) 11;simp only[Qa,seval];refine Qwk m Fb i x tw F p9 _ f _ (by omega) hf (fun f hf=>?_);have q3:=Qr q2 m.name x.num (Q5 x.name) 8;simp only[Qa,seval];refine Qwl m Fb i x tw F p9 _ f _ (by omega) hf (fun f hf=>?_);have q4:=Qr q3 m.name x.num (!tw) 9;simp only[Qa,seval];refine Qwm hM m hm Fb i x tw F p4 p9 _ f _ (by omega) hf (fun f hf=>?_);have q5:=Qr q4 m.name x.num (!(kept m.free x.num) && !(m.gone.contains x.name)) 21;simp only[Qa,seval];refine Qwn hM S hS m hm Fb i x hx tw F p3 p4 p9 _ f _ (by omega) hf (fun f hf=>?_);have q6:=Qr q5 m.name x.num (Ww x) 1;simp only[Qa,seval];refine Qwo hM S hS m hm Fb i x hx tw F p3 p4 p9 _ f _ (by omega) hf (fun f hf=>?_);have q7:=Qr q6 m.name x.num (JD S x) 12;simp only[Qa,seval];refine Qwp hM S hS m hm Fb i x hx tw F p3 p4 p9 _ f _ (by omega) hf (fun f hf=>?_);have q8:=Qr q7 m.name x.num (Js m i) 15;simp only[Qa,seval];refine Qwq hM S hS m hm Fb i x hx tw F p3 p4 p9 _ f _ (by omega) hf (fun f hf=>?_);have q9:=Qr q8 m.name x.num (Kq S x) 1;simp only[Qa,seval];refine Qwr hM m hm Fb i x hx tw F p9 _ f _ (by omega) hf (fun f hf=>?_);obtain⟨h2,h3,h4,h7,h8,h9,h10,-⟩:=hf;simp only[Rq,h8,e1,Qa,seval];exact⟨m.fields.length-(i+1),by omega,_,F,i+1,by rw[XY hx];subst hT;unfold Jg;simp only[Qzw]<;>rfl,rfl,by omega,(by exact h2),(by exact h3),(by exact h4),(by exact h7),(by rfl),p3,p4,by rw[p9];rfl⟩
end

section
variable {M:Nat}(hM:M≤1048576)(m:SM)(hm:m.ok M)
include hM hm in
theorem AD (l:List PB)(hl:l.length≤1000000000)(f:Fr)(fr:Nat→Ob)(h3:f 3=.ptr 0 3 0)(h2:∃a,f 2=a)(h4:f 4=.ptr 0 4 0)(h7:f 7=.ptr 0 7 0)(h12:f 12=.int .i64 0)(o4:fr 4=.cells m.cells)(Q:Exit→St→Prop)
  (hq:∀f':Fr,f' 2=f 2→f' 3=.ptr 0 3 0→f' 4=.ptr 0 4 0→f' 7=.ptr 0 7 0→Q (.exit 4) ⟨f',[QV fr 7 1100 m.name (l++upto m.gone (fun _ g=>pb m.name (-1) (Z2 g) 7) m.gone.length)],[]⟩):QE Tryz.prog (.loop Hm) ⟨f,[QV fr 7 1100 m.name l],[]⟩ Q:=by
 obtain⟨a,h2⟩:=h2;rw[h2]at hq
 let I:Nat→St→Prop:=fun n st=>∃f i,st=⟨f,[QV fr 7 1100 m.name (l++upto m.gone (fun _ g=>pb m.name (-1) (Z2 g) 7) i)],[]⟩∧n=m.gone.length-i∧i≤m.gone.length∧f 2=a∧f 3=.ptr 0 3 0∧f 4=.ptr 0 4 0∧f 7=.ptr 0 7 0∧f 12=.int .i64 (i:Nat)
 have hl3:=hm.len3;rw[Xo]at o4;refine Qe I _ ⟨f,0,by rw[upto,Qz6],rfl,Qzl _,h2,h3,h4,h7,h12⟩ ?_;clear h2 h3 h4 h7 h12;rintro _ st ⟨f,i,rfl,rfl,hi,h2,h3,h4,h7,h12⟩;simp only[Hm,Vn,Qv,QAo,h4,h12,o4,eE,seval];by_cases hlt:i<m.gone.length
 case neg=>
  have ei:i=m.gone.length:=by omega
  subst ei;simp only[QC hlt,Qa,seval];exact hq _ (by exact h2) (by exact h3) (by exact h4) (by exact h7)
 obtain⟨x,hx⟩:∃x,m.gone[i]? = some x:=⟨m.gone[i],Qzf hlt⟩;have hg:(m.gone.map AV.str)[i]? = some (.str x):=by rw[QAm,hx];rfl
 have hxl:=hm.gone x (Qzq hx);have e1:=Qn i _ hlt (by simp only[maxLen];omega);have hu:=QK (l:=m.gone) (g:=fun _ g=>pb m.name (-1) (Z2 g) 7) (c:=1) (fun _ g=>QR ..) i;simp only[QA hlt,Vo,Qv,Qk,QAq,Qc,hg,h4,h12,o4,eE,seval];refine aC (Qki x (by simp only[maxLen];omega)) ?_;simp only[Qa,seval];refine QH (by decide) (by exact h7) rfl rfl rfl (by rw[QzM];omega) ?_;simp only[Vq,h12,e1,Qa,seval];exact⟨m.gone.length-(i+1),by omega,_,i+1,by rw[XY hx,QAW,Qzw],rfl,by omega,(by exact h2),(by exact h3),(by exact h4),(by exact h7),(by rfl)⟩

theorem Ku (l:List PB):List.take l.length (List.map PB.av l)=List.map PB.av l:=QzJ (by rw[QAo];exact Qzc _)

theorem u51 {M:Nat}(hM:M≤1048576)(S:SC)(hS:S.ok M)(m:SM)(hm:m.ok M)(F:List Bool)(hF:F.length=S.msgs.length):Qu Tryz.prog 51 [S.av,QT m,.list (F.map AV.bool)] (.list ((ZO S (Xh S F) m).map PB.av)):=by
 have hl1:=hm.len1;have hl2:=hm.len2;have hl3:=hm.len3;have hl4:=hm.len4;have hnl:=hm.name;refine k51.fn (by simp) ?_;simp only[r51,Vr,Ri,Rj,SC.av,QT,Xo m,eE,seval];refine Xb rfl rfl rfl rfl ?_;generalize hb:(Qw (Qw Qh 3 _) 4 _:Nat→Ob)=base;have o3:base 3=.cells [.list (S.msgs.map fun n=>.agg n.cells),.list (S.enums.map fun n=>.agg n.cells),.list (S.servs.map fun n=>.agg n.cells)]:=by rw[←hb];exact(by rfl)
 have o4:base 4=.cells m.cells:=by rw[←hb,Xo];exact(by rfl)
 have o9:base 9=.none:=by rw[←hb];rfl
 clear hb;have o4s:=o4;rw[Xo]at o4s;rw[Ht base 7 1100 m.name _ (by decide)];simp only[Rk,Qv,o4s,eE,seval];refine aC (MA m.name) ?_;simp only[Qa,seval];refine QH (by decide) rfl rfl rfl rfl (by simp) ?_;rw[QAW,Qzy];have q1:=QR m.name (-1) (Xg m.name) 8;generalize hL1:pb m.name (-1) (Xg m.name) 8=L1 at q1;have hbb:(decide (m.fields.length≤64)&&decide (m.free.length≤16)&&decide (m.gone.length≤16))=!(decide ((m.fields.length:Int) > 64)||decide ((m.free.length:Int) > 16)||decide ((m.gone.length:Int) > 16)):=(by rw[QzY];simp only[QAl,Qz0,QAN,Qzz,QzX];omega);have q2:=Qr q1 m.name (-1) (decide (m.fields.length≤64)&&decide (m.free.length≤16)&&decide (m.gone.length≤16)) 3;have key:∀f:Fr,f 2=.list (F.map AV.bool)→f 3=.ptr 0 3 0→f 4=.ptr 0 4 0→f 7=.ptr 0 7 0→QE Tryz.prog (.seq (.seq (.reg Bk) (.block 0 (.loop Bm))) (.seq (.reg GC) (.seq (.seq (.reg GD) (.block 4 (.loop Hm))) (.seq (.reg GE) (.seq (.reg GF) (.seq (.reg GG) .ret))))))
   ⟨f,[QV base 7 1100 m.name (L1++pb m.name (-1) (decide (m.fields.length≤64)&&decide (m.free.length≤16)&&decide (m.gone.length≤16)) 3)],[]⟩ (XW Vr 0 fun x _=>x=.list ((ZO S (Xh S F) m).map PB.av)):=by
  intro f h2 h3 h4 h7;simp only[Bk,Qa,seval];refine Cx hM S hS m hm F _ (by omega) _ base (by exact h2) (by exact h3) (by exact h4) (by exact h7) (by rfl) o3 o4 o9 _ (fun f fr h2 h3 h4 h7 o3 o4=>?_);have o4s:=o4;rw[Xo]at o4s;have q3:=QK (l:=m.fields) (KH S m) m.fields.length;have q4:=QK (l:=m.free) (Ji m.name 1 65535 m.free) m.free.length;have q5:=QK (l:=m.gone) (g:=fun _ g=>pb m.name (-1) (Z2 g) 7) (c:=1) (fun _ g=>QR ..) m.gone.length;have q6:=QR m.name (-1) (XT m.notes 1==0) (XT m.notes 1);simp only[GC,Qv,h4,o4s,eE,seval];refine Qb (RN fr 7 1100 m.name (by decide) rfl 1 65535 m.free (by omega) [] _ (by simp only[QzM]at q2 ⊢;omega)) (by simp only[QzI,Qz4,h7,Qa,seval]<;>rfl) ?_;simp only[GD,Qa,seval];refine AD hM m hm _ (by simp only[QzM]at q2 ⊢;omega) _ fr (by exact h3) ⟨_,rfl⟩ (by exact h4) (by exact h7) (by rfl) o4 _ (fun f2 k2 h3 h4 h7=>?_);have h2':f2 2=.list (F.map AV.bool):=by rw[k2];exact(by exact h2)
  clear k2 h2;simp only[GE,Qv,h4,o4s,eE,seval];refine JE (by simp only[maxLen];omega) (by simp only[maxLen];omega) hm.notes (by decide) (by exact h7) rfl rfl rfl (by decide) (by simp only[QzM]at q2 ⊢;omega) ?_;have hc:=QkQ hM S hS F hF m hm;simp only[SC.av,QT,Xo m]at hc;simp only[GF,Qv,h2',h3,h4,o3,o4s,eE,seval];refine aC hc ?_
  try simp only[eE,seval]
  refine QH (by decide) (by exact h7) rfl rfl rfl (by simp only[QzM,Xl]at q2 ⊢;omega) ?_;generalize hL:_++pb m.name (-1) (!Xh S F m) 19=L;have hfin:ZO S (Xh S F) m=L:=by rw[←hL,←hL1];rfl
  rw[hfin];simp only[GG,Qv,h7,QAo,QzQ,Ku,QzB,Qzc,Qz7,QAc,AV.un,Vr,eE,seval]
 simp only[Vr,Qa,seval]at key;rw[hbb]at key;simp only[Rl,Qv,QAo,o4s,eE,seval];cases c1:decide ((m.fields.length:Int) > 64)<;>cases c2:decide ((m.free.length:Int) > 16)<;>cases c3:decide ((m.gone.length:Int) > 16) <;>
 ·rw[c1,c2,c3]at key;simp only[c2,c3,Qv,QAo,o4s,eE,seval];refine QH (by decide) rfl rfl rfl rfl (by omega) ?_;simp only[Qa,seval];exact key _ (by rfl) (by rfl) (by rfl) (by rfl)
end

def Jk (i:Nat)(tw:Bool):List (Nat×AV):=[(1,.ptr 0 1 0),(3,.ptr 0 3 0),(4,.int .i64 (i:Nat)),(5,.ptr 0 5 0),(6,.bool tw)]
section
variable {M:Nat}(hM:M≤1048576)(m:SE)(hm:m.ok M)(i:Nat)(x:SI)(hi:m.items[i]? = some x)(tw:Bool)(fr:Nat→Ob)(o1:fr 1=.cells m.cells)(o5:fr 5=.cells x.cells)

include o5 in
theorem Qws:Z5 GI fr 3 m.name (Jk i tw) (pb m.name x.num (decide (x.num≥0)&&decide (x.num≤2147483647)) 6):=by
 rintro l f K hl ⟨h1,h3,h4,h5,h6,-⟩ hK;rw[ZL]at o5;have hb:(decide (x.num≥0)&&decide (x.num≤2147483647))=!(decide (x.num<0)||decide (x.num > 2147483647)):=(by rw[QzY];simp only[QAl,Qz0,QAN,Qzz,QzX];omega);rw[hb]at hK;simp only[GI,Qv,h5,o5,eE,seval];cases c1:decide (x.num<0)<;>cases c2:decide (x.num > 2147483647) <;>
 ·rw[c1,c2]at hK;simp only[c2,Qv,h5,o5,eE,seval];exact QH (by decide) (by exact h3) rfl rfl rfl hl (hK _ (by simp only[Hd,Jk,Qz7,h1,h3,h4,h5,h6,Qa,seval]))

include o1 o5 hi hM hm in
theorem Qwt:Z5 YX fr 3 m.name (Jk i tw) (pb m.name x.num (Jw m.items SI.num i x) 11):=by
 rintro l f K hl ⟨h1,h3,h4,h5,h6,-⟩ hK;rw[ZL]at o5;rw[XJ]at o1;have hlt:i<m.items.length:=(Qze.1 hi).1;have hl1:=hm.len1;cases i with
 |zero=>
  have d0:decide (((0:Nat):Int) > 0)=false:=rfl;simp only[YX,Qv,h4,h5,o5,eE,seval];exact QH (by decide) (by exact h3) rfl rfl rfl hl (hK _ (by simp only[Hd,Jk,Qz7,h1,h3,h4,h5,h6,Qa,seval]))
 |succ j=>
  obtain⟨y,hj⟩:∃y,m.items[j]? = some y:=⟨m.items[j]'(by omega),Qzf (by omega)⟩;have hgj:(m.items.map fun n=>AV.agg n.cells)[j]? = some (.agg y.cells):=by rw[QAm,hj];rfl
  rw[ZL]at hgj;have wj:=JC j _ hlt (by simp only[maxLen];omega);have d0:decide (((j+1:Nat):Int) > 0)=true:=QAM (by omega);have hb:decide (x.num > y.num)=!decide (x.num≤y.num):=(by rw[QzY];simp only[QAl,Qz0,QAN];omega);simp only[Jw,hj,hb]at hK;simp only[YX,Qv,Qk,QAq,Qc,hgj,wj,h1,h4,h5,o1,o5,d0,eE,seval];exact QH (by decide) (by exact h3) rfl rfl rfl hl (hK _ (by simp only[Hd,Jk,Qz7,h1,h3,h4,h5,h6,Qa,seval]))

include o5 in
theorem Qwu:Z5 GJ fr 3 m.name (Jk i tw) (pb m.name x.num (Q5 x.name) 8):=by
 rintro l f K hl ⟨h1,h3,h4,h5,h6,-⟩ hK;rw[ZL]at o5;rw[←QAW (Q5 x.name)]at hK;simp only[GJ,Qv,h5,o5,eE,seval];refine aC (BD x.name) ?_;simp only[Qv,h5,o5,eE,seval];exact QH (by decide) (by exact h3) rfl rfl rfl hl (hK _ (by simp only[Hd,Jk,Qz7,h1,h3,h4,h5,h6,Qa,seval]))

include o5 in
theorem Qwv:Z5 GK fr 3 m.name (Jk i tw) (pb m.name x.num (!tw) 9):=by
 rintro l f K hl ⟨h1,h3,h4,h5,h6,-⟩ hK;rw[ZL]at o5;simp only[GK,Qv,h5,h6,o5,eE,seval];exact QH (by decide) (by exact h3) rfl rfl rfl hl (hK _ (by simp only[Hd,Jk,Qz7,h1,h3,h4,h5,h6,Qa,seval]))

include o1 o5 hM hm in
theorem Qww:Z5 GL fr 3 m.name (Jk i tw) (pb m.name x.num (!(kept m.free x.num)) 21):=by
 rintro l f K hl ⟨h1,h3,h4,h5,h6,-⟩ hK;rw[ZL]at o5;rw[XJ]at o1;have hl2:=hm.len2;have hk:=Qko m.free (by simp only[maxLen];omega) x.num;simp only[GL,Qv,h1,h5,o1,o5,eE,seval];refine aC hk ?_;simp only[Qv,h5,o5,eE,seval];exact QH (by decide) (by exact h3) rfl rfl rfl hl (hK _ (by simp only[Hd,Jk,Qz7,h1,h3,h4,h5,h6,Qa,seval]))

include o5 hi hM hm in
theorem Qwx:Z5 GM fr 3 m.name (Jk i tw) (Xl m.name x.num x.notes 4):=by
 rintro l f K hl ⟨h1,h3,h4,h5,h6,-⟩ hK;have hx:=hm.items x (Qzq hi);have hln:=hx.len;rw[ZL]at o5;simp only[GM,Qv,h5,o5,eE,seval];exact JE (by simp only[maxLen];omega) (by simp only[maxLen];omega) hx.notes (by decide) (by exact h3) rfl rfl rfl (by decide) hl (hK _ (by simp only[Hd,Jk,Qz7,h1,h3,h4,h5,h6,Qa,seval]))

include o1 o5 hi hM hm in
theorem Qpb (F:Nat→Ob)(l:List PB)(hF:F=QV fr 3 1100 m.name l)(f:Fr)(hf:Hd f (Jk i false))(h7:f 7=.int .i64 0)(Q:Exit→St→Prop)
  (hq:∀f,Hd f (Jk i ((m.items.take i).any fun y=>y.name==x.name))→Q (.exit 2) ⟨f,[F],[]⟩):QE Tryz.prog (.loop Bn) ⟨f,[F],[]⟩ Q:=by
 let I:Nat→St→Prop:=fun n st=>∃f k,st=⟨f,[F],[]⟩∧n=i-k∧k≤i∧Hd f (Jk i ((m.items.take k).any fun y=>y.name==x.name))∧f 7=.int .i64 (k:Nat)
 have hil:i<m.items.length:=(Qze.1 hi).1;have hl1:=hm.len1;rw[ZL]at o5;rw[XJ]at o1;have p1:F 1=fr 1:=by rw[hF,Zq _ _ _ _ _ (by decide) (by decide)]
 have p5:F 5=fr 5:=by rw[hF,Zq _ _ _ _ _ (by decide) (by decide)]
 rw[o1]at p1;rw[o5]at p5;refine Qe I _ ⟨f,0,rfl,rfl,Qzl _,hf,h7⟩ ?_;clear hf h7;rintro _ st ⟨f,k,rfl,rfl,hk,hf,h7⟩;have hf':=hf;obtain⟨h1,h3,h4,h5,h6,-⟩:=hf';simp only[Bn,Vt,h4,h7,Qa,seval];by_cases hlt:k<i
 case neg=>
  have e:k=i:=by omega
  subst e;simp only[QC hlt,Qa,seval];exact hq _ (by simp only[Hd,Jk,Qz7,h1,h3,h4,h5,h6,Qa,seval])
 obtain⟨y,hy⟩:∃y,m.items[k]? = some y:=⟨m.items[k]'(by omega),Qzf (by omega)⟩;have hg:(m.items.map fun n=>AV.agg n.cells)[k]? = some (.agg y.cells):=by rw[QAm,hy];rfl
 rw[ZL]at hg;have e1:=Qn k _ hlt (by simp only[maxLen];omega);have ht:=Jj (q:=fun y:SI=>y.name==x.name) hy;simp only[QA hlt,Vu,Qk,QAq,Qc,hg,h1,h5,h7,p1,p5,Qx,eE,seval];cases hp:(y.name==x.name)
 ·rw[hp,QAQ]at ht;simp only[GH,h7,e1,Qa,seval];exact⟨i-(k+1),by omega,_,k+1,rfl,rfl,by omega,by simp only[ht,Hd,Jk,Qz7,h1,h3,h4,h5,h6,Qa,seval],(by rfl)⟩
 ·rw[hp,Bool.or_true]at ht;simp only[GH,Vv,h7,e1,Qa,seval];exact⟨i-(k+1),by omega,_,k+1,rfl,rfl,by omega,by simp only[ht,Hd,Jk,Qz7,h1,h3,h4,h5,Qa,seval],(by rfl)⟩
end

section
variable {M:Nat}(hM:M≤1048576)(m:SE)(hm:m.ok M)
include hM hm in
theorem MB (l:List PB)(hl:l.length≤1000000)(f:Fr)(fr:Nat→Ob)(h1:f 1=.ptr 0 1 0)(h3:f 3=.ptr 0 3 0)(h4:f 4=.int .i64 0)(o1:fr 1=.cells m.cells)(o5:fr 5=.none)(Q:Exit→St→Prop)
  (hq:∀(f:Fr) (fr:Nat→Ob),f 1=.ptr 0 1 0→f 3=.ptr 0 3 0→fr 1=.cells m.cells→Q (.exit 0) ⟨f,[QV fr 3 1100 m.name (l++upto m.items (ZP m) m.items.length)],[]⟩) :
  QE Tryz.prog (.loop Hp) ⟨f,[QV fr 3 1100 m.name l],[]⟩ Q:=by
 let I:Nat→St→Prop:=fun n st=>∃f fr i,st=⟨f,[QV fr 3 1100 m.name (l++upto m.items (ZP m) i)],[]⟩∧n=m.items.length-i∧i≤m.items.length∧f 1=.ptr 0 1 0∧f 3=.ptr 0 3 0∧f 4=.int .i64 (i:Nat)∧fr 1=.cells m.cells∧(fr 5).isRow=false
 have hl1:=hm.len1;refine Qe I _ ⟨f,fr,0,by rw[upto,Qz6],rfl,Qzl _,h1,h3,h4,o1,by rw[o5];rfl⟩ ?_;clear h1 h3 h4 o1 o5;rintro _ st ⟨f0,fr0,i,rfl,rfl,hi,h10,h30,h40,Xk,r5⟩;refine QJ (a:=_) [5] (by
  intro s hs;simp only[QAj,QAT,or_false]at hs;subst hs;rw[Zq _ _ _ _ _ (by decide) (by decide)];exact r5) ?_
 intro f fr hf hmm hn;have h1:f 1=.ptr 0 1 0:=by rw[hf,h10]<;>rfl
 have h3:f 3=.ptr 0 3 0:=by rw[hf,h30]<;>rfl
 have h4:f 4=.int .i64 (i:Nat):=by rw[hf,h40]<;>rfl
 have o1:fr 1=.cells m.cells:=by rw[hmm 1 (by decide),Zq _ _ _ _ _ (by decide) (by decide),Xk]<;>rfl
 have n5:=hn 5 (by decide);have q0:(l++upto m.items (ZP m) i).length≤100000000:=by
  have:=QK (l:=m.items) (KI m) i;rw[QzM];omega
 have hfe:QV fr 3 1100 m.name (l++upto m.items (ZP m) i)=fr:=UF _ _ _ _ _ (by rw[hmm 3 (by decide),WM]<;>rfl) (by rw[hmm 1100 (by decide),WN _ _ _ _ _ (by decide)]<;>rfl);clear hf hmm hn h10 h30 h40 Xk r5;have o1':=o1;rw[XJ]at o1';simp only[Rv,QAo,h1,h4,o1',eE,seval];by_cases hlt:i<m.items.length
 case neg=>
  have ei:i=m.items.length:=by omega
  subst ei;simp only[QC hlt,Qa,seval];rw[←hfe];exact hq _ _ (by exact h1) (by exact h3) o1
 obtain⟨x,hx⟩:∃x,m.items[i]? = some x:=⟨m.items[i],Qzf hlt⟩;have hg:(m.items.map fun n=>AV.agg n.cells)[i]? = some (.agg x.cells):=by rw[QAm,hx];rfl
 rw[ZL]at hg;have e1:=Qn i _ hlt (by simp only[maxLen];omega);simp only[QA hlt,n5,Rw,Rx,Vs,Qk,QAq,Qc,hg,h1,h4,o1',eE,seval];rw[←hfe,UG _ _ _ _ _ (by decide) (by decide)];generalize hF:Qw fr 5 _=F;have p1:F 1=.cells m.cells:=by rw[←hF];exact(by exact o1)
 have p5:F 5=.cells x.cells:=by rw[←hF,ZL];exact(by rfl)
 clear hF hfe o1 o1' n5;refine Qpb hM m hm i x hx F p1 p5 _ _ rfl _ (by simp only[Hd,Jk,Qz7,h1,h3,h4,Qa,seval]) (by rfl) _ (fun f hf=>?_);clear h1 h3 h4;generalize hT:((m.items.take i).any fun y=>y.name==x.name)=tw at hf;simp only[Qa,seval];refine Qws m i x tw F p5 _ f _ (by omega) hf (fun f hf=>?_);have q1:=Qr q0 m.name x.num (decide (x.num≥0)&&decide (x.num≤2147483647)) 6;simp only[Qa,seval];refine Qwt hM m hm i x hx tw F p1 p5 _ f _ (by omega) hf (fun f hf=>?_);have q2:=Qr q1 m.name x.num (Jw m.items SI.num i x) 11;simp only[Qa,seval];refine Qwu m i x tw F p5 _ f _ (by omega) hf (fun f hf=>?_);have q3:=Qr q2 m.name x.num (Q5 x.name) 8;simp only[Qa,seval];refine Qwv m i x tw F p5 _ f _ (by omega) hf (fun f hf=>?_);have q4:=Qr q3 m.name x.num (!tw) 9;simp only[Qa,seval];refine Qww hM m hm i x tw F p1 p5 _ f _ (by omega) hf (fun f hf=>?_);have q5:=Qr q4 m.name x.num (!(kept m.free x.num)) 21;simp only[Qa,seval];refine Qwx hM m hm i x hx tw F p5 _ f _ (by omega) hf (fun f hf=>?_);obtain⟨h1,h3,h4,h5,h6,-⟩:=hf;simp only[Ry,h4,e1,Qa,seval];exact⟨m.items.length-(i+1),by omega,_,F,i+1,by rw[XY hx];subst hT;unfold ZP;simp only[Qzw]<;>rfl,rfl,by omega,(by exact h1),(by exact h3),(by rfl),p1,by rw[p5];rfl⟩

include hM hm in
theorem u52:Qu Tryz.prog 52 [XC m] (.list ((ZK m).map PB.av)):=by
 have hl1:=hm.len1;have hl2:=hm.len2;have hl3:=hm.len3;have hnl:=hm.name;refine k52.fn (by simp) ?_;simp only[r52,o52,Rr,Rs,XC,XJ m,eE,seval];refine Xb rfl rfl rfl rfl ?_;generalize hb:(Qw Qh 1 _:Nat→Ob)=base;have o1:base 1=.cells m.cells:=by rw[←hb,XJ];exact(by rfl)
 have o5:base 5=.none:=by rw[←hb];rfl
 clear hb;have o1s:=o1;rw[XJ]at o1s;rw[Ht base 3 1100 m.name _ (by decide)];simp only[Rt,Qv,o1s,eE,seval];refine aC (MA m.name) ?_;simp only[Qa,seval];refine QH (by decide) rfl rfl rfl rfl (by simp) ?_;rw[QAW,Qzy];have q1:=QR m.name (-1) (Xg m.name) 8;generalize hL1:pb m.name (-1) (Xg m.name) 8=L1 at q1;have hbb:(decide (m.items.length≥1)&&decide (m.items.length≤64)&&decide (m.free.length≤16))=!(decide ((m.items.length:Int)<1)||decide ((m.items.length:Int) > 64)||decide ((m.free.length:Int) > 16)):=(by rw[QzY];simp only[QAl,Qz0,QAN,Qzz,QzX];omega);have q2:=Qr q1 m.name (-1) (decide (m.items.length≥1)&&decide (m.items.length≤64)&&decide (m.free.length≤16)) 3;generalize hL2:L1++pb m.name (-1) (decide (m.items.length≥1)&&decide (m.items.length≤64)&&decide (m.free.length≤16)) 3=L2 at q2;have q2b:=Qr q2 m.name (-1) (Zn m) 14;have key2:∀f:Fr,f 1=.ptr 0 1 0→f 3=.ptr 0 3 0→QE Tryz.prog (.seq (.seq (.reg Ho) (.block 0 (.loop Hp))) (.seq (.reg YY) (.seq (.reg YZ) (.seq (.reg Y0) .ret))))
   ⟨f,[QV base 3 1100 m.name (L2++pb m.name (-1) (Zn m) 14)],[]⟩ (XW [.tmp 2] 0 fun x _=>x=.list ((ZK m).map PB.av)):=by
  intro f h1 h3;simp only[Ho,Qa,seval];refine MB hM m hm _ (by omega) _ base (by exact h1) (by exact h3) (by rfl) o1 o5 _ (fun f fr h1 h3 o1=>?_);have o1s:=o1;rw[XJ]at o1s;have q3:=QK (l:=m.items) (KI m) m.items.length;have q4:=QK (l:=m.free) (Ji m.name 0 2147483647 m.free) m.free.length;simp only[YY,Qv,h1,o1s,eE,seval];refine Qb (RN fr 3 1100 m.name (by decide) rfl 0 2147483647 m.free (by omega) [] _ (by simp only[QzM]at q2b ⊢;omega)) (by simp only[QzI,Qz4,h3,Qa,seval]<;>rfl) ?_;simp only[YZ,Qv,h1,o1s,eE,seval];refine JE (by simp only[maxLen];omega) (by simp only[maxLen];omega) hm.notes (by decide) (by exact h3) rfl rfl rfl (by decide) (by simp only[QzM]at q2b ⊢;omega) ?_;generalize hL:_++Xl m.name (-1) m.notes 3=L;have hfin:ZK m=L:=by rw[←hL,←hL2,←hL1];rfl
  rw[hfin];simp only[Y0,Qv,h3,QAo,QzQ,Ku,QzB,Qzc,Qz7,QAc,AV.un,eE,seval]
 simp only[Qa,seval]at key2;have key:∀f:Fr,f 1=.ptr 0 1 0→f 3=.ptr 0 3 0→QE Tryz.prog (.seq (.reg Hn) (.seq (.seq (.reg Ho) (.block 0 (.loop Hp))) (.seq (.reg YY) (.seq (.reg YZ) (.seq (.reg Y0) .ret)))))
   ⟨f,[QV base 3 1100 m.name L2],[]⟩ (XW [.tmp 2] 0 fun x _=>x=.list ((ZK m).map PB.av)):=by
  intro f h1 h3;cases hit:m.items with
  |nil=>
   have e0:Zn m=!false:=by unfold Zn;rw[hit];rfl
   have d0:decide ((m.items.length:Int) > 0)=false:=by rw[hit];rfl
   rw[e0]at key2;rw[hit]at d0;rw[hit]at o1s;simp only[Hn,Qv,h1,o1s,eE,seval];refine QH (by decide) (by exact h3) rfl rfl rfl (by omega) ?_;simp only[Qa,seval];exact key2 _ (by exact h1) (by exact h3)
  |cons y l=>
   have e0:Zn m=!(y.num != 0):=by unfold Zn;rw[hit,bne,QAW]
   have d0:decide ((0:Int)<((l.length+1:Nat):Int))=true:=QAM (by omega);rw[e0]at key2;rw[hit]at o1s;have hg:((y :: l).map fun n=>AV.agg n.cells)[0]? = some (.agg y.cells):=rfl;rw[ZL]at hg;simp only[Hn,Qv,QAo,Qc,hg,h1,o1s,d0,eE,seval];refine QH (by decide) (by exact h3) rfl rfl rfl (by omega) ?_;simp only[Qa,seval];exact key2 _ (by exact h1) (by exact h3)
 simp only[Qa,seval]at key;rw[hbb]at hL2;simp only[Ru,Qv,QAo,o1s,eE,seval];cases c1:decide ((m.items.length:Int)<1)<;>cases c2:decide ((m.items.length:Int) > 64)<;>cases c3:decide ((m.free.length:Int) > 16) <;>
 ·rw[c1,c2,c3]at hL2;subst hL2;simp only[c2,c3,Qv,QAo,o1s,eE,seval];refine QH (by decide) rfl rfl rfl rfl (by omega) ?_;simp only[Qa,seval];exact key _ (by rfl) (by rfl)
end

def KL (i:Nat):List (Nat×AV):=[(2,.ptr 0 2 0),(3,.ptr 0 3 0),(5,.ptr 0 5 0),(6,.int .i64 (i:Nat)),(7,.ptr 0 7 0)]
section
variable {M:Nat}(hM:M≤1048576)(S:SC)(hS:S.ok M)(m:SQ)(hm:m.ok M)(i:Nat)(x:SO)(hi:m.meths[i]? = some x)(fr:Nat→Ob)
 (o2:fr 2=.cells [.list (S.msgs.map fun n=>.agg n.cells),.list (S.enums.map fun n=>.agg n.cells),.list (S.servs.map fun n=>.agg n.cells)]) (o3:fr 3=.cells m.cells) (o7:fr 7=.cells x.cells)

include o7 in
theorem us8:Z5 Bo fr 5 m.name (KL i) (pb m.name (i:Int) (Q5 x.name) 8):=by
 rintro l f K hl ⟨h2,h3,h5,h6,h7,-⟩ hK;rw[JP]at o7;rw[←QAW (Q5 x.name)]at hK;simp only[Bo,Qv,h7,o7,eE,seval];refine aC (BD x.name) ?_;simp only[h6,Qa,seval];exact QH (by decide) (by exact h5) rfl rfl rfl hl (hK _ (by simp only[Hd,KL,Qz7,h2,h3,h5,h6,h7,Qa,seval]))

include o3 o7 hi hM hm in
theorem us9:Z5 Hq fr 5 m.name (KL i) (pb m.name (i:Int) (U4 m.meths i x) 11):=by
 rintro l f K hl ⟨h2,h3,h5,h6,h7,-⟩ hK;rw[JP]at o7;rw[JL]at o3;have hlt:i<m.meths.length:=(Qze.1 hi).1;have hl1:=hm.len1;cases i with
 |zero=>
  have d0:decide (((0:Nat):Int) > 0)=false:=rfl;simp only[Hq,h6,Qa,seval];exact QH (by decide) (by exact h5) rfl rfl rfl hl (hK _ (by simp only[Hd,KL,Qz7,h2,h3,h5,h6,h7,Qa,seval]))
 |succ j=>
  obtain⟨y,hj⟩:∃y,m.meths[j]? = some y:=⟨m.meths[j]'(by omega),Qzf (by omega)⟩;have hgj:(m.meths.map fun n=>AV.agg n.cells)[j]? = some (.agg y.cells):=by rw[QAm,hj];rfl
  rw[JP]at hgj;have wj:=JC j _ hlt (by simp only[maxLen];omega);have d0:decide (((j+1:Nat):Int) > 0)=true:=QAM (by omega);have hb:U4 m.meths (j+1) x=!(!(Op.bytesLess y.name x.name)):=by rw[QAW];simp only[U4,hj]
  rw[hb]at hK;simp only[Hq,Qv,Qk,QAq,Qc,hgj,wj,BB,h3,h6,h7,o3,o7,d0,eE,seval];exact QH (by decide) (by exact h5) rfl rfl rfl hl (hK _ (by simp only[Hd,KL,Qz7,h2,h3,h5,h6,h7,Qa,seval]))

include o2 o7 hM hS in
theorem Qwy:Z5 GN fr 5 m.name (KL i) (pb m.name (i:Int) (QS S x.inn&&QS S x.out) 12):=by
 rintro l f K hl ⟨h2,h3,h5,h6,h7,-⟩ hK;obtain⟨l1,_,_⟩:=Zd S hS hM;rw[JP]at o7;have hc1:=BC S l1 x.inn;have hc2:=BC S l1 x.out;simp only[SC.av]at hc1 hc2;simp only[GN,Qv,h2,h7,o2,o7,eE,seval];refine aC hc1 ?_;simp only[Cw,Qa,seval];cases a1:QS S x.inn
 ·rw[a1]at hK;simp only[QAs]at hK;simp only[h6,QAb,Qa,seval];exact QH (by decide) (by exact h5) rfl rfl rfl hl (hK _ (by simp only[Hd,KL,Qz7,h2,h3,h5,h6,h7,Qa,seval]))
 ·rw[a1,QAC,←QAW (QS S x.out)]at hK;simp only[Qv,h2,h7,o2,o7,QAD,eE,seval];refine aC hc2 ?_;simp only[Cw,h6,Qa,seval];exact QH (by decide) (by exact h5) rfl rfl rfl hl (hK _ (by simp only[Hd,KL,Qz7,h2,h3,h5,h6,h7,Qa,seval]))

include o7 in
theorem Qwz:Z5 GP fr 5 m.name (KL i) (pb m.name (i:Int) (decide (x.shape≥1)&&decide (x.shape≤4)) 1):=by
 rintro l f K hl ⟨h2,h3,h5,h6,h7,-⟩ hK;rw[JP]at o7;have hb:(decide (x.shape≥1)&&decide (x.shape≤4))=!(decide (x.shape<1)||decide (x.shape > 4)):=(by rw[QzY];simp only[QAl,Qz0,QAN,Qzz,QzX];omega);rw[hb]at hK;simp only[GP,Qv,h7,o7,eE,seval];cases c1:decide (x.shape<1)<;>cases c2:decide (x.shape > 4) <;>
 ·rw[c1,c2]at hK;simp only[c2,Qv,h6,h7,o7,eE,seval];exact QH (by decide) (by exact h5) rfl rfl rfl hl (hK _ (by simp only[Hd,KL,Qz7,h2,h3,h5,h6,h7,Qa,seval]))

include o7 hi hM hm in
theorem QwA:Z5 GQ fr 5 m.name (KL i) (Xl m.name (i:Int) x.notes 6):=by
 rintro l f K hl ⟨h2,h3,h5,h6,h7,-⟩ hK;have hx:=hm.meths x (Qzq hi);have hln:=hx.len;rw[JP]at o7;simp only[GQ,Qv,h6,h7,o7,eE,seval];exact JE (by simp only[maxLen];omega) (by simp only[maxLen];omega) hx.notes (by decide) (by exact h5) rfl rfl rfl (by decide) hl (hK _ (by simp only[Hd,KL,Qz7,h2,h3,h5,h6,h7,Qa,seval]))
end

section
variable {M:Nat}(hM:M≤1048576)(S:SC)(hS:S.ok M)(m:SQ)(hm:m.ok M)
include hM hS hm in
theorem MD (l:List PB)(hl:l.length≤1000000)(f:Fr)(fr:Nat→Ob)(h2:f 2=.ptr 0 2 0)(h3:f 3=.ptr 0 3 0)(h5:f 5=.ptr 0 5 0)(h6:f 6=.int .i64 0)
  (o2:fr 2=.cells [.list (S.msgs.map fun n=>.agg n.cells),.list (S.enums.map fun n=>.agg n.cells),.list (S.servs.map fun n=>.agg n.cells)]) (o3:fr 3=.cells m.cells) (o7:fr 7=.none) (Q:Exit→St→Prop)
  (hq:∀(f:Fr) (fr:Nat→Ob),f 3=.ptr 0 3 0→f 5=.ptr 0 5 0→fr 3=.cells m.cells→Q (.exit 0) ⟨f,[QV fr 5 1100 m.name (l++upto m.meths (Jh S m) m.meths.length)],[]⟩) :
  QE Tryz.prog (.loop RK) ⟨f,[QV fr 5 1100 m.name l],[]⟩ Q:=by
 let I:Nat→St→Prop:=fun n st=>∃f fr i,st=⟨f,[QV fr 5 1100 m.name (l++upto m.meths (Jh S m) i)],[]⟩∧n=m.meths.length-i∧i≤m.meths.length∧f 2=.ptr 0 2 0∧f 3=.ptr 0 3 0∧f 5=.ptr 0 5 0∧f 6=.int .i64 (i:Nat)∧
  fr 2=.cells [.list (S.msgs.map fun n=>.agg n.cells),.list (S.enums.map fun n=>.agg n.cells),.list (S.servs.map fun n=>.agg n.cells)]∧fr 3=.cells m.cells∧(fr 7).isRow=false
 have hl1:=hm.len1;refine Qe I _ ⟨f,fr,0,by rw[upto,Qz6],rfl,Qzl _,h2,h3,h5,h6,o2,o3,by rw[o7];rfl⟩ ?_;clear h2 h3 h5 h6 o2 o3 o7;rintro _ st ⟨f0,fr0,i,rfl,rfl,hi,h20,h30,h50,h60,Jr,J4,r7⟩;refine QJ (a:=_) [7] (by
  intro s hs;simp only[QAj,QAT,or_false]at hs;subst hs;rw[Zq _ _ _ _ _ (by decide) (by decide)];exact r7) ?_
 intro f fr hf hmm hn;have h2:f 2=.ptr 0 2 0:=by rw[hf,h20]<;>rfl
 have h3:f 3=.ptr 0 3 0:=by rw[hf,h30]<;>rfl
 have h5:f 5=.ptr 0 5 0:=by rw[hf,h50]<;>rfl
 have h6:f 6=.int .i64 (i:Nat):=by rw[hf,h60]<;>rfl
 have o2:fr 2=.cells [.list (S.msgs.map fun n=>.agg n.cells),.list (S.enums.map fun n=>.agg n.cells),.list (S.servs.map fun n=>.agg n.cells)]:=by rw[hmm 2 (by decide),Zq _ _ _ _ _ (by decide) (by decide),Jr]<;>rfl
 have o3:fr 3=.cells m.cells:=by rw[hmm 3 (by decide),Zq _ _ _ _ _ (by decide) (by decide),J4]<;>rfl
 have n7:=hn 7 (by decide);have q0:(l++upto m.meths (Jh S m) i).length≤100000000:=by
  have:=QK (l:=m.meths) (KJ S m) i;rw[QzM];omega
 have hfe:QV fr 5 1100 m.name (l++upto m.meths (Jh S m) i)=fr:=UF _ _ _ _ _ (by rw[hmm 5 (by decide),WM]<;>rfl) (by rw[hmm 1100 (by decide),WN _ _ _ _ _ (by decide)]<;>rfl);clear hf hmm hn h20 h30 h50 h60 Jr J4 r7;have o3':=o3;rw[JL]at o3';simp only[RH,QAo,h3,h6,o3',eE,seval];by_cases hlt:i<m.meths.length
 case neg=>
  have ei:i=m.meths.length:=by omega
  subst ei;simp only[QC hlt,Qa,seval];rw[←hfe];exact hq _ _ (by exact h3) (by exact h5) o3
 obtain⟨x,hx⟩:∃x,m.meths[i]? = some x:=⟨m.meths[i],Qzf hlt⟩;have hg:(m.meths.map fun n=>AV.agg n.cells)[i]? = some (.agg x.cells):=by rw[QAm,hx];rfl
 rw[JP]at hg;have e1:=Qn i _ hlt (by simp only[maxLen];omega);simp only[QA hlt,n7,RI,Qk,QAq,Qc,hg,h3,h6,o3',eE,seval];rw[←hfe,UG _ _ _ _ _ (by decide) (by decide)];generalize hF:Qw fr 7 _=F;have p2:F 2=.cells [.list (S.msgs.map fun n=>.agg n.cells),.list (S.enums.map fun n=>.agg n.cells),.list (S.servs.map fun n=>.agg n.cells)]:=by rw[←hF];exact(by exact o2)
 have p3:F 3=.cells m.cells:=by rw[←hF];exact(by exact o3)
 have p7:F 7=.cells x.cells:=by rw[←hF,JP];exact(by rfl)
 clear hF hfe o2 o3 o3' n7;refine us8 m i x F p7 _ _ _ (by omega) (by simp only[Hd,KL,Qz7,h2,h3,h5,h6,Qa,seval]) (fun f hf=>?_);clear h2 h3 h5 h6;have q1:=Qr q0 m.name (i:Int) (Q5 x.name) 8;simp only[Qa,seval];refine us9 hM m hm i x hx F p3 p7 _ f _ (by omega) hf (fun f hf=>?_);have q2:=Qr q1 m.name (i:Int) (U4 m.meths i x) 11;simp only[Qa,seval];refine Qwy hM S hS m i x F p2 p7 _ f _ (by omega) hf (fun f hf=>?_);have q3:=Qr q2 m.name (i:Int) (QS S x.inn&&QS S x.out) 12;simp only[Qa,seval];refine Qwz m i x F p7 _ f _ (by omega) hf (fun f hf=>?_);have q4:=Qr q3 m.name (i:Int) (decide (x.shape≥1)&&decide (x.shape≤4)) 1;simp only[Qa,seval];refine QwA hM m hm i x hx F p7 _ f _ (by omega) hf (fun f hf=>?_);obtain⟨h2,h3,h5,h6,h7,-⟩:=hf;simp only[RJ,h6,e1,Qa,seval];exact⟨m.meths.length-(i+1),by omega,_,F,i+1,by rw[XY hx,Ct];simp only[Qzw]<;>rfl,rfl,by omega,(by exact h2),(by exact h3),(by exact h5),(by rfl),p2,p3,by rw[p7];rfl⟩

include hM hS hm in
theorem u53:Qu Tryz.prog 53 [S.av,Kt m] (.list ((ZV S m).map PB.av)):=by
 have hl1:=hm.len1;have hl2:=hm.len2;have hnl:=hm.name;refine k53.fn (by simp) ?_;simp only[r53,o53,Rz,RD,SC.av,Kt,JL m,eE,seval];refine Xb rfl rfl rfl rfl ?_;generalize hb:(Qw (Qw Qh 2 _) 3 _:Nat→Ob)=base;have o2:base 2=.cells [.list (S.msgs.map fun n=>.agg n.cells),.list (S.enums.map fun n=>.agg n.cells),.list (S.servs.map fun n=>.agg n.cells)]:=by rw[←hb];exact(by rfl)
 have o3:base 3=.cells m.cells:=by rw[←hb,JL];exact(by rfl)
 have o7:base 7=.none:=by rw[←hb];rfl
 clear hb;have o3s:=o3;rw[JL]at o3s;rw[Ht base 5 1100 m.name _ (by decide)];simp only[RE,Qv,o3s,eE,seval];refine aC (MA m.name) ?_;simp only[Qa,seval];refine QH (by decide) rfl rfl rfl rfl (by simp) ?_;rw[QAW,Qzy];have q1:=QR m.name (-1) (Xg m.name) 8;have hbb:decide (m.meths.length≤64)=!decide ((m.meths.length:Int) > 64):=(by rw[QzY];simp only[QAl,Qz0,QAN];omega);have q2:=Qr q1 m.name (-1) (decide (m.meths.length≤64)) 3;simp only[RF,Qv,QAo,o3s,eE,seval];refine QH (by decide) rfl rfl rfl rfl (by omega) ?_;rw[←hbb];simp only[RG,Qa,seval];refine MD hM S hS m hm _ (by omega) _ base (by rfl) (by rfl) (by rfl) (by rfl) o2 o3 o7 _ (fun f fr h3 h5 o3=>?_);have o3s:=o3;rw[JL]at o3s;have q3:=QK (l:=m.meths) (KJ S m) m.meths.length;simp only[Vw,Qv,h3,o3s,eE,seval];refine JE (by simp only[maxLen];omega) (by simp only[maxLen];omega) hm.notes (by decide) (by exact h5) rfl rfl rfl (by decide) (by simp only[QzM]at q2 ⊢;omega) ?_;generalize hL:_++Xl m.name (-1) m.notes 5=L;have hfin:ZV S m=L:=by rw[←hL];rfl
 rw[hfin];simp only[Vx,Qv,h5,QAo,QzQ,Ku,QzB,Qzc,Qz7,QAc,AV.un,eE,seval]
end

theorem u48 (L:List (List UInt8))(hl:L.length≤maxLen):Qu Tryz.prog 48 [.list (L.map Qi)] (.bool (XS L Op.bytesLess)):=by
 let I:Nat→St→Prop:=fun k st=>∃f i,st=⟨f,[Qh],[]⟩∧k=L.length-(i+1)∧Q7 (Wt L Op.bytesLess) (i+1)=true∧f 0=.list (L.map Qi)∧f 3=.int .i64 ((i+1:Nat):Int)
 refine k48.fn (by simp) ?_;simp only[Qa,seval];refine Qe I _ ⟨_,0,rfl,rfl,rfl,(by rfl),(by rfl)⟩ ?_;rintro _ st ⟨f,i,rfl,rfl,hx,h0,h3⟩;simp only[QAo,h0,h3,Qa,seval];by_cases hlt:i+1<L.length
 ·obtain⟨x,hi⟩:∃x,L[i]? = some x:=⟨L[i]'(by omega),Qzf (by omega)⟩;obtain⟨y,hj⟩:∃y,L[i+1]? = some y:=⟨L[i+1],Qzf hlt⟩;have hg:(L.map Qi)[i]? = some (.str x):=by simp[hi,Qi]
  have hh:(L.map Qi)[i+1]? = some (.str y):=by simp[hj,Qi]
  have e1:=Qn (i+1) _ hlt hl;have e2:=JC i _ hlt hl;simp only[QA hlt,e2,BB,Qk,QAq,Qc,hg,hh,h0,h3,eE,seval];have hs:Q7 (Wt L Op.bytesLess) (i+2)=Op.bytesLess x y:=by
   show(Q7 (Wt L Op.bytesLess) (i+1)&&Wt L Op.bytesLess (i+1))=_;rw[hx,J6 hi hj,QAC]
  cases hp:Op.bytesLess x y
  ·rw[hp]at hs;have hf:XS L Op.bytesLess=false:=by
    rw[QAH];intro h';rw[QW.2 fun k hk=>QW.1 h' k (by omega)]at hs;cases hs
   simp only[hf,QAb,Qa,seval]
  ·rw[hp]at hs;simp only[h3,e1,QAD,Qa,seval];exact⟨L.length-(i+2),by omega,_,i+1,rfl,rfl,hs,(by exact h0),(by rfl)⟩
 ·have hf:XS L Op.bytesLess=true:=QW.2 fun k hk=>QW.1 hx k (by omega)
  simp only[QC hlt,hf,Qa,seval]

theorem u49 (A B:List (List UInt8))(hA:A.length≤maxLen)(hB:B.length≤maxLen):Qu Tryz.prog 49 [.list (A.map Qi),.list (B.map Qi)] (.bool (A.any fun s=>B.contains s)):=by
 let I:Nat→St→Prop:=fun k st=>∃f i,st=⟨f,[Qh],[]⟩∧k=A.length-i∧i≤A.length∧(A.take i).any (fun s=>B.contains s)=false∧f 0=.list (A.map Qi)∧f 1=.list (B.map Qi)∧f 5=.int .i64 (i:Nat)
 refine k49.fn (by simp) ?_;simp only[Qa,seval];refine Qe I _ ⟨_,0,rfl,rfl,Qzl _,rfl,(by rfl),(by rfl),(by rfl)⟩ ?_;rintro _ st ⟨f,i,rfl,rfl,hil,hx,h0,h1,h5⟩;simp only[QAo,h0,h5,Qa,seval];by_cases hlt:i<A.length
 ·obtain⟨x,hi⟩:∃x,A[i]? = some x:=⟨A[i],Qzf hlt⟩;have hg:(A.map Qi)[i]? = some (.str x):=by simp[hi,Qi]
  have e1:=Qn i _ hlt hA;have ht:=Jj (q:=fun s=>B.contains s) hi;rw[hx,QAF]at ht;simp only[QA hlt,Qk,QAq,Qc,hg,h0,h1,h5,eE,seval];refine aC (QkM B hB x) ?_;cases hp:B.contains x
  ·rw[hp]at ht;simp only[h5,e1,Qa,seval];exact⟨A.length-(i+1),by omega,_,i+1,rfl,rfl,by omega,ht,(by exact h0),(by exact h1),(by rfl)⟩
  ·have hr:(A.any fun s=>B.contains s)=true:=QAJ.2 ⟨x,Qzq hi,hp⟩;simp only[hr,Qa,seval]
 ·have hr:(A.any fun s=>B.contains s)=false:=by rw[←hx,QzJ (by omega)]
  simp only[QC hlt,hr,Qa,seval]

def QN (S:SC)(w:Int):List (List UInt8):=(if w=1 then S.msgs.map SM.name else [])++(if w=2 then S.enums.map SE.name else [])++(if w=3 then S.servs.map SQ.name else [])
section
variable {M:Nat}(hM:M≤1048576)(S:SC)(hS:S.ok M)(w:Int)
include hM hS in
theorem QwB (L:List (List UInt8))(hL:L.length≤10000000)(f:Fr)(fr:Nat→Ob)(g:Nat)(h1:f 1=.int .i64 w)(h2:f 2=.ptr 0 2 0)(h5:f 5=.vec 0 5 g 0 L.length false)(hk:f 6=.int .i64 0)
  (o2:fr 2=.cells [.list (S.msgs.map fun n=>.agg n.cells),.list (S.enums.map fun n=>.agg n.cells),.list (S.servs.map fun n=>.agg n.cells)]) (o5:fr 5=.vec g 1 (L.map Qi)) (Q:Exit→St→Prop)
  (hq:∀(f:Fr) (fr:Nat→Ob) (g:Nat) (L2:List (List UInt8)),L2=L++(if w=1 then S.msgs.map SM.name else [])→f 1=.int .i64 w→f 2=.ptr 0 2 0→f 5=.vec 0 5 g 0 L2.length false→fr 2=.cells [.list (S.msgs.map fun n=>.agg n.cells),.list (S.enums.map fun n=>.agg n.cells),.list (S.servs.map fun n=>.agg n.cells)]→fr 5=.vec g 1 (L2.map Qi)→Q (.exit 0) ⟨f,[fr],[]⟩):QE Tryz.prog (.loop Rb) ⟨f,[fr],[]⟩ Q:=by
 have hl1:=hS.len1;by_cases hw:w=1
 case neg=>
  have d:(w==1)=false:=by simp[hw]
  refine Qe (fun k st=>k=0∧st=⟨f,[fr],[]⟩) 0 ⟨rfl,rfl⟩ ?_;rintro _ st ⟨rfl,rfl⟩;simp only[h1,d,Qa,seval];exact hq _ _ g L (by rw[Qzj hw,Qz6]) (by exact h1) (by exact h2) (by exact h5) o2 o5
 have d:(w==1)=true:=by simp[hw]
 rw[Qzk hw]at hq
 let I:Nat→St→Prop:=fun n st=>∃f fr i g L2,st=⟨f,[fr],[]⟩∧n=S.msgs.length-i∧i≤S.msgs.length∧L2=L++(S.msgs.take i).map SM.name∧f 1=.int .i64 w∧f 2=.ptr 0 2 0∧f 5=.vec 0 5 g 0 L2.length false∧f 6=.int .i64 (i:Nat)∧
  fr 2=.cells [.list (S.msgs.map fun n=>.agg n.cells),.list (S.enums.map fun n=>.agg n.cells),.list (S.servs.map fun n=>.agg n.cells)]∧fr 5=.vec g 1 (L2.map Qi)
 refine Qe I _ ⟨f,fr,0,g,L,rfl,rfl,Qzl _,by simp,h1,h2,h5,hk,o2,o5⟩ ?_;clear h1 h2 h5 hk o2 o5;rintro _ st ⟨f,fr,i,g,L2,rfl,rfl,hi,hL2,h1,h2,h5,hk,o2,o5⟩;simp only[QAo,h1,h2,hk,o2,d,eE,seval];by_cases hlt:i<S.msgs.length
 case neg=>
  simp only[QC hlt,Qa,seval];rw[QzJ (by omega)]at hL2;exact hq _ _ g L2 hL2 (by exact h1) (by exact h2) (by exact h5) o2 o5
 obtain⟨x,hx⟩:∃x,S.msgs[i]? = some x:=⟨S.msgs[i],Qzf hlt⟩;have hg:(S.msgs.map fun n=>AV.agg n.cells)[i]? = some (.agg x.cells):=by rw[QAm,hx];rfl
 rw[Xo]at hg;have e1:=Qn i _ hlt (by simp only[maxLen];omega);have hsu:L2++[x.name]=L++(S.msgs.take (i+1)).map SM.name:=by rw[QAx,hx,QAy,QAw,hL2,Qzw];rfl
 have hll:L2.length≤20000000:=by
  rw[hL2,QzM,QAo,QzZ];omega
 simp only[QA hlt,Qk,QAq,Qc,hg,h2,h5,hk,o2,eE,seval];refine Ze (w:=x.name) rfl ?_;refine QO (xs:=L2.map Qi) (by rfl) o5 rfl (by simp) (by rfl) rfl (by simp only[Qzr,QAe,maxLen];omega) (by simp only[Qzr,QAe];omega) ?_;simp only[hk,e1,Qa,seval];exact⟨S.msgs.length-(i+1),by omega,_,_,i+1,g+1,L2++[x.name],rfl,rfl,by omega,hsu,(by exact h1),(by exact h2),by rw[QzM];exact(by rfl),(by rfl),(by exact o2),by rw[QAw];exact(by rfl)⟩

include hM hS in
theorem QwC (L:List (List UInt8))(hL:L.length≤10000000)(f:Fr)(fr:Nat→Ob)(g:Nat)(h1:f 1=.int .i64 w)(h2:f 2=.ptr 0 2 0)(h5:f 5=.vec 0 5 g 0 L.length false)(hk:f 7=.int .i64 0)
  (o2:fr 2=.cells [.list (S.msgs.map fun n=>.agg n.cells),.list (S.enums.map fun n=>.agg n.cells),.list (S.servs.map fun n=>.agg n.cells)]) (o5:fr 5=.vec g 1 (L.map Qi)) (Q:Exit→St→Prop)
  (hq:∀(f:Fr) (fr:Nat→Ob) (g:Nat) (L2:List (List UInt8)),L2=L++(if w=2 then S.enums.map SE.name else [])→f 1=.int .i64 w→f 2=.ptr 0 2 0→f 5=.vec 0 5 g 0 L2.length false→fr 2=.cells [.list (S.msgs.map fun n=>.agg n.cells),.list (S.enums.map fun n=>.agg n.cells),.list (S.servs.map fun n=>.agg n.cells)]→fr 5=.vec g 1 (L2.map Qi)→Q (.exit 2) ⟨f,[fr],[]⟩):QE Tryz.prog (.loop Rd) ⟨f,[fr],[]⟩ Q:=by
 have hl1:=hS.len2;by_cases hw:w=2
 case neg=>
  have d:(w==2)=false:=by simp[hw]
  refine Qe (fun k st=>k=0∧st=⟨f,[fr],[]⟩) 0 ⟨rfl,rfl⟩ ?_;rintro _ st ⟨rfl,rfl⟩;simp only[h1,d,Qa,seval];exact hq _ _ g L (by rw[Qzj hw,Qz6]) (by exact h1) (by exact h2) (by exact h5) o2 o5
 have d:(w==2)=true:=by simp[hw]
 rw[Qzk hw]at hq
 let I:Nat→St→Prop:=fun n st=>∃f fr i g L2,st=⟨f,[fr],[]⟩∧n=S.enums.length-i∧i≤S.enums.length∧L2=L++(S.enums.take i).map SE.name∧f 1=.int .i64 w∧f 2=.ptr 0 2 0∧f 5=.vec 0 5 g 0 L2.length false∧f 7=.int .i64 (i:Nat)∧
  fr 2=.cells [.list (S.msgs.map fun n=>.agg n.cells),.list (S.enums.map fun n=>.agg n.cells),.list (S.servs.map fun n=>.agg n.cells)]∧fr 5=.vec g 1 (L2.map Qi)
 refine Qe I _ ⟨f,fr,0,g,L,rfl,rfl,Qzl _,by simp,h1,h2,h5,hk,o2,o5⟩ ?_;clear h1 h2 h5 hk o2 o5;rintro _ st ⟨f,fr,i,g,L2,rfl,rfl,hi,hL2,h1,h2,h5,hk,o2,o5⟩;simp only[QAo,h1,h2,hk,o2,d,eE,seval];by_cases hlt:i<S.enums.length
 case neg=>
  simp only[QC hlt,Qa,seval];rw[QzJ (by omega)]at hL2;exact hq _ _ g L2 hL2 (by exact h1) (by exact h2) (by exact h5) o2 o5
 obtain⟨x,hx⟩:∃x,S.enums[i]? = some x:=⟨S.enums[i],Qzf hlt⟩;have hg:(S.enums.map fun n=>AV.agg n.cells)[i]? = some (.agg x.cells):=by rw[QAm,hx];rfl
 rw[XJ]at hg;have e1:=Qn i _ hlt (by simp only[maxLen];omega);have hsu:L2++[x.name]=L++(S.enums.take (i+1)).map SE.name:=by rw[QAx,hx,QAy,QAw,hL2,Qzw];rfl
 have hll:L2.length≤20000000:=by
  rw[hL2,QzM,QAo,QzZ];omega
 simp only[QA hlt,Qk,QAq,Qc,hg,h2,h5,hk,o2,eE,seval];refine Ze (w:=x.name) rfl ?_;refine QO (xs:=L2.map Qi) (by rfl) o5 rfl (by simp) (by rfl) rfl (by simp only[Qzr,QAe,maxLen];omega) (by simp only[Qzr,QAe];omega) ?_;simp only[hk,e1,Qa,seval];exact⟨S.enums.length-(i+1),by omega,_,_,i+1,g+1,L2++[x.name],rfl,rfl,by omega,hsu,(by exact h1),(by exact h2),by rw[QzM];exact(by rfl),(by rfl),(by exact o2),by rw[QAw];exact(by rfl)⟩

include hM hS in
theorem QwD (L:List (List UInt8))(hL:L.length≤10000000)(f:Fr)(fr:Nat→Ob)(g:Nat)(h1:f 1=.int .i64 w)(h2:f 2=.ptr 0 2 0)(h5:f 5=.vec 0 5 g 0 L.length false)(hk:f 8=.int .i64 0)
  (o2:fr 2=.cells [.list (S.msgs.map fun n=>.agg n.cells),.list (S.enums.map fun n=>.agg n.cells),.list (S.servs.map fun n=>.agg n.cells)]) (o5:fr 5=.vec g 1 (L.map Qi)) (Q:Exit→St→Prop)
  (hq:∀(f:Fr) (fr:Nat→Ob) (g:Nat) (L2:List (List UInt8)),L2=L++(if w=3 then S.servs.map SQ.name else [])→f 1=.int .i64 w→f 2=.ptr 0 2 0→f 5=.vec 0 5 g 0 L2.length false→fr 2=.cells [.list (S.msgs.map fun n=>.agg n.cells),.list (S.enums.map fun n=>.agg n.cells),.list (S.servs.map fun n=>.agg n.cells)]→fr 5=.vec g 1 (L2.map Qi)→Q (.exit 4) ⟨f,[fr],[]⟩):QE Tryz.prog (.loop Re) ⟨f,[fr],[]⟩ Q:=by
 have hl1:=hS.len3;by_cases hw:w=3
 case neg=>
  have d:(w==3)=false:=by simp[hw]
  refine Qe (fun k st=>k=0∧st=⟨f,[fr],[]⟩) 0 ⟨rfl,rfl⟩ ?_;rintro _ st ⟨rfl,rfl⟩;simp only[h1,d,Qa,seval];exact hq _ _ g L (by rw[Qzj hw,Qz6]) (by exact h1) (by exact h2) (by exact h5) o2 o5
 have d:(w==3)=true:=by simp[hw]
 rw[Qzk hw]at hq
 let I:Nat→St→Prop:=fun n st=>∃f fr i g L2,st=⟨f,[fr],[]⟩∧n=S.servs.length-i∧i≤S.servs.length∧L2=L++(S.servs.take i).map SQ.name∧f 1=.int .i64 w∧f 2=.ptr 0 2 0∧f 5=.vec 0 5 g 0 L2.length false∧f 8=.int .i64 (i:Nat)∧
  fr 2=.cells [.list (S.msgs.map fun n=>.agg n.cells),.list (S.enums.map fun n=>.agg n.cells),.list (S.servs.map fun n=>.agg n.cells)]∧fr 5=.vec g 1 (L2.map Qi)
 refine Qe I _ ⟨f,fr,0,g,L,rfl,rfl,Qzl _,by simp,h1,h2,h5,hk,o2,o5⟩ ?_;clear h1 h2 h5 hk o2 o5;rintro _ st ⟨f,fr,i,g,L2,rfl,rfl,hi,hL2,h1,h2,h5,hk,o2,o5⟩;simp only[QAo,h1,h2,hk,o2,d,eE,seval];by_cases hlt:i<S.servs.length
 case neg=>
  simp only[QC hlt,Qa,seval];rw[QzJ (by omega)]at hL2;exact hq _ _ g L2 hL2 (by exact h1) (by exact h2) (by exact h5) o2 o5
 obtain⟨x,hx⟩:∃x,S.servs[i]? = some x:=⟨S.servs[i],Qzf hlt⟩;have hg:(S.servs.map fun n=>AV.agg n.cells)[i]? = some (.agg x.cells):=by rw[QAm,hx];rfl
 rw[JL]at hg;have e1:=Qn i _ hlt (by simp only[maxLen];omega);have hsu:L2++[x.name]=L++(S.servs.take (i+1)).map SQ.name:=by rw[QAx,hx,QAy,QAw,hL2,Qzw];rfl
 have hll:L2.length≤20000000:=by
  rw[hL2,QzM,QAo,QzZ];omega
 simp only[QA hlt,Qk,QAq,Qc,hg,h2,h5,hk,o2,eE,seval];refine Ze (w:=x.name) rfl ?_;refine QO (xs:=L2.map Qi) (by rfl) o5 rfl (by simp) (by rfl) rfl (by simp only[Qzr,QAe,maxLen];omega) (by simp only[Qzr,QAe];omega) ?_;simp only[hk,e1,Qa,seval];exact⟨S.servs.length-(i+1),by omega,_,_,i+1,g+1,L2++[x.name],rfl,rfl,by omega,hsu,(by exact h1),(by exact h2),by rw[QzM];exact(by rfl),(by rfl),(by exact o2),by rw[QAw];exact(by rfl)⟩

include hM hS in
theorem RP:Qu Tryz.prog 46 [S.av,.int .i64 w] (.list ((QN S w).map Qi)):=by
 have l1:=hS.len1;have l2:=hS.len2;have l3:=hS.len3;have hi:∀(p:Prop) [Decidable p] (l:List (List UInt8)),l.length≤1048576→(if p then l else []).length≤1048576:=by
  intro p _ l h;split
  ·exact h
  ·simp
 have m1:=hi (w=1) (S.msgs.map SM.name) (by rw[QAo];omega);have m2:=hi (w=2) (S.enums.map SE.name) (by rw[QAo];omega);have m3:=hi (w=3) (S.servs.map SQ.name) (by rw[QAo];omega);refine k46.fn (by simp) ?_;simp only[SC.av,eE,seval];refine JX rfl rfl ?_;simp only[Qa,seval];refine QwB hM S hS w [] (by simp) _ _ 1 (by rfl) (by rfl) (by rfl) (by rfl) (by rfl) (by rfl) _ (fun f fr g L2 hL h1 h2 h5 o2 o5=>?_);simp only[Qa,seval];refine QwC hM S hS w L2 (by rw[hL,Qzy];omega) _ _ g (by exact h1) (by exact h2) (by exact h5) (by rfl) o2 o5 _ (fun f fr g L3 hL3 h1 h2 h5 o2 o5=>?_);simp only[Qa,seval];refine QwD hM S hS w L3 (by rw[hL3,hL,Qzy,QzM];omega) _ _ g (by exact h1) (by exact h2) (by exact h5) (by rfl) o2 o5 _ (fun f fr g L4 hL4 h1 h2 h5 o2 o5=>?_);have e:QN S w=L4:=by rw[hL4,hL3,hL];rfl
 have ht:List.take L4.length (L4.map Qi)=L4.map Qi:=QzJ (by simp);rw[e];simp only[h5,o5,ht,QAo,QzQ,QzB,Qzc,Qz7,QAc,AV.un,eE,seval]
end

theorem Yj (A B:List (List UInt8)):(A.any fun s=>B.contains s)=B.any fun s=>A.contains s:=by
 rw[QzY,QAJ,QAJ]
 constructor
 ·rintro⟨x,h1,h2⟩;exact⟨x,QAU.1 h2,QAU.2 h1⟩
 ·rintro⟨x,h1,h2⟩;exact⟨x,QAU.1 h2,QAU.2 h1⟩

section
variable {M:Nat}(hM:M≤1048576)(S:SC)(hS:S.ok M)(h8:S.msgs.length≤8∧S.enums.length≤8∧S.servs.length≤8)

include hM hS h8 in
theorem QwE (fr:Nat→Ob)(o1:fr 1=.cells [.list (S.msgs.map fun n=>.agg n.cells),.list (S.enums.map fun n=>.agg n.cells),.list (S.servs.map fun n=>.agg n.cells)])(f:Fr)(h1:f 1=.ptr 0 1 0)(h3:f 3=.ptr 0 3 0)(h4:f 4=.int .i64 1)(Q:Exit→St→Prop)
  (hq:∀f,f 1=.ptr 0 1 0→f 3=.ptr 0 3 0→Q (.exit 0) ⟨f,[QV fr 3 1100 [] (Z4 (QN S 1) (QN S 2) (QN S 3) 3)],[]⟩):QE Tryz.prog (.loop Bj) ⟨f,[QV fr 3 1100 [] []],[]⟩ Q:=by
 obtain⟨l1,l2,l3⟩:=h8;have n1:(QN S 1).length≤8:=by simp[QN];omega
 have n2:(QN S 2).length≤8:=by simp[QN];omega
 have n3:(QN S 3).length≤8:=by simp[QN];omega
 let I:Nat→St→Prop:=fun n st=>∃f i,st=⟨f,[QV fr 3 1100 [] (Z4 (QN S 1) (QN S 2) (QN S 3) i)],[]⟩∧n=3-i∧i≤3∧f 1=.ptr 0 1 0∧f 3=.ptr 0 3 0∧f 4=.int .i64 ((i+1:Nat):Int)
 refine Qe I _ ⟨f,0,rfl,rfl,by omega,h1,h3,h4⟩ ?_;clear h1 h3 h4;rintro _ st ⟨f,i,rfl,rfl,hi,h1,h3,h4⟩;simp only[Bj,P4,h4,Qa,seval];by_cases hlt:i<3
 case neg=>
  have e:i=3:=by omega
  subst e;have d:decide (((3+1:Nat):Int)≤3)=false:=rfl;simp only[Qa,seval];exact hq _ (by exact h1) (by exact h3)
 have d:decide (((i+1:Nat):Int)≤3)=true:=QAM (by omega);have e1:IntKind.i64.wrap (((i+1:Nat):Int)+1)=((i+1+1:Nat):Int):=by simp only[ZE];omega
 have hc:=RP hM S hS ((i+1:Nat):Int);simp only[SC.av]at hc;obtain⟨L,hLe,hLl,hp,hps⟩:∃L,QN S ((i+1:Nat):Int)=L∧L.length≤8∧(Z4 (QN S 1) (QN S 2) (QN S 3) i).length≤100∧Z4 (QN S 1) (QN S 2) (QN S 3) (i+1)=Z4 (QN S 1) (QN S 2) (QN S 3) i++ZQ L:=by
  have b1:=Zp (QN S 1);have b2:=Zp (QN S 2);rcases(show i=0∨i=1∨i=2 by omega)with rfl|rfl|rfl
  ·exact⟨_,rfl,n1,by simp[Z4],rfl⟩
  ·exact⟨_,rfl,n2,by simp only[Z4];omega,rfl⟩
  ·exact⟨_,rfl,n3,by simp only[Z4,QzM];omega,rfl⟩
 rw[hLe]at hc;generalize Z4 (QN S 1) (QN S 2) (QN S 3) i=p at *;have q1:=Qr hp [] (-1) (decide (L.length≤64)) 3;have hb:decide (L.length≤64)=!decide ((L.length:Int) > 64):=(by rw[QzY];simp only[QAl,Qz0,QAN];omega);simp only[d,P5,Qv,h1,h4,o1,eE,seval];refine aC hc ?_;simp only[P6,QAo,Qa,seval];refine QH (by decide) (by exact h3) rfl rfl rfl (by omega) ?_;rw[←hb];simp only[P7,Qa,seval];refine aC (u48 L (by simp only[maxLen];omega)) ?_;simp only[Qa,seval];refine QH (by decide) (by exact h3) rfl rfl rfl (by omega) ?_;simp only[P8,h4,e1,Qa,seval];exact⟨3-(i+1),by omega,_,i+1,by rw[hps,ZQ,QAW,Qzw],rfl,by omega,(by exact h1),(by exact h3),(by rfl)⟩

def AS (fr:Nat→Ob)(L:List PB):Prop:=∃g,fr 3=.cells [.str [],.vec 0 1100 g 0 L.length false]∧fr 1100=.vec g 3 (L.map PB.av)

include hM hS in
theorem QwF (hF:(Q2 S).length=S.msgs.length)(l:List PB)(hl:l.length≤1000000000)(h8:S.msgs.length≤8)(f:Fr)(fr:Nat→Ob)(h1:f 1=.ptr 0 1 0)(h3:f 3=.ptr 0 3 0)(h9:f 9=.list ((Q2 S).map AV.bool))(hk:f 10=.int .i64 0)
  (o1:fr 1=.cells [.list (S.msgs.map fun n=>.agg n.cells),.list (S.enums.map fun n=>.agg n.cells),.list (S.servs.map fun n=>.agg n.cells)]) (hA:AS fr l) (Q:Exit→St→Prop)
  (hq:∀(f:Fr) (fr:Nat→Ob),f 1=.ptr 0 1 0→f 3=.ptr 0 3 0→f 9=.list ((Q2 S).map AV.bool)→fr 1=.cells [.list (S.msgs.map fun n=>.agg n.cells),.list (S.enums.map fun n=>.agg n.cells),.list (S.servs.map fun n=>.agg n.cells)]→AS fr (l++S.msgs.flatMap (ZO S (Xh S (Q2 S))))→Q (.exit 2) ⟨f,[fr],[]⟩):QE Tryz.prog (.loop Hj) ⟨f,[fr],[]⟩ Q:=by
 let I:Nat→St→Prop:=fun n st=>∃f fr i,st=⟨f,[fr],[]⟩∧n=S.msgs.length-i∧i≤S.msgs.length∧f 1=.ptr 0 1 0∧f 3=.ptr 0 3 0∧f 9=.list ((Q2 S).map AV.bool)∧f 10=.int .i64 (i:Nat)∧
  fr 1=.cells [.list (S.msgs.map fun n=>.agg n.cells),.list (S.enums.map fun n=>.agg n.cells),.list (S.servs.map fun n=>.agg n.cells)]∧AS fr (l++(S.msgs.take i).flatMap (ZO S (Xh S (Q2 S))))
 have hg:∀x∈S.msgs,((ZO S (Xh S (Q2 S))) x).length≤14000000:=fun x hx=>WK hM S _ x (hS.msgs x hx)
 have _:=hF;refine Qe I _ ⟨f,fr,0,rfl,rfl,Qzl _,h1,h3,h9,hk,o1,by simpa using hA⟩ ?_;clear h1 h3 h9 hk o1 hA;rintro _ st ⟨f,fr,i,rfl,rfl,hi,h1,h3,h9,hk,o1,⟨g,oS,oR⟩⟩;simp only[Hj,Vb,Vc,Vd,QAo,h1,hk,o1,eE,seval];by_cases hlt:i<S.msgs.length
 case neg=>
  have e:i=S.msgs.length:=by omega
  subst e;simp only[QC hlt,Qa,seval];rw[QAv]at oS oR;exact hq _ _ (by exact h1) (by exact h3) (by exact h9) o1 ⟨g,oS,oR⟩
 obtain⟨x,hx⟩:∃x,S.msgs[i]? = some x:=⟨S.msgs[i],Qzf hlt⟩;have hm:=Qzq hx;have hgx:(S.msgs.map fun n=>AV.agg n.cells)[i]? = some (.agg x.cells):=by rw[QAm,hx];rfl
 rw[Xo]at hgx;have e1:=Qn i _ hlt (by simp only[maxLen];omega);have q1:=ZR hg i;have q2:=hg x hm;have hc:=u51 hM S hS x (hS.msgs x hm) (Q2 S) hF;simp only[QT,Xo x,SC.av]at hc;simp only[QA hlt,Qk,QAq,Qc,hgx,h1,h3,h9,hk,o1,oS,eE,seval];refine aC hc ?_;refine QO (xs:=(l++(S.msgs.take i).flatMap (ZO S (Xh S (Q2 S)))).map PB.av) (by rfl) (by exact oR) rfl (by simp) (by rfl) (UE _) (by simp only[QzM,QAo,maxLen];omega) (by simp only[QzM,QAo];omega) ?_;simp only[h3,hk,oS,e1,eE,seval];refine⟨S.msgs.length-(i+1),by omega,_,_,i+1,rfl,rfl,by omega,(by exact h1),(by exact h3),(by exact h9),(by rfl),(by exact o1),⟨g+1,?_,?_⟩⟩
 ·rw[X0 hx,←Qzw];simp only[QzM,QAo,Qa,seval]
 ·rw[X0 hx,←Qzw];simp only[QAw,Qa,seval]

include hM hS in
theorem QwG (hF:(Q2 S).length=S.msgs.length)(l:List PB)(hl:l.length≤1000000000)(h8:S.enums.length≤8)(f:Fr)(fr:Nat→Ob)(h1:f 1=.ptr 0 1 0)(h3:f 3=.ptr 0 3 0)(h9:f 9=.list ((Q2 S).map AV.bool))(hk:f 11=.int .i64 0)
  (o1:fr 1=.cells [.list (S.msgs.map fun n=>.agg n.cells),.list (S.enums.map fun n=>.agg n.cells),.list (S.servs.map fun n=>.agg n.cells)]) (hA:AS fr l) (Q:Exit→St→Prop)
  (hq:∀(f:Fr) (fr:Nat→Ob),f 1=.ptr 0 1 0→f 3=.ptr 0 3 0→f 9=.list ((Q2 S).map AV.bool)→fr 1=.cells [.list (S.msgs.map fun n=>.agg n.cells),.list (S.enums.map fun n=>.agg n.cells),.list (S.servs.map fun n=>.agg n.cells)]→AS fr (l++S.enums.flatMap (ZK))→Q (.exit 4) ⟨f,[fr],[]⟩):QE Tryz.prog (.loop Hk) ⟨f,[fr],[]⟩ Q:=by
 let I:Nat→St→Prop:=fun n st=>∃f fr i,st=⟨f,[fr],[]⟩∧n=S.enums.length-i∧i≤S.enums.length∧f 1=.ptr 0 1 0∧f 3=.ptr 0 3 0∧f 9=.list ((Q2 S).map AV.bool)∧f 11=.int .i64 (i:Nat)∧
  fr 1=.cells [.list (S.msgs.map fun n=>.agg n.cells),.list (S.enums.map fun n=>.agg n.cells),.list (S.servs.map fun n=>.agg n.cells)]∧AS fr (l++(S.enums.take i).flatMap (ZK))
 have hg:∀x∈S.enums,((ZK) x).length≤14000000:=fun x hx=>WL hM x (hS.enums x hx)
 have _:=hF;refine Qe I _ ⟨f,fr,0,rfl,rfl,Qzl _,h1,h3,h9,hk,o1,by simpa using hA⟩ ?_;clear h1 h3 h9 hk o1 hA;rintro _ st ⟨f,fr,i,rfl,rfl,hi,h1,h3,h9,hk,o1,⟨g,oS,oR⟩⟩;simp only[Hk,Ve,Vf,Vg,QAo,h1,hk,o1,eE,seval];by_cases hlt:i<S.enums.length
 case neg=>
  have e:i=S.enums.length:=by omega
  subst e;simp only[QC hlt,Qa,seval];rw[QAv]at oS oR;exact hq _ _ (by exact h1) (by exact h3) (by exact h9) o1 ⟨g,oS,oR⟩
 obtain⟨x,hx⟩:∃x,S.enums[i]? = some x:=⟨S.enums[i],Qzf hlt⟩;have hm:=Qzq hx;have hgx:(S.enums.map fun n=>AV.agg n.cells)[i]? = some (.agg x.cells):=by rw[QAm,hx];rfl
 rw[XJ]at hgx;have e1:=Qn i _ hlt (by simp only[maxLen];omega);have q1:=ZR hg i;have q2:=hg x hm;have hc:=u52 hM x (hS.enums x hm);simp only[XC,XJ x]at hc;simp only[QA hlt,Qk,QAq,Qc,hgx,h1,h3,hk,o1,oS,eE,seval];refine aC hc ?_;refine QO (xs:=(l++(S.enums.take i).flatMap (ZK)).map PB.av) (by rfl) (by exact oR) rfl (by simp) (by rfl) (UE _) (by simp only[QzM,QAo,maxLen];omega) (by simp only[QzM,QAo];omega) ?_;simp only[h3,hk,oS,e1,eE,seval];refine⟨S.enums.length-(i+1),by omega,_,_,i+1,rfl,rfl,by omega,(by exact h1),(by exact h3),(by exact h9),(by rfl),(by exact o1),⟨g+1,?_,?_⟩⟩
 ·rw[X0 hx,←Qzw];simp only[QzM,QAo,Qa,seval]
 ·rw[X0 hx,←Qzw];simp only[QAw,Qa,seval]

include hM hS in
theorem QwH (hF:(Q2 S).length=S.msgs.length)(l:List PB)(hl:l.length≤1000000000)(h8:S.servs.length≤8)(f:Fr)(fr:Nat→Ob)(h1:f 1=.ptr 0 1 0)(h3:f 3=.ptr 0 3 0)(h9:f 9=.list ((Q2 S).map AV.bool))(hk:f 12=.int .i64 0)
  (o1:fr 1=.cells [.list (S.msgs.map fun n=>.agg n.cells),.list (S.enums.map fun n=>.agg n.cells),.list (S.servs.map fun n=>.agg n.cells)]) (hA:AS fr l) (Q:Exit→St→Prop)
  (hq:∀(f:Fr) (fr:Nat→Ob),f 1=.ptr 0 1 0→f 3=.ptr 0 3 0→f 9=.list ((Q2 S).map AV.bool)→fr 1=.cells [.list (S.msgs.map fun n=>.agg n.cells),.list (S.enums.map fun n=>.agg n.cells),.list (S.servs.map fun n=>.agg n.cells)]→AS fr (l++S.servs.flatMap (ZV S))→Q (.exit 6) ⟨f,[fr],[]⟩):QE Tryz.prog (.loop Hl) ⟨f,[fr],[]⟩ Q:=by
 let I:Nat→St→Prop:=fun n st=>∃f fr i,st=⟨f,[fr],[]⟩∧n=S.servs.length-i∧i≤S.servs.length∧f 1=.ptr 0 1 0∧f 3=.ptr 0 3 0∧f 9=.list ((Q2 S).map AV.bool)∧f 12=.int .i64 (i:Nat)∧
  fr 1=.cells [.list (S.msgs.map fun n=>.agg n.cells),.list (S.enums.map fun n=>.agg n.cells),.list (S.servs.map fun n=>.agg n.cells)]∧AS fr (l++(S.servs.take i).flatMap (ZV S))
 have hg:∀x∈S.servs,((ZV S) x).length≤14000000:=fun x hx=>FB hM S x (hS.servs x hx)
 have _:=hF;refine Qe I _ ⟨f,fr,0,rfl,rfl,Qzl _,h1,h3,h9,hk,o1,by simpa using hA⟩ ?_;clear h1 h3 h9 hk o1 hA;rintro _ st ⟨f,fr,i,rfl,rfl,hi,h1,h3,h9,hk,o1,⟨g,oS,oR⟩⟩;simp only[Hl,Vh,Vi,Vj,QAo,h1,hk,o1,eE,seval];by_cases hlt:i<S.servs.length
 case neg=>
  have e:i=S.servs.length:=by omega
  subst e;simp only[QC hlt,Qa,seval];rw[QAv]at oS oR;exact hq _ _ (by exact h1) (by exact h3) (by exact h9) o1 ⟨g,oS,oR⟩
 obtain⟨x,hx⟩:∃x,S.servs[i]? = some x:=⟨S.servs[i],Qzf hlt⟩;have hm:=Qzq hx;have hgx:(S.servs.map fun n=>AV.agg n.cells)[i]? = some (.agg x.cells):=by rw[QAm,hx];rfl
 rw[JL]at hgx;have e1:=Qn i _ hlt (by simp only[maxLen];omega);have q1:=ZR hg i;have q2:=hg x hm;have hc:=u53 hM S hS x (hS.servs x hm);simp only[Kt,JL x,SC.av]at hc;simp only[QA hlt,Qk,QAq,Qc,hgx,h1,h3,hk,o1,oS,eE,seval];refine aC hc ?_;refine QO (xs:=(l++(S.servs.take i).flatMap (ZV S)).map PB.av) (by rfl) (by exact oR) rfl (by simp) (by rfl) (UE _) (by simp only[QzM,QAo,maxLen];omega) (by simp only[QzM,QAo];omega) ?_;simp only[h3,hk,oS,e1,eE,seval];refine⟨S.servs.length-(i+1),by omega,_,_,i+1,rfl,rfl,by omega,(by exact h1),(by exact h3),(by exact h9),(by rfl),(by exact o1),⟨g+1,?_,?_⟩⟩
 ·rw[X0 hx,←Qzw];simp only[QzM,QAo,Qa,seval]
 ·rw[X0 hx,←Qzw];simp only[QAw,Qa,seval]

theorem Yk (S:SC):(Q2 S).length=S.msgs.length:=by
 unfold Q2;rw[Dc,List.length_replicate]

include hM hS h8 in
theorem u23:Qu Tryz.prog 23 [S.av] (.list ((KF S (Xh S (Q2 S))).map PB.av)):=by
 have h8':=h8;obtain⟨l1,l2,l3⟩:=h8';refine k23.fn (by simp) ?_;simp only[r23,o23,P1,P2,SC.av,eE,seval];refine Xb rfl rfl rfl rfl ?_;generalize hb:(Qw Qh 1 _:Nat→Ob)=base;have o1:base 1=.cells [.list (S.msgs.map fun n=>.agg n.cells),.list (S.enums.map fun n=>.agg n.cells),.list (S.servs.map fun n=>.agg n.cells)]:=by rw[←hb];exact(by rfl)
 clear hb;rw[Ht base 3 1100 [] _ (by decide)];simp only[P3,Qa,seval];refine QwE hM S hS h8 base o1 _ (by rfl) (by rfl) (by rfl) _ (fun f h1 h3=>?_);have m1:=RP hM S hS 1;have m2:=RP hM S hS 2;have m3:=RP hM S hS 3;have n1:(QN S 1).length≤8:=by simp[QN];omega
 have n2:(QN S 2).length≤8:=by simp[QN];omega
 have n3:(QN S 3).length≤8:=by simp[QN];omega
 have eA:QN S 1=S.msgs.map SM.name:=by simp[QN]
 have eB:QN S 2=S.enums.map SE.name:=by simp[QN]
 have eC:QN S 3=S.servs.map SQ.name:=by simp[QN]
 have hap:WC (QN S 1) (QN S 2) (QN S 3)=Z7 S:=by rw[eA,eB,eC];exact Cu S
 have hlA:∀A B C:List (List UInt8),ZQ A++ZQ B++ZQ C=Z4 A B C 3:=fun _ _ _=>rfl
 have hpa:KF S (Xh S (Q2 S))=Z4 (QN S 1) (QN S 2) (QN S 3) 3++pb [] (-1) (Z7 S) 9++S.msgs.flatMap (ZO S (Xh S (Q2 S)))++S.enums.flatMap ZK++S.servs.flatMap (ZV S):=by
  unfold KF;rw[eA,eB,eC,hlA]
 rw[hpa];have q0:(Z4 (QN S 1) (QN S 2) (QN S 3) 3).length≤6:=by
  have a:=Zp (QN S 1);have b:=Zp (QN S 2);have c:=Zp (QN S 3);simp only[Z4,QzM];omega
 have hmt:Z7 S=!((QN S 1).any (fun s=>(QN S 2).contains s)||(QN S 1).any (fun s=>(QN S 3).contains s)||(QN S 2).any (fun s=>(QN S 3).contains s)):=by
  rw[←hap,Yj (QN S 1) (QN S 2),Yj (QN S 1) (QN S 3),Yj (QN S 2) (QN S 3),Bool.not_or,Bool.not_or];rfl
 generalize Z4 (QN S 1) (QN S 2) (QN S 3) 3=p at *;clear eA eB eC hap hlA hpa;generalize QN S 1=A at *;generalize QN S 2=B at *;generalize QN S 3=C at *;simp only[SC.av]at m1 m2 m3;have k1:=u49 A B (by simp only[maxLen];omega) (by simp only[maxLen];omega);have k2:=u49 A C (by simp only[maxLen];omega) (by simp only[maxLen];omega);have k3:=u49 B C (by simp only[maxLen];omega) (by simp only[maxLen];omega);simp only[P9,Qv,h1,o1,eE,seval];refine aC m1 ?_;simp only[Ra,Qv,h1,o1,eE,seval];refine aC m2 ?_;simp only[N8,Qv,h1,o1,eE,seval];refine aC m3 ?_;have key:∀f:Fr,f 1=.ptr 0 1 0→f 3=.ptr 0 3 0→QE Tryz.prog (.seq (.reg Gm) (.seq (.seq (.reg Gn) (.block 2 (.loop Hj))) (.seq (.seq (.reg Gp) (.block 4 (.loop Hk))) (.seq (.seq (.reg Gq) (.block 6 (.loop Hl))) (.seq (.reg Gr) .ret)))))
   ⟨f,[QV base 3 1100 [] (p++pb [] (-1) (Z7 S) 9)],[]⟩ (XW [.tmp 2] 0 fun x _=>x=.list ((p++pb [] (-1) (Z7 S) 9++S.msgs.flatMap (ZO S (Xh S (Q2 S)))++S.enums.flatMap ZK++S.servs.flatMap (ZV S)).map PB.av)):=by
  intro f h1 h3;have q1:=Qr q0 [] (-1) (Z7 S) 9;generalize p++pb [] (-1) (Z7 S) 9=L at *;have hf:=u50 hM S hS;simp only[SC.av]at hf;simp only[Gm,Qv,h1,o1,eE,seval];refine aC hf ?_;simp only[Gn,Qa,seval];refine QwF hM S hS (Yk S) L (by omega) l1 _ _ (by exact h1) (by exact h3) (by rfl) (by rfl) (by rw[Zq _ _ _ _ _ (by decide) (by decide)];exact o1) ⟨_,WM _ _ _ _ _,WN _ _ _ _ _ (by decide)⟩ _ (fun f fr h1 h3 h9 o1 hA=>?_);have q2:=ZR (l:=S.msgs) (fun x hx=>WK hM S (Xh S (Q2 S)) x (hS.msgs x hx)) S.msgs.length;rw[QAv]at q2;simp only[Gp,Qa,seval];refine QwG hM S hS (Yk S) _ (by rw[QzM];omega) l2 _ _ (by exact h1) (by exact h3) (by exact h9) (by rfl) o1 hA _ (fun f fr h1 h3 h9 o1 hA=>?_);have q3:=ZR (l:=S.enums) (fun x hx=>WL hM x (hS.enums x hx)) S.enums.length;rw[QAv]at q3;simp only[Gq,Qa,seval];refine QwH hM S hS (Yk S) _ (by rw[QzM,QzM];omega) l3 _ _ (by exact h1) (by exact h3) (by exact h9) (by rfl) o1 hA _ (fun f fr h1 h3 h9 o1 hA=>?_);obtain⟨g,oS,oR⟩:=hA;simp only[Gr,h3,oS,oR,QAo,QzQ,Ku,QzB,Qzc,Qz7,QAc,AV.un,eE,seval]
 simp only[Qa,seval]at key;simp only[N9,Qa,seval];refine aC k1 ?_;cases c1:A.any fun s=>B.contains s
 ·simp only[Qa,seval];refine aC k2 ?_;cases c2:A.any fun s=>C.contains s
  ·simp only[Qa,seval];refine aC k3 ?_;simp only[Qa,seval];refine QH (by decide) (by exact h3) rfl rfl rfl (by omega) ?_;have e:(!(B.any fun s=>C.contains s))=Z7 S:=by rw[hmt,c1,c2,QAF,QAF]
   rw[e];simp only[Qa,seval];exact key _ (by exact h1) (by exact h3)
  ·have e:(!true)=Z7 S:=by rw[hmt,c1,c2];rfl
   simp only[Qa,seval];refine QH (by decide) (by exact h3) rfl rfl rfl (by omega) ?_;rw[e];simp only[Qa,seval];exact key _ (by exact h1) (by exact h3)
 ·have e:(!true)=Z7 S:=by rw[hmt,c1];rfl
  simp only[Qa,seval];refine QH (by decide) (by exact h3) rfl rfl rfl (by omega) ?_;rw[e];simp only[Qa,seval];exact key _ (by exact h1) (by exact h3)

include hM hS in
theorem u10 (h8:S.msgs.length≤8∧S.enums.length≤8∧S.servs.length≤8):Qu Tryz.prog 10 [S.av] (.bool (ZF S)):=by
 have hc:=u23 hM S hS h8;have hv:(((KF S (Xh S (Q2 S))).length:Int)==0)=ZF S:=by
  have e:KF S (Xh S (Q2 S))=[]↔ZF S=true:=Ay;rw[QzY,QzA,←e]
  constructor
  ·intro h;exact Qz8 (by omega)
  ·intro h;rw[h];rfl
 refine k10.fn (by simp) ?_;simp only[SC.av,eE,seval];simp only[SC.av]at hc;refine aC hc ?_;simp only[QAo,hv,Qa,seval]
end

def V0:V:=.mk 0 0 [] [] [] [] []
theorem QwI (n:SN):n.cells=.str n.name :: n.val.cells:=rfl

theorem QwJ (o:SN)(fr:Nat→Ob)(n:List UInt8)(hf:fr 3=.cells [.str n]):Qq Tryz.prog 160 [Y7 o,.ptr 1 3 0] [Qh,fr] fun y m1=>y=.bool (o.name==n)∧m1=[Qh,fr]:=by
 refine Qsd.go (by simp) ?_;simp only[hf,Y7,Ka,Qx,eE,seval]

section
variable (l:List SN)(hl:l.length≤maxLen)(n:List UInt8)
include hl
theorem QwK:Qu Tryz.prog 109 [.list (l.map fun n=>.agg n.cells),.str n] (.int .i64 (QZ (fun x:SN=>x.name==n) l 0)):=by
 refine Lb.fn (by simp) ?_;simp only[eE,seval];refine Qb (Qvo l hl (fun x=>x.name==n) 160 [.ptr 0 3 0] _ fun o _=>QwJ o _ n (by rfl)) (by simp only[QzI,Qz4,Qa,seval]<;>rfl) ?_;simp only[Qa,seval]

theorem QwL:Qu Tryz.prog 110 [.list (l.map fun n=>.agg n.cells),.str n] (.int .i64 (QZ (fun x:SN=>x.name==n) l 0)):=by
 let I:Nat→St→Prop:=fun k st=>∃f i,st=⟨f,[Qh],[]⟩∧k=l.length-i∧QZ (fun x:SN=>x.name==n) l 0=QZ (fun x:SN=>x.name==n) (l.drop i) i∧f 0=.list (l.map fun n=>.agg n.cells)∧f 1=.str n∧f 5=.int .i64 (i:Nat)
 refine Qrb.fn (by simp) ?_;simp only[Qa,seval];refine Qe I _ ⟨_,0,rfl,rfl,rfl,(by rfl),(by rfl),(by rfl)⟩ ?_;rintro _ st ⟨f,i,rfl,rfl,hx,h0,h1,h5⟩;simp only[QAo,h0,h5,Qa,seval];by_cases hlt:i<l.length
 ·obtain⟨x,hi⟩:∃x,l[i]? = some x:=⟨l[i],Qzf hlt⟩;have hg:(l.map fun n=>AV.agg n.cells)[i]? = some (.agg x.cells):=by rw[QAm,hi];rfl
  have e1:=Qn i _ hlt hl;rw[Ka]at hg;rw[XG _ hi]at hx;simp only[QA hlt,Qk,QAq,Qc,hg,h0,h1,h5,Qx,eE,seval];cases hp:(x.name==n)
  ·rw[hp]at hx;simp only[Qzv,if_false]at hx;simp only[h5,e1,Qa,seval];exact⟨l.length-(i+1),by omega,_,i+1,rfl,rfl,hx,(by exact h0),(by exact h1),(by rfl)⟩
  ·rw[hp]at hx;simp only[if_true]at hx;simp only[hx,h5,Qa,seval]
 ·have hx':QZ (fun x:SN=>x.name==n) l 0 = -1:=by rw[hx,QzL (by omega)];rfl
  simp only[QC hlt,hx',Qa,seval]

theorem s39:Qu Tryz.prog 39 [.list (l.map fun n=>.agg n.cells),.str n] (.tup [(((l.find? fun x:SN=>x.name==n).map SN.val).getD V0).av,.bool (l.find? fun x:SN=>x.name==n).isSome]):=by
 refine k39.fn (by simp) ?_;simp only[eE,seval];refine aC (QwK l hl n) ?_;rcases Xp (fun x:SN=>x.name==n) l 0 with⟨h1,h2⟩|⟨j,o,h1,h2,h3⟩
 ·have e:V0.av=.agg [.int .i64 0,.int .u64 ((0:Nat):Int),.str [],.list [],.list [],.list [],.list []]:=by rw[V.av,V.eta];rfl
  simp only[h1,h2,Qz3,QAu,QzW,e,eE,seval]
 ·have hj:(l.map fun o=>AV.agg o.cells)[j]? = some (.agg o.cells):=by simp[h2]
  have d:decide ((j:Int)<0)=false:=QAR (by omega);rw[QzB]at h1;rw[Ka]at hj;have e:o.val.av=.agg o.val.cells:=rfl;rw[V.eta]at e;simp only[h1,d,Qk,QAq,Qc,hj,h3,QzC,QAd,QAS,e,eE,seval]

theorem u41:Qu Tryz.prog 41 [.list (l.map fun n=>.agg n.cells),.str n] (.tup [(((l.find? fun x:SN=>x.name==n).map SN.val).getD V0).av,.bool (l.find? fun x:SN=>x.name==n).isSome]):=by
 refine k41.fn (by simp) ?_;simp only[eE,seval];refine aC (QwL l hl n) ?_;rcases Xp (fun x:SN=>x.name==n) l 0 with⟨h1,h2⟩|⟨j,o,h1,h2,h3⟩
 ·have e:V0.av=.agg [.int .i64 0,.int .u64 ((0:Nat):Int),.str [],.list [],.list [],.list [],.list []]:=by rw[V.av,V.eta];rfl
  simp only[h1,h2,Qz3,QAu,QzW,e,eE,seval]
 ·have hj:(l.map fun o=>AV.agg o.cells)[j]? = some (.agg o.cells):=by simp[h2]
  have d:decide ((j:Int)<0)=false:=QAR (by omega);rw[QzB]at h1;rw[Ka]at hj;have e:o.val.av=.agg o.val.cells:=rfl;rw[V.eta]at e;simp only[h1,d,Qk,QAq,Qc,hj,h3,QzC,QAd,QAS,e,eE,seval]

omit hl in
theorem K4:(l.find? fun x:SN=>x.name==alias).map SN.val=Xe l:=rfl

theorem s34:Qu Tryz.prog 34 [.list (l.map fun n=>.agg n.cells)] (.str (((Xe l).map V.text).getD [])):=by
 have hf:=s39 l hl alias;rw[K4]at hf;have e:((Xe l).map V.text).getD []=((Xe l).getD V0).text:=by cases Xe l<;>rfl
 rw[e];generalize (Xe l).getD V0=v at *;rw[V.av,V.eta]at hf;simp only[alias]at hf;refine k34.fn (by simp) ?_;simp only[Qa,seval];refine aC hf ?_;simp only[eE,seval]
end

theorem QwM (o:SM)(fr:Nat→Ob)(k:Int)(n:List UInt8)(hf:fr 3=.cells [.int .i64 k,.str n]):Qq Tryz.prog 106 [QT o,.ptr 1 3 0] [Qh,fr] fun y m1=>y=.bool (o.name==n)∧m1=[Qh,fr]:=by
 refine Qq2.go (by simp) ?_;simp only[hf,QT,Xo,Qx,eE,seval]

theorem QwN (o:SE)(fr:Nat→Ob)(k:Int)(n:List UInt8)(hf:fr 3=.cells [.int .i64 k,.str n]):Qq Tryz.prog 108 [XC o,.ptr 1 3 0] [Qh,fr] fun y m1=>y=.bool (o.name==n)∧m1=[Qh,fr]:=by
 refine Qq8.go (by simp) ?_;simp only[hf,XC,XJ,Qx,eE,seval]

theorem s35 (S:SC)(l1:S.msgs.length≤maxLen)(l2:S.enums.length≤maxLen)(f:SF):Qu Tryz.prog 35 [S.av,.agg [.int .i64 f.kind,.str f.tname]] (.int .i64 (Wc S f)):=by
 refine k35.fn (by simp) ?_;unfold Wc;simp only[SC.av,eE,seval];by_cases h1:f.kind=10
 ·have d:(f.kind==10)=true:=by simp[h1]
  rw[Qzk h1];simp only[d,eE,seval];refine Qb (QkD S.msgs l1 (fun m=>m.name==f.tname) 106 [.ptr 0 3 0] _ fun o _=>QwM o _ f.kind f.tname (by rfl)) (by simp only[QzI,Qz4,Qa,seval]<;>rfl) ?_;simp only[Qa,seval]
 have d:(f.kind==10)=false:=by simp[h1]
 rw[Qzj h1];by_cases h2:f.kind=9
 ·have d2:(f.kind==9)=true:=by simp[h2]
  rw[Qzk h2];simp only[d,d2,eE,seval];refine Qb (QkE S.enums l2 (fun m=>m.name==f.tname) 108 [.ptr 0 3 0] _ fun o _=>QwN o _ f.kind f.tname (by rfl)) (by simp only[QzI,Qz4,Qa,seval]<;>rfl) ?_;simp only[Qa,seval]
 have d2:(f.kind==9)=false:=by simp[h2]
 rw[Qzj h2];simp only[d,d2,Qa,seval]

theorem u31 (S:SC)(hl:S.msgs.length≤maxLen)(s:List UInt8):Qu Tryz.prog 31 [S.av,.str s] (.tup [QT ((S.msgs.find? fun m=>m.name==s).getD Cl),.int .i64 (Je S s)]):=by
 let I:Nat→St→Prop:=fun k st=>∃f fr i,st=⟨f,[fr],[]⟩∧k=S.msgs.length-i∧Je S s=QZ (fun g:SM=>g.name==s) (S.msgs.drop i) i∧(S.msgs.find? fun g:SM=>g.name==s)=((S.msgs.drop i).find? fun g:SM=>g.name==s)∧f 1=.str s∧f 2=.ptr 0 2 0∧f 4=.ptr 0 4 0∧f 6=.int .i64 (i:Nat)∧
  fr 2=.cells [.list (S.msgs.map fun n=>.agg n.cells),.list (S.enums.map fun n=>.agg n.cells),.list (S.servs.map fun n=>.agg n.cells)]∧∃a b c d e,fr 4=.cells [a,b,c,d,e]
 refine k31.fn (by simp) ?_;simp only[SC.av,eE,seval];refine Qe I _ ⟨_,_,0,rfl,rfl,rfl,rfl,(by rfl),(by rfl),(by rfl),(by rfl),(by rfl),⟨_,_,_,_,_,rfl⟩⟩ ?_;rintro _ st ⟨f,fr,i,rfl,rfl,hx,hy,h1,h2,h4,h6,m2,a,b,c,d,e,m4⟩;simp only[QAo,h2,h6,m2,eE,seval];by_cases hlt:i<S.msgs.length
 ·obtain⟨x,hi⟩:∃x,S.msgs[i]? = some x:=⟨S.msgs[i],Qzf hlt⟩;have hg:(S.msgs.map fun n=>AV.agg n.cells)[i]? = some (.agg x.cells):=by rw[QAm,hi];rfl
  have e1:=Qn i _ hlt hl;rw[Xo]at hg;rw[XG _ hi]at hx;rw[U1 _ hi]at hy;simp only[QA hlt,Qk,QAq,Qc,hg,h1,h2,h6,m2,Qx,eE,seval];cases hp:(x.name==s)
  ·rw[hp]at hx hy;simp only[Qzv,if_false]at hx hy;simp only[h6,e1,Qa,seval];exact⟨S.msgs.length-(i+1),by omega,_,_,i+1,rfl,rfl,hx,hy,(by exact h1),(by exact h2),(by exact h4),(by rfl),m2,_,_,_,_,_,m4⟩
  ·rw[hp]at hx hy;simp only[if_true]at hx hy;simp only[hx,hy,QAd,QT,Xo x,Qk,QAq,Qc,hg,h2,h4,h6,m2,m4,eE,seval]
 ·have hx':Je S s = -1:=by rw[hx,QzL (by omega)];rfl
  have hy':(S.msgs.find? fun g:SM=>g.name==s)=none:=by rw[hy,QzL (by omega)];rfl
  simp only[QC hlt,hx',hy',QAu,Cl,QT,Xo,Qz4,h4,m4,eE,seval]

theorem u32 (S:SC)(hl:S.enums.length≤maxLen)(s:List UInt8):Qu Tryz.prog 32 [S.av,.str s] (.tup [XC ((S.enums.find? fun m=>m.name==s).getD Cm),.int .i64 (W2 S s)]):=by
 let I:Nat→St→Prop:=fun k st=>∃f fr i,st=⟨f,[fr],[]⟩∧k=S.enums.length-i∧W2 S s=QZ (fun g:SE=>g.name==s) (S.enums.drop i) i∧(S.enums.find? fun g:SE=>g.name==s)=((S.enums.drop i).find? fun g:SE=>g.name==s)∧f 1=.str s∧f 2=.ptr 0 2 0∧f 4=.ptr 0 4 0∧f 6=.int .i64 (i:Nat)∧
  fr 2=.cells [.list (S.msgs.map fun n=>.agg n.cells),.list (S.enums.map fun n=>.agg n.cells),.list (S.servs.map fun n=>.agg n.cells)]∧∃a b c d e,fr 4=.cells [a,b,c,d,e]
 refine k32.fn (by simp) ?_;simp only[SC.av,eE,seval];refine Qe I _ ⟨_,_,0,rfl,rfl,rfl,rfl,(by rfl),(by rfl),(by rfl),(by rfl),(by rfl),⟨_,_,_,_,_,rfl⟩⟩ ?_;rintro _ st ⟨f,fr,i,rfl,rfl,hx,hy,h1,h2,h4,h6,m2,a,b,c,d,e,m4⟩;simp only[QAo,h2,h6,m2,eE,seval];by_cases hlt:i<S.enums.length
 ·obtain⟨x,hi⟩:∃x,S.enums[i]? = some x:=⟨S.enums[i],Qzf hlt⟩;have hg:(S.enums.map fun n=>AV.agg n.cells)[i]? = some (.agg x.cells):=by rw[QAm,hi];rfl
  have e1:=Qn i _ hlt hl;rw[XJ]at hg;rw[XG _ hi]at hx;rw[U1 _ hi]at hy;simp only[QA hlt,Qk,QAq,Qc,hg,h1,h2,h6,m2,Qx,eE,seval];cases hp:(x.name==s)
  ·rw[hp]at hx hy;simp only[Qzv,if_false]at hx hy;simp only[h6,e1,Qa,seval];exact⟨S.enums.length-(i+1),by omega,_,_,i+1,rfl,rfl,hx,hy,(by exact h1),(by exact h2),(by exact h4),(by rfl),m2,_,_,_,_,_,m4⟩
  ·rw[hp]at hx hy;simp only[if_true]at hx hy;simp only[hx,hy,QAd,XC,XJ x,Qk,QAq,Qc,hg,h2,h4,h6,m2,m4,eE,seval]
 ·have hx':W2 S s = -1:=by rw[hx,QzL (by omega)];rfl
  have hy':(S.enums.find? fun g:SE=>g.name==s)=none:=by rw[hy,QzL (by omega)];rfl
  simp only[QC hlt,hx',hy',QAu,Cm,XC,XJ,Qz4,h4,m4,eE,seval]

theorem Cy {sz:Nat}(h0:sz≠0){xs:List AV}(h:xs.all (fun e=>e.cells.length==sz)=true)(hf:QI xs=[]):xs=[]:=by
 cases xs with
 |nil=>rfl
 |cons x xs=>
  have hl:x.cells.length=sz:=by simpa using Qzp.1 h x (by simp)
  have:x.cells=[]:=(QAV.1 hf).1;rw[this]at hl;exact absurd hl.symm h0
theorem s38 (L:List PS)(hn:L.length≤1000000000):Qu Tryz.prog 38 [.list (L.map Q0)] (.list (L.map Q0)):=by
 have h:(L.map Q0).all (fun e=>e.cells.length==2)=true:=by
  rw[Qzp];intro x hx;obtain⟨y,_,rfl⟩:=QAk.1 hx;rfl
 have ht:List.take L.length (L.map Q0)=L.map Q0:=QzJ (by simp);refine k38.fn (by simp) ?_;simp only[Qa,seval];refine F7 (ys:=L.map Q0) (by simp only[Qa,seval]) ?_ ?_
 ·simp only[Qa,seval];refine Nd rfl ?_;simp only[Qa,seval];refine QO (site:=5) (g:=1) (xs:=[]) (ys:=L.map Q0) rfl rfl rfl rfl rfl h (by simp only[QAo,maxLen];omega) (by simp only[QAo];omega) ?_;simp only[QAo,Qzy,QzB,QzQ,ht,Qzc,Qz7,QAc,AV.un,eE,seval]
 ·intro he;have hx:L=[]:=by
   rcases he with he|he
   ·exact List.map_eq_nil_iff.1 he
   ·exact List.map_eq_nil_iff.1 (Cy (by decide) h he)
  subst hx;simp only[Qa,seval];refine JX (by simp only[Qa,seval]) rfl ?_;simp only[QzB,Qzc,Qz7,QAc,AV.un,eE,seval]

def un (l:List SF)(i:Nat):List (List UInt8):=unl [] (l.take i)
theorem UH {l:List SF}{i:Nat}{x:SF}(h:l[i]? = some x):un l (i+1)=if x.union=[]∨(un l i).contains x.union=true then un l i else un l i++[x.union]:=by
 unfold un;rw[QAx,h,QAy,UA];rfl
theorem WD (l:List SF):∀i,(un l i).length≤i
 |0=>Qzc _
 |i+1=>by
  have ih:=WD l i;cases hx:l[i]? with
  |none=>
   have e:un l (i+1)=un l i:=by unfold un;rw[QAx,hx,Option.toList_none,Qz6]
   rw[e];omega
  |some x=>
   rw[UH hx];split
   ·omega
   ·rw[QzM,List.length_singleton];omega
theorem QkS {l:List SF}{i:Nat}{u:List UInt8}(h:(un l i).contains u=true):XB (unl [] l) u=XB (un l i) u:=by
 have e:unl [] l=unl (un l i) (l.drop i):=by
  unfold un;rw[←UA,QAg]
 obtain⟨r,hr⟩:=Uy (l.drop i) (un l i);rw[e,hr];exact(Fs (QAU.1 h)).1
theorem Dh (l:List SF):un l l.length=unl [] l:=by unfold un;rw[QAv]

def Zw (S:SC)(x:SF)(u:Int):List AV:=[.int .i64 x.num,.str x.name,.str (((Xe x.notes).map V.text).getD []),.int .i64 x.card,.int .i64 x.key,.int .i64 x.kind,.int .i64 (Wc S x),.int .i64 u]
theorem Cz (S:SC)(us:List (List UInt8))(x:SF):(WY S us x).cells=Zw S x (X4 us x):=rfl

section
variable {M:Nat}(hM:M≤1048576)(S:SC)(hS:S.ok M)(m:SM)(hm:m.ok M)

def PgI (k:Nat)(st:St):Prop :=
 ∃f fr i g h,st=⟨f,[fr],[]⟩∧k=m.fields.length-i∧i≤m.fields.length∧f 2=.ptr 0 2 0∧f 4=.ptr 0 4 0∧f 5=.ptr 0 5 0∧f 6=.vec 0 6 g 0 (un m.fields i).length false∧f 14=.list (m.fields.map fun n=>.agg n.cells)∧f 15=.int .i64 (m.fields.length:Nat)∧f 16=.int .i64 (i:Nat)∧
  fr 2=.cells [.list (S.msgs.map fun n=>.agg n.cells),.list (S.enums.map fun n=>.agg n.cells),.list (S.servs.map fun n=>.agg n.cells)]∧fr 4=.cells [.str [],.nils,.int .i64 0]∧fr 5=.cells [.str m.name,.vec 0 1100 h 0 i false,.int .i64 0]∧fr 6=.vec g 1 ((un m.fields i).map Qi)∧
  fr 1100=.vec h 8 ((m.fields.take i).map fun x=>.agg (WY S (unl [] m.fields) x).cells)∧∀s∈[9,8],(fr s).isRow=false

include hM hm in
theorem CA (Q:Exit→St→Prop)(i:Nat)(x:SF)(hx:m.fields[i]? = some x)(f:Fr)(fr:Nat→Ob)(g h:Nat)(h2:f 2=.ptr 0 2 0)(h4:f 4=.ptr 0 4 0)(h5:f 5=.ptr 0 5 0)(h6:f 6=.vec 0 6 g 0 (un m.fields (i+1)).length false)(h9:f 9=.ptr 0 9 0)(h14:f 14=.list (m.fields.map fun n=>.agg n.cells))(h15:f 15=.int .i64 (m.fields.length:Nat))(h16:f 16=.int .i64 (i:Nat))
  (o2:fr 2=.cells [.list (S.msgs.map fun n=>.agg n.cells),.list (S.enums.map fun n=>.agg n.cells),.list (S.servs.map fun n=>.agg n.cells)]) (o4:fr 4=.cells [.str [],.nils,.int .i64 0]) (o5:fr 5=.cells [.str m.name,.vec 0 1100 h 0 i false,.int .i64 0]) (o6:fr 6=.vec g 1 ((un m.fields (i+1)).map Qi))
  (oR:fr 1100=.vec h 8 ((m.fields.take i).map fun x=>.agg (WY S (unl [] m.fields) x).cells)) (o9:fr 9=.cells (Zw S x (X4 (unl [] m.fields) x))) (r8:(fr 8).isRow=false) :
  Ql Tryz.prog YO ⟨f,[fr],[]⟩ (Kb 1 (Kc Tryz.prog (.reg YP) (Kl (PgI S m) (m.fields.length-i) Q)) Exit.normal):=by
 have hlt:i<m.fields.length:=(Qze.1 hx).1;have hl1:=hm.len1;have e1:=Qn i _ hlt (by simp only[maxLen];omega);have ht:(m.fields.take i).length=i:=by rw[QzZ];omega
 simp only[Zw]at o9;simp only[YO,YP,h5,h9,o5,o9,eE,seval];refine Xa rfl rfl (by decide) rfl rfl ?_;simp only[nn0,QzI,Qz4,seval];refine QO (xs:=(m.fields.take i).map fun x=>.agg (WY S (unl [] m.fields) x).cells) (by rfl) (by exact oR) rfl (by rw[QAo,ht]) (by rfl) rfl (by simp only[Qzr,QAe,maxLen];omega) (by simp only[Qzr,QAe];omega) ?_;simp only[h5,h16,o5,e1,eE,seval];refine⟨m.fields.length-(i+1),by omega,_,_,i+1,g,h+1,rfl,rfl,by omega,(by exact h2),(by exact h4),(by exact h5),(by exact h6),(by exact h14),(by exact h15),(by rfl),(by exact o2),(by exact o4),(by rfl),(by exact o6),?_,?_⟩
 ·rw[QAx,hx,QAy,QAw];simp only[QzI,Qz4,Cz,Zw,Qa,seval]
 ·intro s hs;simp only[QAj,QAT,or_false]at hs;rcases hs with rfl|rfl
  ·simp only[o9,Qa,seval]<;>rfl
  ·exact r8

include hM hm in
theorem CB (Q:Exit→St→Prop)(i:Nat)(x:SF)(hx:m.fields[i]? = some x)(hu:x.union≠[])(hc:(un m.fields (i+1)).contains x.union=true)(f:Fr)(fr:Nat→Ob)(g h:Nat)(h2:f 2=.ptr 0 2 0)(h4:f 4=.ptr 0 4 0)(h5:f 5=.ptr 0 5 0)(h6:f 6=.vec 0 6 g 0 (un m.fields (i+1)).length false)(h8:f 8=.ptr 0 8 0)(h9:f 9=.ptr 0 9 0)(h14:f 14=.list (m.fields.map fun n=>.agg n.cells))(h15:f 15=.int .i64 (m.fields.length:Nat))(h16:f 16=.int .i64 (i:Nat))
  (o2:fr 2=.cells [.list (S.msgs.map fun n=>.agg n.cells),.list (S.enums.map fun n=>.agg n.cells),.list (S.servs.map fun n=>.agg n.cells)]) (o4:fr 4=.cells [.str [],.nils,.int .i64 0]) (o5:fr 5=.cells [.str m.name,.vec 0 1100 h 0 i false,.int .i64 0]) (o6:fr 6=.vec g 1 ((un m.fields (i+1)).map Qi))
  (oR:fr 1100=.vec h 8 ((m.fields.take i).map fun x=>.agg (WY S (unl [] m.fields) x).cells)) (o9:fr 9=.cells (Zw S x (-1))) (o8:fr 8=.cells x.cells) :
  Ql Tryz.prog H4 ⟨f,[fr],[]⟩ (Kc Tryz.prog (.reg YO) (Kb 1 (Kc Tryz.prog (.reg YP) (Kl (PgI S m) (m.fields.length-i) Q))) Exit.normal):=by
 have hlt:i<m.fields.length:=(Qze.1 hx).1;have hl1:=hm.len1;have hul:=WD m.fields (i+1);have eu:X4 (unl [] m.fields) x=XB (un m.fields (i+1)) x.union:=by
  rw[X4,Qzj hu];exact QkS hc
 rw[QD]at o8;simp only[Zw]at o9;simp only[H4,h6,h8,o8,eE,seval];refine Q4 (s37 (un m.fields (i+1)) (by simp only[maxLen];omega) x.union) ?_ rfl rfl (.inr rfl) ?_
 ·have ht:List.take (un m.fields (i+1)).length ((un m.fields (i+1)).map Qi)=(un m.fields (i+1)).map Qi:=QzJ (by simp);simp only[QzI,Qz4,AV.stillL,AV.still,Am.Qf,o6,QAo,ht,QzQ,QzB,Qzc,Qz7,QAs,Qzv,Qa,seval]<;>rfl
 simp only[h9,o9,eE,seval];exact CA hM S m hm _ i x hx _ _ g h (by exact h2) (by exact h4) (by exact h5) (by exact h6) (by exact h9) (by exact h14) (by exact h15) (by exact h16) (by exact o2) (by exact o4) (by exact o5) (by exact o6) (by exact oR) (by rw[eu];rfl) (by simp only[o8,Qa,seval]<;>rfl)

include hM hm hS in
theorem s14:Qu Tryz.prog 14 [S.av,QT m] (.agg (XX S m).cells):=by
 obtain⟨l1,l2,_⟩:=Zd S hS hM;have hl1:=hm.len1;refine k14.fn (by simp) ?_;simp only[EM,EN,M4,M5,SC.av,QT,Xo m,eE,seval];refine Xb rfl rfl rfl rfl ?_;simp only[M6,Qa,seval];refine JX rfl rfl ?_;simp only[M7,QAo,eE,seval];refine Qe (PgI S m) _ ⟨_,_,0,1,1,rfl,rfl,Qzl _,(by rfl),(by rfl),(by rfl),(by rfl),(by rfl),(by rfl),(by rfl),(by rfl),(by rfl),(by rfl),(by rfl),(by rfl),by intro s hs;simp only[QAj,QAT,or_false]at hs;rcases hs with rfl|rfl<;>rfl⟩ ?_;rintro _ st ⟨f0,fr0,i,g,h,rfl,rfl,hi,h20,h40,h50,h60,h140,h150,h160,Jr,JO,Rh,o60,oR0,r8⟩;refine QJ (a:=_) [9,8] r8 ?_;intro f fr hf hmm hn;have h2:f 2=.ptr 0 2 0:=by rw[hf,h20]<;>rfl
 have h4:f 4=.ptr 0 4 0:=by rw[hf,h40]<;>rfl
 have h5:f 5=.ptr 0 5 0:=by rw[hf,h50]<;>rfl
 have h6:f 6=.vec 0 6 g 0 (un m.fields i).length false:=by rw[hf,h60]<;>rfl
 have h14:f 14=.list (m.fields.map fun n=>.agg n.cells):=by rw[hf,h140]<;>rfl
 have h15:f 15=.int .i64 (m.fields.length:Nat):=by rw[hf,h150]<;>rfl
 have h16:f 16=.int .i64 (i:Nat):=by rw[hf,h160]<;>rfl
 have o2:fr 2=.cells [.list (S.msgs.map fun n=>.agg n.cells),.list (S.enums.map fun n=>.agg n.cells),.list (S.servs.map fun n=>.agg n.cells)]:=by rw[hmm 2 (by decide),Jr]<;>rfl
 have o4:fr 4=.cells [.str [],.nils,.int .i64 0]:=by rw[hmm 4 (by decide),JO]<;>rfl
 have o5:fr 5=.cells [.str m.name,.vec 0 1100 h 0 i false,.int .i64 0]:=by rw[hmm 5 (by decide),Rh]<;>rfl
 have o6:fr 6=.vec g 1 ((un m.fields i).map Qi):=by rw[hmm 6 (by decide),o60]<;>rfl
 have oR:fr 1100=.vec h 8 ((m.fields.take i).map fun x=>.agg (WY S (unl [] m.fields) x).cells):=by rw[hmm 1100 (by decide),oR0]<;>rfl
 have n8:=hn 8 (by decide);have n9:=hn 9 (by decide);clear hf hmm hn h20 h40 h50 h60 h140 h150 h160 Jr JO Rh o60 oR0 r8;simp only[M8,h15,h16,Qa,seval];by_cases hlt:i<m.fields.length
 case neg=>
  have e:i=m.fields.length:=by omega
  subst e;have eG:(XX S m).cells=[.str m.name,.list (m.fields.map fun x=>.agg (WY S (unl [] m.fields) x).cells),.int .i64 ((un m.fields m.fields.length).length:Nat)]:=by
   rw[Dh];unfold PG.cells XX;simp only[QAA];rfl
  have ht:List.take m.fields.length (m.fields.map fun x=>AV.agg (WY S (unl [] m.fields) x).cells)=m.fields.map fun x=>AV.agg (WY S (unl [] m.fields) x).cells:=QzJ (by simp)
  rw[QAv]at oR;simp only[QC hlt,Nt,Nu,h4,h5,h6,o4,o5,o6,oR,eG,ht,QAo,QzQ,QzB,Qzc,Qz7,QAc,AV.un,AV.unL,eE,seval]
 obtain⟨x,hx⟩:∃x,m.fields[i]? = some x:=⟨m.fields[i],Qzf hlt⟩;have hg:(m.fields.map fun n=>AV.agg n.cells)[i]? = some (.agg x.cells):=by rw[QAm,hx];rfl
 rw[QD]at hg;have hxo:=hm.fields x (Qzq hx);have hln:=hxo.len;have hal:=s34 x.notes (by simp only[maxLen];omega);have htr:=s35 S l1 l2 x;simp only[SC.av]at htr;have hus:=UH hx;have hul:=WD m.fields i;simp only[QA hlt,n8,M9,Pa,Qk,QAq,Qc,hg,h14,h16,eE,seval];refine aC hal ?_;simp only[h2,o2,eE,seval];refine aC htr ?_;simp only[n9,Pb,eE,seval];by_cases hu:x.union=[]
 ·have d:(x.union==[])=true:=by simp[hu]
  rw[Qzk (.inl hu)]at hus;have eu:X4 (unl [] m.fields) x = -1:=Qzk hu;simp only[d,Qx,QAD,Qa,seval];exact CA hM S m hm _ i x hx _ _ g h (by exact h2) (by exact h4) (by exact h5) (by rw[hus];exact(by exact h6)) (by rfl) (by exact h14) (by exact h15) (by exact h16) (by exact o2) (by exact o4) (by exact o5) (by rw[hus];exact(by exact o6)) (by exact oR) (by rw[eu];rfl) rfl
 have d:(x.union==[])=false:=by simp[hu]
 have eu:X4 (unl [] m.fields) x=XB (unl [] m.fields) x.union:=Qzj hu;simp only[d,Qx,Pd,h6,QAb,eE,seval];refine Q4 (s36 (un m.fields i) (by simp only[maxLen];omega) x.union) ?_ rfl rfl (.inr rfl) ?_
 ·have ht:List.take (un m.fields i).length ((un m.fields i).map Qi)=(un m.fields i).map Qi:=QzJ (by simp);simp only[QzI,Qz4,AV.stillL,AV.still,Am.Qf,o6,QAo,ht,QzQ,QzB,Qzc,Qz7,QAs,Qzv,Qa,seval]<;>rfl
 cases hc:(un m.fields i).contains x.union
 ·rw[Qzj (by simp only[hu,hc,Qzv,or_self,not_false_eq_true])]at hus;have hcc:(un m.fields (i+1)).contains x.union=true:=by
   rw[hus];exact QAU.2 (List.mem_append_right _ (List.mem_singleton.2 rfl))
  simp only[Pe,h6,QAb,eE,seval];refine Ze (w:=x.union) rfl ?_;refine QO (xs:=(un m.fields i).map Qi) (by rfl) (by exact o6) rfl (by simp) (by rfl) rfl (by simp only[Qzr,QAe,maxLen];omega) (by simp only[Qzr,QAe];omega) ?_;simp only[Qa,seval];exact CB hM S m hm _ i x hx hu hcc _ _ (g+1) h (by exact h2) (by exact h4) (by exact h5) (by rw[hus,QzM];exact(by rfl)) (by rfl) (by rfl) (by exact h14) (by exact h15) (by exact h16) (by exact o2) (by exact o4) (by exact o5) (by rw[hus,QAw];exact(by rfl)) (by exact oR) rfl (by rw[QD];rfl)
 ·rw[Qzk (.inr hc)]at hus;simp only[QAD,Qa,seval];exact CB hM S m hm _ i x hx hu (by rw[hus];exact hc) _ _ g h (by exact h2) (by exact h4) (by exact h5) (by rw[hus];exact(by exact h6)) (by rfl) (by rfl) (by exact h14) (by exact h15) (by exact h16) (by exact o2) (by exact o4) (by exact o5) (by rw[hus];exact(by exact o6)) (by exact oR) rfl (by rw[QD];rfl)
end

theorem Di {x:SI}(h:Xe x.notes=none):(ZA x).cells=[.str x.name,.int .i64 x.num,.list []]:=by
 unfold ZA PI.cells;rw[h];rfl
theorem Dj {x:SI}{v:V}(h:Xe x.notes=some v):(ZA x).cells=[.str x.name,.int .i64 x.num,.list [.agg (.str alias :: v.cells)]]:=by
 unfold ZA PI.cells;rw[h];simp only[QzI,Qz4,PN.cells];rw[V.eta];rfl
section
variable {M:Nat}(hM:M≤1048576)(e:SE)(he:e.ok M)
def EnI (k:Nat)(st:St):Prop :=
 ∃f fr i h,st=⟨f,[fr],[]⟩∧k=e.items.length-i∧i≤e.items.length∧f 2=.ptr 0 2 0∧f 3=.ptr 0 3 0∧f 18=.list (e.items.map fun n=>.agg n.cells)∧f 19=.int .i64 (e.items.length:Nat)∧f 20=.int .i64 (i:Nat)∧
  fr 2=.cells [.str [],.bool false,.nils,.nils,.nils]∧fr 3=.cells [.str e.name,.bool e.opn,.vec 0 1100 h 0 i false,.list (e.free.map Q0),.nils]∧
  fr 1100=.vec h 3 ((e.items.take i).map fun x=>.agg (ZA x).cells)∧∀s∈[7,6,5],(fr s).isRow=false

include hM he in
theorem CC (Q:Exit→St→Prop)(i:Nat)(x:SI)(hx:e.items[i]? = some x)(f:Fr)(fr:Nat→Ob)(h:Nat)(l:List AV)(hl:(ZA x).cells=[.str x.name,.int .i64 x.num,.list l])(z:AV)(hz:nn0 z=.list l)(hzr:z.rf=true)(hzl:z.leaf=true)(h2:f 2=.ptr 0 2 0)(h3:f 3=.ptr 0 3 0)(h6:f 6=.ptr 0 6 0)(h18:f 18=.list (e.items.map fun n=>.agg n.cells))(h19:f 19=.int .i64 (e.items.length:Nat))(h20:f 20=.int .i64 (i:Nat))
  (o2:fr 2=.cells [.str [],.bool false,.nils,.nils,.nils]) (o3:fr 3=.cells [.str e.name,.bool e.opn,.vec 0 1100 h 0 i false,.list (e.free.map Q0),.nils]) (oR:fr 1100=.vec h 3 ((e.items.take i).map fun x=>.agg (ZA x).cells)) (o6:fr 6=.cells [.str x.name,.int .i64 x.num,z]) (r5:∀s∈[7,5],(fr s).isRow=false) :
  Ql Tryz.prog Be ⟨f,[fr],[]⟩ (Kb 1 (Kc Tryz.prog (.reg Gi) (Kl (EnI e) (e.items.length-i) Q)) Exit.normal):=by
 have hlt:i<e.items.length:=(Qze.1 hx).1;have hl1:=he.len1;have e1:=Qn i _ hlt (by simp only[maxLen];omega);have ht:(e.items.take i).length=i:=by rw[QzZ];omega
 simp only[Be,Gi,h3,h6,o3,o6,eE,seval];have hll:[AV.str x.name,.int .i64 x.num,z].all AV.leaf=true:=by
  simp only[List.all_cons,List.all_nil,hzl,QAf];rfl
 have hnn:[AV.str x.name,.int .i64 x.num,z].map nn0=[.str x.name,.int .i64 x.num,.list l]:=by
  simp only[QzI,Qz4,hz];rfl
 refine Xa rfl rfl (by decide) (by simp only[AV.rfL,AV.rf,hzr,Bool.and_self]) hll ?_;rw[hnn];refine QO (xs:=(e.items.take i).map fun x=>.agg (ZA x).cells) (by rfl) (by exact oR) rfl (by rw[QAo,ht]) (by rfl) rfl (by simp only[Qzr,QAe,maxLen];omega) (by simp only[Qzr,QAe];omega) ?_;simp only[h3,h20,o3,e1,eE,seval];refine⟨e.items.length-(i+1),by omega,_,_,i+1,h+1,rfl,rfl,by omega,(by exact h2),(by exact h3),(by exact h18),(by exact h19),(by rfl),(by exact o2),(by rfl),?_,?_⟩
 ·rw[QAx,hx,QAy,QAw];simp only[QzI,Qz4,hl,Qa,seval]
 ·intro s hs;simp only[QAj,QAT,or_false]at hs;rcases hs with rfl|rfl|rfl
  ·exact r5 7 (by decide)
  ·simp only[o6,Qa,seval]<;>rfl
  ·exact r5 5 (by decide)

include hM he in
theorem s15:Qu Tryz.prog 15 [XC e] (.agg (XQ e).cells):=by
 have hl1:=he.len1;have hl2:=he.len2;have hc:=s38 e.free (by omega);refine k15.fn (by simp) ?_;simp only[r15,o15,PK,PM,XC,XJ e,eE,seval];refine aC hc ?_;simp only[eE,seval];refine Xb rfl rfl rfl rfl ?_;simp only[PP,QAo,eE,seval];refine Qe (EnI e) _ ⟨_,_,0,1,rfl,rfl,Qzl _,(by rfl),(by rfl),(by rfl),(by rfl),(by rfl),(by rfl),(by rfl),(by rfl),by intro s hs;simp only[QAj,QAT,or_false]at hs;rcases hs with rfl|rfl|rfl<;>rfl⟩ ?_;rintro _ st ⟨f0,fr0,i,h,rfl,rfl,hi,h20',h30,h180,h190,h200,Jr,J4,oR0,r8⟩;refine QJ (a:=_) [7,6,5] r8 ?_;intro f fr hf hmm hn;have h2:f 2=.ptr 0 2 0:=by rw[hf,h20']<;>rfl
 have h3:f 3=.ptr 0 3 0:=by rw[hf,h30]<;>rfl
 have h18:f 18=.list (e.items.map fun n=>.agg n.cells):=by rw[hf,h180]<;>rfl
 have h19:f 19=.int .i64 (e.items.length:Nat):=by rw[hf,h190]<;>rfl
 have h20:f 20=.int .i64 (i:Nat):=by rw[hf,h200]<;>rfl
 have o2:fr 2=.cells [.str [],.bool false,.nils,.nils,.nils]:=by rw[hmm 2 (by decide),Jr]<;>rfl
 have o3:fr 3=.cells [.str e.name,.bool e.opn,.vec 0 1100 h 0 i false,.list (e.free.map Q0),.nils]:=by rw[hmm 3 (by decide),J4]<;>rfl
 have oR:fr 1100=.vec h 3 ((e.items.take i).map fun x=>.agg (ZA x).cells):=by rw[hmm 1100 (by decide),oR0]<;>rfl
 have n5:=hn 5 (by decide);have n6:=hn 6 (by decide);have n7:=hn 7 (by decide);clear hf hmm hn h20' h30 h180 h190 h200 Jr J4 oR0 r8;simp only[PQ,h19,h20,Qa,seval];by_cases hlt:i<e.items.length
 case neg=>
  have ei:i=e.items.length:=by omega
  subst ei;have eG:(XQ e).cells=[.str e.name,.bool e.opn,.list (e.items.map fun x=>.agg (ZA x).cells),.list (e.free.map Q0),.list []]:=by
   unfold PE.cells XQ;simp only[QAA];rfl
  have ht:List.take e.items.length (e.items.map fun x=>AV.agg (ZA x).cells)=e.items.map fun x=>AV.agg (ZA x).cells:=QzJ (by simp)
  rw[QAv]at oR;simp only[QC hlt,N4,h2,h3,o2,o3,oR,eG,ht,QAo,QzQ,QzB,Qzc,Qz7,QAc,AV.un,AV.unL,eE,seval]
 obtain⟨x,hx⟩:∃x,e.items[i]? = some x:=⟨e.items[i],Qzf hlt⟩;have hg:(e.items.map fun n=>AV.agg n.cells)[i]? = some (.agg x.cells):=by rw[QAm,hx];rfl
 rw[ZL]at hg;have hxo:=he.items x (Qzq hx);have hln:=hxo.len;have hfd:=s39 x.notes (by simp only[maxLen];omega) alias;have eis:(x.notes.find? fun x=>x.name==alias).isSome=(Xe x.notes).isSome:=by unfold Xe;rw[Option.isSome_map]
 rw[K4,eis]at hfd;simp only[QA hlt,n5,n6,PR,PT,PU,Qk,QAq,Qc,hg,h18,h20,eE,seval];cases hal:Xe x.notes with
 |none=>
  rw[hal]at hfd;simp only[QAu,QzW,alias]at hfd;rw[V.av,V.eta]at hfd;refine aC hfd ?_;simp only[n7,Bd,eE,seval];exact CC hM e he _ i x hx _ _ h [] (Di hal) .nils rfl rfl rfl (by exact h2) (by exact h3) (by rfl) (by exact h18) (by exact h19) (by exact h20) (by exact o2) (by exact o3) (by exact oR) (by rfl) (by intro s hs;simp only[QAj,QAT,or_false]at hs;rcases hs with rfl|rfl<;>rfl)
 |some v=>
  rw[hal]at hfd;simp only[QAd,QAS,alias]at hfd;rw[V.av,V.eta]at hfd;have hm:=Dj hal;simp only[alias]at hm;rw[V.eta]at hm;refine aC hfd ?_;simp only[n7,Bd,PV,eE,seval];refine Xa rfl rfl (by decide) rfl rfl ?_;simp only[nn0,QzI,Qz4,eE,seval];exact CC hM e he _ i x hx _ _ h _ hm _ rfl rfl rfl (by exact h2) (by exact h3) (by rfl) (by exact h18) (by exact h19) (by exact h20) (by exact o2) (by exact o3) (by exact oR) (by rfl) (by intro s hs;simp only[QAj,QAT,or_false]at hs;rcases hs with rfl|rfl<;>rfl)
end

def Dk (S:SC):AV:=if ZF S=true then .tup [(Fj S).av,.int .i64 0]else .tup [.agg [.list [],.list []],.int .i64 1]

section
variable {M:Nat}(hM:M≤1048576)(S:SC)(hS:S.ok M)
def FD (i j:Nat)(f:Fr)(fr:Nat→Ob):Prop:=f 1=.ptr 0 1 0∧f 2=.ptr 0 2 0∧f 4=.ptr 0 4 0∧(∃a b,fr 2=.cells [a,b])∧
  fr 1=.cells [.list (S.msgs.map fun n=>.agg n.cells),.list (S.enums.map fun n=>.agg n.cells),.list (S.servs.map fun n=>.agg n.cells)]∧(∀s∈[6,8],(fr s).isRow=false)∧
  ∃g h,fr 4=.cells [.vec 0 1100 g 0 i false,.vec 0 1101 h 0 j false]∧fr 1100=.vec g 3 ((S.msgs.take i).map fun m=>.agg (XX S m).cells)∧fr 1101=.vec h 5 ((S.enums.take j).map fun e=>.agg (XQ e).cells)

include hM hS in
theorem QwO {i:Nat}(f:Fr)(fr:Nat→Ob)(H:FD S (i) (0) f fr)(hi0:i=0)(hw:f 14=.list (S.msgs.map fun n=>.agg n.cells))(hz:f 15=.int .i64 (S.msgs.length:Nat))(hk:f 16=.int .i64 0)(Q:Exit→St→Prop)
  (hq:∀f fr,FD S (S.msgs.length) (0) f fr→Q (.exit 0) ⟨f,[fr],[]⟩):QE Tryz.prog (.loop EJ) ⟨f,[fr],[]⟩ Q:=by
 let I:Nat→St→Prop:=fun n st=>∃f fr i,st=⟨f,[fr],[]⟩∧n=S.msgs.length-i∧i≤S.msgs.length∧FD S (i) (0) f fr∧f 14=.list (S.msgs.map fun n=>.agg n.cells)∧f 15=.int .i64 (S.msgs.length:Nat)∧f 16=.int .i64 (i:Nat)
 have hl1:=hS.len1;subst hi0;refine Qe I _ ⟨f,fr,0,rfl,rfl,Qzl _,H,hw,hz,hk⟩ ?_;clear H hw hz hk;rintro _ st ⟨f0,fr0,i,rfl,rfl,hi,⟨h10,h20,h40,⟨a,b,Jr⟩,Xk,r6,g,h,JO,oR0,oT0⟩,hw0,hz0,hk0⟩;refine QJ (a:=_) [6] (by intro s hs;exact r6 s (by simp only[QAj,QAT,or_false]at hs ⊢;omega)) ?_;intro f fr hf hmm hn;have h1:f 1=.ptr 0 1 0:=by rw[hf,h10]<;>rfl
 have h2:f 2=.ptr 0 2 0:=by rw[hf,h20]<;>rfl
 have h4:f 4=.ptr 0 4 0:=by rw[hf,h40]<;>rfl
 have hw:f 14=.list (S.msgs.map fun n=>.agg n.cells):=by rw[hf,hw0]<;>rfl
 have hz:f 15=.int .i64 (S.msgs.length:Nat):=by rw[hf,hz0]<;>rfl
 have hk:f 16=.int .i64 (i:Nat):=by rw[hf,hk0]<;>rfl
 have o1:fr 1=.cells [.list (S.msgs.map fun n=>.agg n.cells),.list (S.enums.map fun n=>.agg n.cells),.list (S.servs.map fun n=>.agg n.cells)]:=by rw[hmm 1 (by decide),Xk]<;>rfl
 have o2:∃a b,fr 2=.cells [a,b]:=⟨_,_,by rw[hmm 2 (by decide),Jr];rfl⟩;have o4:fr 4=.cells [.vec 0 1100 g 0 (i) false,.vec 0 1101 h 0 (0) false]:=by rw[hmm 4 (by decide),JO]<;>rfl
 have oR:fr 1100=.vec g 3 ((S.msgs.take (i)).map fun m=>.agg (XX S m).cells):=by rw[hmm 1100 (by decide),oR0]<;>rfl
 have oT:fr 1101=.vec h 5 ((S.enums.take (0)).map fun e=>.agg (XQ e).cells):=by rw[hmm 1101 (by decide),oT0]<;>rfl
 have nv:=hn 6 (by decide);have r6':∀s∈[6,8],(fr s).isRow=false:=by
  intro s hs;by_cases hsv:s=6
  ·subst hsv;rw[nv];rfl
  ·rw[hmm s (by simp only[QAj,QAT,or_false];exact hsv)];have:=r6 s hs
   revert this
   cases fr0 s<;>intro h<;>first|rfl|exact h
 clear hf hmm hn h10 h20 h40 Jr Xk r6 JO oR0 oT0 hw0 hz0 hk0;simp only[EE,EG,EH,EI,hz,hk,Qa,seval];by_cases hlt:i<S.msgs.length
 case neg=>
  have e:i=S.msgs.length:=by omega
  subst e;simp only[QC hlt,Qa,seval];exact hq _ _ ⟨(by exact h1),(by exact h2),(by exact h4),o2,o1,r6',g,h,o4,oR,oT⟩
 obtain⟨x,hx⟩:∃x,S.msgs[i]? = some x:=⟨S.msgs[i],Qzf hlt⟩;have hm:=Qzq hx;have hg:(S.msgs.map fun n=>AV.agg n.cells)[i]? = some (.agg x.cells):=by rw[QAm,hx];rfl
 rw[Xo]at hg;have e1:=Qn i _ hlt (by simp only[maxLen];omega);have htl:(S.msgs.take i).length=i:=by rw[QzZ];omega
 have hc:=s14 hM S hS x (hS.msgs x hm);simp only[QT,Xo x,SC.av]at hc;simp only[QA hlt,nv,Qk,QAq,Qc,hg,h1,h4,hw,hk,o1,o4,eE,seval];refine aC hc ?_;refine Xa rfl rfl (by decide) rfl rfl ?_;rw[show List.map nn0 (XX S x).cells=(XX S x).cells from rfl];refine QO (xs:=(S.msgs.take i).map (fun m=>AV.agg (XX S m).cells)) (by rfl) (by exact oR) rfl (by rw[QAo,htl]) (by rfl) rfl (by simp only[Qzr,QAe,maxLen];omega) (by simp only[Qzr,QAe];omega) ?_;simp only[h4,hk,o4,e1,eE,seval];obtain⟨a2,b2,o2⟩:=o2;have hsu:(S.msgs.take (i+1)).map (fun m=>AV.agg (XX S m).cells)=(S.msgs.take i).map (fun m=>AV.agg (XX S m).cells)++[(fun m=>AV.agg (XX S m).cells) x]:=by rw[QAx,hx,QAy,QAw];rfl
 refine⟨S.msgs.length-(i+1),by omega,_,_,i+1,rfl,rfl,by omega,⟨(by exact h1),(by exact h2),(by exact h4),⟨a2,b2,(by exact o2)⟩,(by exact o1),?_,_,_,(by rfl),?_,?_⟩,(by exact hw),(by exact hz),(by rfl)⟩
 ·intro s hs;simp only[QAj,QAT,or_false]at hs;rcases hs with rfl|rfl<;>first|rfl|exact r6' _ (by decide)
 ·first|exact oR|(rw[hsu];rfl)|simp only[oR,eE,seval]
 ·first|exact oT|(rw[hsu];rfl)|simp only[oT,eE,seval]

include hM hS in
theorem QwP {i:Nat}(f:Fr)(fr:Nat→Ob)(H:FD S (S.msgs.length) (i) f fr)(hi0:i=0)(hw:f 30=.list (S.enums.map fun n=>.agg n.cells))(hz:f 31=.int .i64 (S.enums.length:Nat))(hk:f 32=.int .i64 0)(Q:Exit→St→Prop)
  (hq:∀f fr,FD S (S.msgs.length) (S.enums.length) f fr→Q (.exit 2) ⟨f,[fr],[]⟩):QE Tryz.prog (.loop EL) ⟨f,[fr],[]⟩ Q:=by
 let I:Nat→St→Prop:=fun n st=>∃f fr i,st=⟨f,[fr],[]⟩∧n=S.enums.length-i∧i≤S.enums.length∧FD S (S.msgs.length) (i) f fr∧f 30=.list (S.enums.map fun n=>.agg n.cells)∧f 31=.int .i64 (S.enums.length:Nat)∧f 32=.int .i64 (i:Nat)
 have hl1:=hS.len2;subst hi0;refine Qe I _ ⟨f,fr,0,rfl,rfl,Qzl _,H,hw,hz,hk⟩ ?_;clear H hw hz hk;rintro _ st ⟨f0,fr0,i,rfl,rfl,hi,⟨h10,h20,h40,⟨a,b,Jr⟩,Xk,r6,g,h,JO,oR0,oT0⟩,hw0,hz0,hk0⟩;refine QJ (a:=_) [8] (by intro s hs;exact r6 s (by simp only[QAj,QAT,or_false]at hs ⊢;omega)) ?_;intro f fr hf hmm hn;have h1:f 1=.ptr 0 1 0:=by rw[hf,h10]<;>rfl
 have h2:f 2=.ptr 0 2 0:=by rw[hf,h20]<;>rfl
 have h4:f 4=.ptr 0 4 0:=by rw[hf,h40]<;>rfl
 have hw:f 30=.list (S.enums.map fun n=>.agg n.cells):=by rw[hf,hw0]<;>rfl
 have hz:f 31=.int .i64 (S.enums.length:Nat):=by rw[hf,hz0]<;>rfl
 have hk:f 32=.int .i64 (i:Nat):=by rw[hf,hk0]<;>rfl
 have o1:fr 1=.cells [.list (S.msgs.map fun n=>.agg n.cells),.list (S.enums.map fun n=>.agg n.cells),.list (S.servs.map fun n=>.agg n.cells)]:=by rw[hmm 1 (by decide),Xk]<;>rfl
 have o2:∃a b,fr 2=.cells [a,b]:=⟨_,_,by rw[hmm 2 (by decide),Jr];rfl⟩;have o4:fr 4=.cells [.vec 0 1100 g 0 (S.msgs.length) false,.vec 0 1101 h 0 (i) false]:=by rw[hmm 4 (by decide),JO]<;>rfl
 have oR:fr 1100=.vec g 3 ((S.msgs.take (S.msgs.length)).map fun m=>.agg (XX S m).cells):=by rw[hmm 1100 (by decide),oR0]<;>rfl
 have oT:fr 1101=.vec h 5 ((S.enums.take (i)).map fun e=>.agg (XQ e).cells):=by rw[hmm 1101 (by decide),oT0]<;>rfl
 have nv:=hn 8 (by decide);have r6':∀s∈[6,8],(fr s).isRow=false:=by
  intro s hs;by_cases hsv:s=8
  ·subst hsv;rw[nv];rfl
  ·rw[hmm s (by simp only[QAj,QAT,or_false];exact hsv)];have:=r6 s hs
   revert this
   cases fr0 s<;>intro h<;>first|rfl|exact h
 clear hf hmm hn h10 h20 h40 Jr Xk r6 JO oR0 oT0 hw0 hz0 hk0;simp only[MZ,M0,M1,M2,hz,hk,Qa,seval];by_cases hlt:i<S.enums.length
 case neg=>
  have e:i=S.enums.length:=by omega
  subst e;simp only[QC hlt,Qa,seval];exact hq _ _ ⟨(by exact h1),(by exact h2),(by exact h4),o2,o1,r6',g,h,o4,oR,oT⟩
 obtain⟨x,hx⟩:∃x,S.enums[i]? = some x:=⟨S.enums[i],Qzf hlt⟩;have hm:=Qzq hx;have hg:(S.enums.map fun n=>AV.agg n.cells)[i]? = some (.agg x.cells):=by rw[QAm,hx];rfl
 rw[XJ]at hg;have e1:=Qn i _ hlt (by simp only[maxLen];omega);have htl:(S.enums.take i).length=i:=by rw[QzZ];omega
 have hc:=s15 hM x (hS.enums x hm);simp only[XC,XJ x]at hc;simp only[QA hlt,nv,Qk,QAq,Qc,hg,h4,hw,hk,o4,eE,seval];refine aC hc ?_;refine Xa rfl rfl (by decide) rfl rfl ?_;rw[show List.map nn0 (XQ x).cells=(XQ x).cells from rfl];refine QO (xs:=(S.enums.take i).map (fun e=>AV.agg (XQ e).cells)) (by rfl) (by exact oT) rfl (by rw[QAo,htl]) (by rfl) rfl (by simp only[Qzr,QAe,maxLen];omega) (by simp only[Qzr,QAe];omega) ?_;simp only[h4,hk,o4,e1,eE,seval];obtain⟨a2,b2,o2⟩:=o2;have hsu:(S.enums.take (i+1)).map (fun e=>AV.agg (XQ e).cells)=(S.enums.take i).map (fun e=>AV.agg (XQ e).cells)++[(fun e=>AV.agg (XQ e).cells) x]:=by rw[QAx,hx,QAy,QAw];rfl
 refine⟨S.enums.length-(i+1),by omega,_,_,i+1,rfl,rfl,by omega,⟨(by exact h1),(by exact h2),(by exact h4),⟨a2,b2,(by exact o2)⟩,(by exact o1),?_,_,_,(by rfl),?_,?_⟩,(by exact hw),(by exact hz),(by rfl)⟩
 ·intro s hs;simp only[QAj,QAT,or_false]at hs;rcases hs with rfl|rfl<;>first|rfl|exact r6' _ (by decide)
 ·first|exact oR|(rw[hsu];rfl)|simp only[oR,eE,seval]
 ·first|exact oT|(rw[hsu];rfl)|simp only[oT,eE,seval]

include hM hS in
theorem s6 (h8:S.msgs.length≤8∧S.enums.length≤8∧S.servs.length≤8):Qu Tryz.prog 6 [S.av] (Dk S):=by
 have hv:=s13 hM S hS h8;simp only[SC.av]at hv;refine k6.fn (by simp) ?_;simp only[r6,o6,Ez,EA,SC.av,eE,seval];refine aC hv ?_;unfold Dk;cases hs:ZF S
 ·rw[Qzj (by simp)];simp only[EB,QAb,eE,seval]
 rw[Qzk rfl];simp only[EC,QAD,eE,seval];refine Xb rfl rfl rfl rfl ?_;refine Xb rfl rfl rfl rfl ?_;simp only[ED,QAo,eE,seval];refine QwO hM S hS (i:=0) _ _ ⟨(by rfl),(by rfl),(by rfl),⟨_,_,rfl⟩,(by rfl),by intro s hs;simp only[QAj,QAT,or_false]at hs;rcases hs with rfl|rfl<;>rfl,1,1,(by rfl),(by rfl),(by rfl)⟩ rfl (by rfl) (by rfl) (by rfl) _ (fun f fr H=>?_);obtain⟨h1,h2,h4,o2,o1,r6,g,h,o4,oR,oT⟩:=H;simp only[EK,h1,o1,QAo,eE,seval];refine QwP hM S hS (i:=0) _ _ ⟨(by exact h1),(by exact h2),(by exact h4),o2,o1,r6,g,h,o4,oR,oT⟩ rfl (by rfl) (by rfl) (by rfl) _ (fun f fr H=>?_);clear h1 h2 h4 o2 o1 r6 o4 oR oT;obtain⟨h1,h2,h4,⟨a,b,o2⟩,o1,r6,g,h,o4,oR,oT⟩:=H;have ht1:List.take S.msgs.length (S.msgs.map fun m=>AV.agg (XX S m).cells)=S.msgs.map fun m=>AV.agg (XX S m).cells:=QzJ (by simp)
 have ht2:List.take S.enums.length (S.enums.map fun m=>AV.agg (XQ m).cells)=S.enums.map fun m=>AV.agg (XQ m).cells:=QzJ (by simp)
 have eP:(Fj S).av=.agg [.list (S.msgs.map fun m=>.agg (XX S m).cells),.list (S.enums.map fun e=>.agg (XQ e).cells)]:=by
  unfold PL.av Fj;simp only[QAA];rfl
 rw[QAv]at oR oT;simp only[M3,h2,h4,o2,o4,oR,oT,eP,ht1,ht2,QAo,QzQ,QzB,Qzc,Qz7,QAc,AV.un,AV.unL,eE,seval]
end

section
variable {P:Program}{M k:Nat}{t:TypeId}
end
section
variable {M:Nat}(hM:M≤1048576)(S:SC)(hS:S.ok M)(hv:ZF S=true)
end

section
variable (l:List SF)(hl:l.length≤1048576)
include hl
theorem u16:Qu Tryz.prog 16 [.list (l.map fun n=>.agg n.cells)] (.list ((unl [] l).map Qi)):=by
 let I:Nat→St→Prop:=fun k st=>∃f fr i g,st=⟨f,[fr],[]⟩∧k=l.length-i∧i≤l.length∧f 0=.list (l.map fun n=>.agg n.cells)∧f 3=.vec 0 3 g 0 (un l i).length false∧f 4=.int .i64 (i:Nat)∧fr 3=.vec g 1 ((un l i).map Qi)
 refine k16.fn (by simp) ?_;simp only[Qa,seval];refine JX rfl rfl ?_;simp only[Qa,seval];refine Qe I _ ⟨_,_,0,1,rfl,rfl,Qzl _,(by rfl),(by rfl),(by rfl),(by rfl)⟩ ?_;rintro _ st ⟨f,fr,i,g,rfl,rfl,hi,h0,h3,h4,o3⟩;simp only[QAo,h0,h4,Qa,seval];by_cases hlt:i<l.length
 case neg=>
  have e:i=l.length:=by omega
  subst e;rw[Dh]at h3 o3;have ht:List.take (unl [] l).length ((unl [] l).map Qi)=(unl [] l).map Qi:=QzJ (by simp);simp only[QC hlt,h3,o3,ht,QAo,QzQ,QzB,Qzc,Qz7,QAc,AV.un,eE,seval]
 obtain⟨x,hx⟩:∃x,l[i]? = some x:=⟨l[i],Qzf hlt⟩;have hg:(l.map fun n=>AV.agg n.cells)[i]? = some (.agg x.cells):=by rw[QAm,hx];rfl
 rw[QD]at hg;have e1:=Qn i _ hlt (by simp only[maxLen];omega);have hus:=UH hx;have hul:=WD l i;simp only[QA hlt,Qk,QAq,Qc,hg,h0,h4,Qx,eE,seval];by_cases hu:x.union=[]
 ·have d:(x.union==[])=true:=by simp[hu]
  rw[Qzk (.inl hu)]at hus;simp only[d,h4,e1,QAD,Qa,seval];exact⟨l.length-(i+1),by omega,_,fr,i+1,g,rfl,rfl,by omega,(by exact h0),by rw[hus];exact(by exact h3),(by rfl),by rw[hus];exact o3⟩
 have d:(x.union==[])=false:=by simp[hu]
 simp only[d,Qk,QAq,Qc,hg,h0,h3,h4,QAb,eE,seval];refine Q4 (u40 (un l i) (by simp only[maxLen];omega) x.union) ?_ rfl rfl (.inr rfl) ?_
 ·have ht:List.take (un l i).length ((un l i).map Qi)=(un l i).map Qi:=QzJ (by simp);simp only[QzI,Qz4,AV.stillL,AV.still,Am.Qf,o3,QAo,ht,QzQ,QzB,Qzc,Qz7,QAs,Qzv,Qa,seval]<;>rfl
 cases hc:(un l i).contains x.union
 ·rw[Qzj (by simp only[hu,hc,Qzv,or_self,not_false_eq_true])]at hus;simp only[Qk,QAq,Qc,hg,h0,h3,h4,QAb,eE,seval];refine Ze (w:=x.union) rfl ?_;refine QO (xs:=(un l i).map Qi) (by rfl) (by exact o3) rfl (by simp) (by rfl) rfl (by simp only[Qzr,QAe,maxLen];omega) (by simp only[Qzr,QAe];omega) ?_;simp only[h4,e1,Qa,seval];exact⟨l.length-(i+1),by omega,_,_,i+1,g+1,rfl,rfl,by omega,(by exact h0),by rw[hus,QzM];exact(by rfl),(by rfl),by rw[hus,QAw];exact(by rfl)⟩
 ·rw[Qzk (.inr hc)]at hus;simp only[h4,e1,QAD,Qa,seval];exact⟨l.length-(i+1),by omega,_,fr,i+1,g,rfl,rfl,by omega,(by exact h0),by rw[hus];exact(by exact h3),(by rfl),by rw[hus];exact o3⟩
end

def Wd (l:List SN):List SN:=l.filter fun n=>n.name==alias
section
variable (l:List SN)(hl:l.length≤1048576)
include hl
theorem u18:Qu Tryz.prog 18 [.list (l.map fun n=>.agg n.cells)] (.list ((Wd l).map fun n=>.agg n.cells)):=by
 let I:Nat→St→Prop:=fun k st=>∃f fr i g L,st=⟨f,[fr],[]⟩∧k=l.length-i∧i≤l.length∧L=Wd (l.take i)∧f 0=.list (l.map fun n=>.agg n.cells)∧f 3=.vec 0 3 g 0 L.length false∧f 4=.int .i64 (i:Nat)∧fr 3=.vec g 8 (L.map fun n=>.agg n.cells)
 refine k18.fn (by simp) ?_;simp only[Qa,seval];refine JX rfl rfl ?_;simp only[Qa,seval];refine Qe I _ ⟨_,_,0,1,[],rfl,rfl,Qzl _,rfl,(by rfl),(by rfl),(by rfl),(by rfl)⟩ ?_;rintro _ st ⟨f,fr,i,g,L,rfl,rfl,hi,hL,h0,h3,h4,o3⟩;simp only[QAo,h0,h4,Qa,seval];by_cases hlt:i<l.length
 case neg=>
  rw[QzJ (by omega)]at hL;subst hL;have ht:List.take (Wd l).length ((Wd l).map fun n=>AV.agg n.cells)=(Wd l).map fun n=>AV.agg n.cells:=QzJ (by simp)
  simp only[QC hlt,h3,o3,ht,QAo,QzQ,QzB,Qzc,Qz7,QAc,AV.un,eE,seval]
 obtain⟨x,hx⟩:∃x,l[i]? = some x:=⟨l[i],Qzf hlt⟩;have hg:(l.map fun n=>AV.agg n.cells)[i]? = some (.agg x.cells):=by rw[QAm,hx];rfl
 rw[Ka]at hg;have e1:=Qn i _ hlt (by simp only[maxLen];omega);have hLl:L.length≤i:=by
  rw[hL];refine Qzd (List.length_filter_le _ _) ?_;rw[QzZ];omega
 have hsu:Wd (l.take (i+1))=L++(if x.name=alias then [x]else []):=by
  rw[hL,QAx,hx,QAy];unfold Wd;rw[List.filter_append];congr 1
  by_cases h:x.name=alias<;>simp[h]
 simp only[QA hlt,Qk,QAq,Qc,hg,h0,h4,Qx,eE,seval];by_cases hn:x.name=alias
 ·have d:(x.name==[97,108,105,97,115])=true:=by rw[hn];rfl
  rw[Qzk hn]at hsu;simp only[d,Qk,QAq,Qc,hg,h0,h3,h4,eE,seval];refine Xa rfl rfl (by decide) rfl rfl ?_;simp only[nn0,QzI,Qz4,seval];refine QO (xs:=L.map fun n=>.agg n.cells) (by rfl) (by exact o3) rfl (by simp) (by rfl) rfl (by simp only[Qzr,QAe,maxLen];omega) (by simp only[Qzr,QAe];omega) ?_;simp only[h4,e1,Qa,seval];exact⟨l.length-(i+1),by omega,_,_,i+1,g+1,L++[x],rfl,rfl,by omega,hsu.symm,(by exact h0),by rw[QzM];exact(by rfl),(by rfl),by rw[QAw,QzI,Qz4,Ka x];exact(by rfl)⟩
 ·have d:(x.name==[97,108,105,97,115])=false:=QAO.2 hn;rw[Qzj hn,Qz6]at hsu;simp only[d,h4,e1,Qa,seval];exact⟨l.length-(i+1),by omega,_,fr,i+1,g,L,rfl,rfl,by omega,hsu.symm,(by exact h0),(by exact h3),(by rfl),o3⟩
end

theorem CD {t:Int}:∀ {l:List SN} {s:List UInt8},Jv t (some s) l=0→∀n∈l,Op.bytesLess s n.name=true
 |n :: l,s,h,x,hx=>by
  have key:Jd t (some s) n=0∧Jv t (some n.name) l=0:=by
   rw[Jv]at h;split at h
   ·rename_i h1;exact⟨h1,h⟩
   ·rename_i h1;exact absurd h h1
  have h1:Op.bytesLess s n.name=true:=by
   have h1:=key.1;unfold Jd at h1;split at h1
   ·cases h1
   split at h1
   ·cases h1
   split at h1
   ·cases h1
   dsimp only at h1;split at h1
   ·cases h1
   rename_i hb;split at h1
   ·cases h1
   rename_i hne;cases hs:Op.bytesLess s n.name with
   |true=>rfl
   |false=>exact absurd (WB (by simpa using hb) hs) hne
  rcases QAj.1 hx with rfl|hx
  ·exact h1
  ·exact K2 h1 (CD key.2 x hx)
theorem ME {t:Int}{n:SN}{l:List SN}{last:Option (List UInt8)}(h:Jv t last (n :: l)=0):Jv t (some n.name) l=0:=by
 rw[Jv]at h;split at h
 ·exact h
 ·rename_i h1;exact absurd h h1
theorem FE {t:Int}:∀ {l:List SN} {last:Option (List UInt8)},Jv t last l=0→Wd l=(l.find? fun n=>n.name==alias).toList
 | [],_,_=>rfl
 |n :: l,last,h=>by
  have hn:=ME h;unfold Wd;rw[List.filter_cons,List.find?_cons];cases hp:(n.name==alias)
  ·exact FE hn
  ·have e:l.filter (fun n=>n.name==alias)=[]:=by
    rw[List.filter_eq_nil_iff];intro x hx hxa;have h1:=CD hn x hx;have e1:n.name=alias:=by simpa using hp
    have e2:x.name=alias:=by simpa using hxa
    rw[e1,e2,Jf]at h1;cases h1
   simp[e]
theorem Dl {x:SI}{t:Int}(h:XT x.notes t=0):(ZA x).cells=[.str x.name,.int .i64 x.num,.list ((Wd x.notes).map fun n=>.agg n.cells)]:=by
 have hn:Jv t none x.notes=0:=by
  unfold XT at h;split at h
  ·cases h
  ·exact h
 rw[FE hn];cases hf:x.notes.find? fun n=>n.name==alias with
 |none=>exact Di (by unfold Xe;rw[hf];rfl)
 |some n=>
  have e:n.name=alias:=by simpa using QAL hf
  rw[Dj (v:=n.val) (by unfold Xe;rw[hf];rfl),QAy,QzI,Qz4,QwI,e]

theorem U5:∀(l:List SF) (us:List (List UInt8)),us.Nodup→(unl us l).Nodup
 | [],us,h=>h
 |f :: l,us,h=>by
  rw[unl];refine U5 l _ ?_;split
  ·exact h
  ·rename_i hn;rw[not_or]at hn;refine List.nodup_append.2 ⟨h,by simp,fun a ha b hb=>?_⟩;rcases List.mem_singleton.1 hb with rfl
   rintro rfl;exact hn.2 (QAU.2 ha)
theorem QkU {us:List (List UInt8)}(hd:us.Nodup){j:Nat}{s:List UInt8}(h:us[j]? = some s):XB us s=(j:Int):=by
 unfold XB;rcases Xp (fun u=>u==s) us 0 with⟨_,hn⟩|⟨k,o,h1,h2,h3⟩
 ·have:=QAI.1 hn s (Qzq h);simp at this
 ·have e:o=s:=by simpa using QAL h3
  subst e;have:=(List.getElem?_inj (Qze.1 h2).1 hd).1 (h2.trans h.symm);omega

theorem U6 {P:Program}{Q:Exit→St→Prop}{f:Fr}{m:Qo}{ds:List DF}{s idx site sz:Nat}{a:RC}{fr:Nat→Ob}{xs:List AV}(h1:fr s=.cells xs)(h2:xs[idx]? = some .nils)(h3:Qy (fr site)=true)(hne:Nat.beq site s=false)
  (h:QE P a ⟨f,Qw (Qw fr site (.vec (Yc (fr site)) sz [])) s (.cells (xs.set idx (.vec 0 site (Yc (fr site)) 0 0 false))) :: m,ds⟩ Q):QE P (.gho (.vecc s idx site sz) a) ⟨f,fr :: m,ds⟩ Q:=by
 refine⟨_,?_,h⟩;have e1:Am.Qf (fr :: m) 0 s=.cells xs:=h1;have e:Qy (Am.Qf (fr :: m) 0 site)=true:=h3;have e2:QX (fr :: m) 0 site=Yc (fr site):=Nb;simp[ZT,e1,h2,e,e2,Am.put,hne]

def KM (x:SF)(a:List UInt8)(t u:Int):List AV:=[.int .i64 x.num,.str x.name,.str a,.int .i64 x.card,.int .i64 x.key,.int .i64 x.kind,.int .i64 t,.int .i64 u]

section
variable {M:Nat}(hM:M≤1048576)(S:SC)(hS:S.ok M)(l:List SF)(hl:l.length≤1048576)(k:Nat)(x:SF)(hx:l[k]? = some x)

include hl in
theorem Dm (a:List UInt8)(t:Int)(f:Fr)(fr:Nat→Ob)(h1:f 1=.list (l.map fun n=>.agg n.cells))(h6:f 6=.ptr 0 6 0)(h7:f 7=.ptr 0 7 0)(h8:f 8=.ptr 0 8 0)(o6:∃a b c d e g h i,fr 6=.cells [a,b,c,d,e,g,h,i])(o7:fr 7=.cells x.cells)(o8:fr 8=.cells (KM x a t (-1)))(hm:x∈l) :
  QE Tryz.prog (.seq (.seq (.reg YT) (.cond (.t 67) (.seq (.reg YU) (.seq (.reg YV) (.block 0 (.loop Hi)))) .skip)) (.seq (.reg Wr) .ret)) ⟨f,[fr],[]⟩ (XW Gk 0 fun y _=>y=.agg (KM x a t (X4 (unl [] l) x))):=by
 obtain⟨z0,z1,z2,z3,z4,z5,z6,z7,o6⟩:=o6;have fin:∀f:Fr,f 6=.ptr 0 6 0→f 8=.ptr 0 8 0→∀fr:Nat→Ob,(∃a b c d e g h i,fr 6=.cells [a,b,c,d,e,g,h,i])→fr 8=.cells (KM x a t (X4 (unl [] l) x))→QE Tryz.prog (.seq (.reg Wr) .ret) ⟨f,[fr],[]⟩ (XW Gk 0 fun y _=>y=.agg (KM x a t (X4 (unl [] l) x))):=by
  rintro f h6 h8 fr ⟨z0,z1,z2,z3,z4,z5,z6,z7,o6⟩ o8;simp only[KM]at o8;simp only[Wr,Gk,KM,h6,h8,o6,o8,eE,seval]
 rw[QD]at o7;simp only[KM]at o8;simp only[YT,h7,o7,Qx,eE,seval];by_cases hu:x.union=[]
 ·have d:(x.union==[])=true:=by simp[hu]
  have eu:X4 (unl [] l) x = -1:=Qzk hu;have:=fin;simp only[Qa,seval]at this;simp only[d,QAD,Qa,seval];exact this _ (by exact h6) (by exact h8) _ ⟨_,_,_,_,_,_,_,_,o6⟩ (by rw[eu];exact o8)
 have d:(x.union==[])=false:=by simp[hu]
 have hmu:x.union∈unl [] l:=(Uz l [] x.union).2 (.inr ⟨hu,x,hm,rfl⟩);have hid:=Fs (r:=[]) hmu;rw[Qz6]at hid;have hnd:=U5 l [] (by simp);have eu:X4 (unl [] l) x=XB (unl [] l) x.union:=Qzj hu;have hll:(unl [] l).length≤l.length:=by
  have:=WD l l.length
  rwa [Dh]at this
 simp only[d,YU,h1,QAb,Qa,seval];refine aC (u16 l hl) ?_;simp only[YV,Qa,seval];rw[eu]at fin ⊢;generalize hU:unl [] l=U at *
 let I:Nat→St→Prop:=fun n st=>∃f fr j,st=⟨f,[fr],[]⟩∧n=U.length-j∧j≤U.length∧f 6=.ptr 0 6 0∧f 7=.ptr 0 7 0∧f 8=.ptr 0 8 0∧f 11=.list (U.map Qi)∧f 12=.int .i64 (j:Nat)∧(∃a b c d e g h i,fr 6=.cells [a,b,c,d,e,g,h,i])∧fr 7=.cells x.cells∧fr 8=.cells (KM x a t (if XB U x.union<(j:Int)then XB U x.union else -1))
 refine Qe I _ ⟨_,_,0,rfl,rfl,Qzl _,(by exact h6),(by exact h7),(by exact h8),(by rfl),(by rfl),⟨_,_,_,_,_,_,_,_,o6⟩,by rw[QD];exact o7,by rw[Qzj (by omega)];exact o8⟩ ?_;clear h1 h6 h7 h8 o6 o7 o8;rintro _ st ⟨f,fr,j,rfl,rfl,hj,h6,h7,h8,h11,h12,o6,o7,o8⟩;simp only[Hi,N5,QAo,h11,h12,Qa,seval];by_cases hlt:j<U.length
 case neg=>
  have:=fin;simp only[Qa,seval]at this;simp only[QC hlt,Qa,seval];rw[Qzk (by omega)]at o8;exact this _ (by exact h6) (by exact h8) _ o6 o8
 obtain⟨y,hy⟩:∃y,U[j]? = some y:=⟨U[j],Qzf hlt⟩;have hg:(U.map Qi)[j]? = some (.str y):=by simp[hy,Qi]
 have e1:=Qn j _ hlt (by simp only[maxLen];omega);have o7':=o7;rw[QD]at o7';simp only[QA hlt,N6,Qk,QAq,Qc,hg,h7,h11,h12,o7',Qx,eE,seval];by_cases hp:y=x.union
 ·have dp:(y==x.union)=true:=by simp[hp]
  have hi:=QkU hnd hy;rw[hp]at hi;simp only[KM]at o8;simp only[dp,N7,Gj,h8,h12,o8,e1,eE,seval];exact⟨U.length-(j+1),by omega,_,_,j+1,rfl,rfl,by omega,(by exact h6),(by exact h7),(by exact h8),(by exact h11),(by rfl),(by obtain⟨a,b,c,d,e,g,h,i,o6⟩:=o6;exact⟨a,b,c,d,e,g,h,i,(by exact o6)⟩),(by exact o7),by rw[Qzk (by omega),hi];exact(by rfl)⟩
 ·have dp:(y==x.union)=false:=by simp[hp]
  have hne:XB U x.union≠(j:Int):=by
   intro he;obtain⟨k',o,q1,q2,q3⟩:∃k o,XB U x.union=((k:Nat):Int)∧U[k]? = some o∧o=x.union:=by
    rcases Xp (fun u=>u==x.union) U 0 with⟨q,_⟩|⟨k,o,q1,q2,q3⟩
    ·have:XB U x.union = -1:=q;omega
    ·exact⟨k,o,by rw[XB,q1,QzB],q2,by simpa using QAL q3⟩
   have:k'=j:=by omega
   subst this;rw[hy]at q2;cases q2;exact hp q3
  have hlt2:(XB U x.union<(j:Int))=(XB U x.union<((j+1:Nat):Int)):=by
   apply propext
   omega
  simp only[dp,Gj,h12,e1,Qa,seval];exact⟨U.length-(j+1),by omega,_,_,j+1,rfl,rfl,by omega,(by exact h6),(by exact h7),(by exact h8),(by exact h11),(by rfl),o6,o7,by simp only[←hlt2];exact o8⟩

include hM hS hl hx in
theorem u17 (hn:x.notes.length≤1048576):Qu Tryz.prog 17 [S.av,.list (l.map fun n=>.agg n.cells),.int .i64 (k:Nat)] (.agg (Zw S x (X4 (unl [] l) x))):=by
 obtain⟨l1,l2,_⟩:=Zd S hS hM;have hg:(l.map fun n=>AV.agg n.cells)[k]? = some (.agg x.cells):=by rw[QAm,hx];rfl
 rw[QD]at hg;have hc1:=u31 S l1 x.tname;have hc2:=u32 S l2 x.tname;generalize (S.msgs.find? fun m=>m.name==x.tname).getD Cl=m0 at hc1;generalize (S.enums.find? fun m=>m.name==x.tname).getD Cm=e0 at hc2;simp only[QT,Xo m0,SC.av]at hc1;simp only[XC,XJ e0,SC.av]at hc2;have hfd:=u41 x.notes (by simp only[maxLen];omega) alias;have eis:(x.notes.find? fun x=>x.name==alias).isSome=(Xe x.notes).isSome:=by unfold Xe;rw[Option.isSome_map]
 rw[K4,eis]at hfd;have hxm:=Qzq hx;have e8:Zw S x (X4 (unl [] l) x)=KM x (((Xe x.notes).map V.text).getD []) (Wc S x) (X4 (unl [] l) x):=rfl;rw[e8];generalize hA:((Xe x.notes).map V.text).getD []=A at *;have key:∀(f:Fr) (fr:Nat→Ob),f 1=.list (l.map fun n=>.agg n.cells)→f 3=.ptr 0 3 0→f 6=.ptr 0 6 0→f 7=.ptr 0 7 0→f 8=.ptr 0 8 0→fr 3=.cells [.list (S.msgs.map fun n=>.agg n.cells),.list (S.enums.map fun n=>.agg n.cells),.list (S.servs.map fun n=>.agg n.cells)]→
   (∃a b c d e g h i,fr 6=.cells [a,b,c,d,e,g,h,i])→fr 7=.cells x.cells→fr 8=.cells (KM x A (-1) (-1))→
   QE Tryz.prog (.seq (.seq (.reg Bg) (.cond (.t 42) (.reg Bh) .skip)) (.seq (.seq (.reg YS) (.cond (.t 55) (.reg Bi) .skip)) (.seq (.seq (.reg YT) (.cond (.t 67) (.seq (.reg YU) (.seq (.reg YV) (.block 0 (.loop Hi)))) .skip)) (.seq (.reg Wr) .ret)))) ⟨f,[fr],[]⟩ (XW Gk 0 fun y _=>y=.agg (KM x A (Wc S x) (X4 (unl [] l) x))):=by
  intro f fr h1 h3 h6 h7 h8 o3 o6 o7 o8;have o7':=o7;rw[QD]at o7';have o6k:∀fr':Nat→Ob,fr' 6=fr 6→∃a b c d e g h i,fr' 6=.cells [a,b,c,d,e,g,h,i]:=fun fr' h=>by rw[h];exact o6
  have o8':=o8;simp only[KM]at o8';simp only[Bg,h7,o7',eE,seval];by_cases h10:x.kind=10
  ·have d:(x.kind==10)=true:=by simp[h10]
   have d2:(x.kind==9)=false:=by simp[h10]
   have et:Wc S x=Je S x.tname:=Qzk h10;rw[et];simp only[d,Bh,h3,h7,o3,o7',eE,seval];refine aC hc1 ?_;simp only[h7,h8,o7',o8',YS,d2,eE,seval];have:=Dm l hl x A (Je S x.tname);simp only[Qa,seval]at this;exact this _ _ (by exact h1) (by exact h6) (by exact h7) (by exact h8) (o6k _ (by rfl)) (by exact o7) (by rfl) hxm
  have d:(x.kind==10)=false:=by simp[h10]
  by_cases h9:x.kind=9
  ·have d2:(x.kind==9)=true:=by simp[h9]
   have et:Wc S x=W2 S x.tname:=by unfold Wc;rw[Qzj h10,Qzk h9];rfl
   rw[et];simp only[d,h7,o7',YS,d2,eE,seval];simp only[Bi,h3,h7,o3,o7',eE,seval];refine aC hc2 ?_;simp only[h8,o8',eE,seval];have:=Dm l hl x A (W2 S x.tname);simp only[Qa,seval]at this;exact this _ _ (by exact h1) (by exact h6) (by exact h7) (by exact h8) (o6k _ (by rfl)) (by exact o7) (by rfl) hxm
  have d2:(x.kind==9)=false:=by simp[h9]
  have et:Wc S x = -1:=by unfold Wc;rw[Qzj h10,Qzj h9]
  rw[et];simp only[d,d2,h7,o7',YS,eE,seval];have:=Dm l hl x A (-1);simp only[Qa,seval]at this;exact this _ _ (by exact h1) (by exact h6) (by exact h7) (by exact h8) o6 o7 o8 hxm
 simp only[Gk,Qa,seval]at key;refine k17.fn (by simp) ?_;simp only[r17,Gk,PW,PX,SC.av,Qk,QAq,Qc,hg,eE,seval];simp only[PY,eE,seval];simp only[PZ,eE,seval];cases hal:Xe x.notes with
 |none=>
  rw[hal]at hfd hA;simp only[QAu,QzW,Qz3,alias]at hfd hA;rw[V.av,V.eta]at hfd;refine aC hfd ?_;simp only[Bf,eE,seval];subst hA;exact key _ _ (by rfl) (by rfl) (by rfl) (by rfl) (by rfl) (by rfl) ⟨_,_,_,_,_,_,_,_,rfl⟩ (by rw[QD];exact(by rfl)) (by rfl)
 |some v=>
  rw[hal]at hfd hA;simp only[QAd,QAS,QzC,alias]at hfd hA;rw[V.av,V.eta]at hfd;refine aC hfd ?_;simp only[Bf,P0,eE,seval];subst hA;exact key _ _ (by rfl) (by rfl) (by rfl) (by rfl) (by rfl) (by rfl) ⟨_,_,_,_,_,_,_,_,rfl⟩ (by rw[QD];exact(by rfl)) (by rfl)
end

def Kv (S:SC)(i j:Nat)(f:Fr)(fr:Nat→Ob):Prop:=f 1=.ptr 0 1 0∧f 2=.ptr 0 2 0∧f 4=.ptr 0 4 0∧
  fr 1=.cells [.list (S.msgs.map fun n=>.agg n.cells),.list (S.enums.map fun n=>.agg n.cells),.list (S.servs.map fun n=>.agg n.cells)]∧(∃a b,fr 2=.cells [a,b])∧
  ∃g h,fr 4=.cells [.vec 0 1101 g 0 i false,.vec 0 1103 h 0 j false]∧fr 1101=.vec g 3 ((S.msgs.take i).map fun m=>.agg (XX S m).cells)∧fr 1103=.vec h 5 ((S.enums.take j).map fun e=>.agg (XQ e).cells)
theorem Kv.to {S:SC}{i j:Nat}{f f':Fr}{fr fr':Nat→Ob}(h:Kv S i j f fr)(hf:f' 1=f 1∧f' 2=f 2∧f' 4=f 4)(hm:fr' 1=fr 1∧fr' 2=fr 2∧fr' 4=fr 4∧fr' 1101=fr 1101∧fr' 1103=fr 1103):Kv S i j f' fr':=by
 obtain⟨a,b,c⟩:=hf;obtain⟨d,e,g,p,q⟩:=hm;unfold Kv at h ⊢;rw[a,b,c,d,e,g,p,q];exact h
theorem Kv.drop {S:SC}{i j:Nat}{f f':Fr}{fr fr':Nat→Ob}{l:List Nat}(h:Kv S i j f fr)(hf:∀i,f' i=Wq l (f i))(hm:∀i,i∉l→fr' i=JU l (fr i))(hl:∀s∈l,s∈[7,10,12]):Kv S i j f' fr':=by
 have hs:∀s:Nat,s∈[7,10,12]→∀i∈[1,2,4,1101,1103],i≠s:=by decide
 have hp:∀i∈[1,2,4,1101,1103],i∉l:=fun i hi hil=>hs i (hl i hil) i hi rfl
 have sp:∀(l:List Nat) (s o:Nat),s∉l→Wq l (.ptr 0 s o)=.ptr 0 s o:=by
  intro l
  induction l with
  |nil=>intro s o _;rfl
  |cons x l ih=>
   intro s o hs;rw[QAj,not_or]at hs;rw[Wq,UQ,show Nat.beq s x=false by rw[B7];simp[hs.1],cond_false];exact ih s o hs.2
 have sg:∀(l:List Nat) (v:AV),(∀s,v.scrub s=v)→Wq l v=v:=by
  intro l
  induction l with
  |nil=>intro v _;rfl
  |cons x l ih=>intro v hv;rw[Wq,hv];exact ih v hv
 have og:∀(l:List Nat) (o:Ob),(∀s,o.scrub s=o)→JU l o=o:=by
  intro l
  induction l with
  |nil=>intro v _;rfl
  |cons x l ih=>intro v hv;rw[JU,hv];exact ih v hv
 have oc:∀(l:List Nat) (a b:AV),∃c d,JU l (.cells [a,b])=.cells [c,d]:=by
  intro l
  induction l with
  |nil=>intro a b;exact⟨a,b,rfl⟩
  |cons x l ih=>intro a b;exact ih _ _
 obtain⟨h1,h2,h4,o1,⟨a,b,o2⟩,g,h,o4,oR,oT⟩:=h;refine⟨by rw[hf,h1];exact sp l 1 0 (hp 1 (by decide)),by rw[hf,h2];exact sp l 2 0 (hp 2 (by decide)),by rw[hf,h4];exact sp l 4 0 (hp 4 (by decide)),?_,?_,g,h,?_,?_,?_⟩
 ·rw[hm 1 (hp 1 (by decide)),o1];exact og l _ fun _=>rfl
 ·rw[hm 2 (hp 2 (by decide)),o2];exact oc l a b
 ·rw[hm 4 (hp 4 (by decide)),o4];exact og l _ fun _=>rfl
 ·rw[hm 1101 (hp 1101 (by decide)),oR];exact og l _ fun _=>rfl
 ·rw[hm 1103 (hp 1103 (by decide)),oT];exact og l _ fun _=>rfl

theorem Kw:∀(l:List Nat) (o:Ob),Qy o=true→Qy (JU l o)=true
 | [],_,h=>h
 |x :: l,o,h=>Kw l _ (by cases o<;>first|exact h|cases h)

section
variable {M:Nat}(hM:M≤1048576)(S:SC)(hS:S.ok M)(hv:ZF S=true)

def OpS (S:SC)(m:SM)(i k:Nat)(f:Fr)(fr:Nat→Ob):Prop:=Kv S i 0 f fr∧f 5=.int .i64 (i:Nat)∧f 6=.list (m.fields.map fun n=>.agg n.cells)∧f 7=.ptr 0 7 0∧f 8=.int .i64 (k:Nat)∧(∀s∈[12,10],(fr s).isRow=false)∧Qy (fr 1102)=true∧
 ∃r,fr 7=.cells [.str m.name,.vec 0 1100 r 0 k false,.int .i64 ((unl [] m.fields).length:Nat)]∧fr 1100=.vec r 8 ((m.fields.take k).map fun x=>.agg (Zw S x (X4 (unl [] m.fields) x)))

include hM hS in
theorem QkW (m:SM)(hm:m∈S.msgs)(i:Nat)(f:Fr)(fr:Nat→Ob)(H:OpS S m i 0 f fr)(Q:Exit→St→Prop)(hq:∀f fr,OpS S m i m.fields.length f fr→Q (.exit 2) ⟨f,[fr],[]⟩):QE Tryz.prog (.loop Mh) ⟨f,[fr],[]⟩ Q:=by
 let I:Nat→St→Prop:=fun n st=>∃f fr k,st=⟨f,[fr],[]⟩∧n=m.fields.length-k∧k≤m.fields.length∧OpS S m i k f fr
 have hmo:=hS.msgs m hm;have hl1:=hmo.len1;refine Qe I _ ⟨f,fr,0,rfl,rfl,Qzl _,H⟩ ?_;clear H;rintro _ st ⟨f,fr,k,rfl,rfl,hk,H⟩;have H':=H;obtain⟨⟨h1,h2,h4,o1,o2,g,h,o4,oR,oT⟩,h5,h6,h7,h8,JQ,r2,r,o7,oP⟩:=H';simp only[Mh,Pr,QAo,h6,h8,Qa,seval];by_cases hlt:k<m.fields.length
 case neg=>
  have e:k=m.fields.length:=by omega
  subst e;simp only[QC hlt,Qa,seval];refine hq _ _ ⟨H.1.to ⟨(by rfl),(by rfl),(by rfl)⟩ ⟨rfl,rfl,rfl,rfl,rfl⟩,(by exact h5),(by exact h6),(by exact h7),(by exact h8),JQ,r2,r,o7,oP⟩
 obtain⟨x,hx⟩:∃x,m.fields[k]? = some x:=⟨m.fields[k],Qzf hlt⟩;have hxl:=(hmo.fields x (Qzq hx)).len;have e1:=Qn k _ hlt (by simp only[maxLen];omega);have htl:(m.fields.take k).length=k:=by rw[QzZ];omega
 have hc:=u17 hM S hS m.fields (by omega) k x hx (by omega);simp only[SC.av]at hc;simp only[QA hlt,Ps,h1,h6,h7,h8,o1,o7,eE,seval];refine aC hc ?_;refine Xa rfl rfl (by decide) rfl rfl ?_;rw[show List.map nn0 (Zw S x (X4 (unl [] m.fields) x))=Zw S x (X4 (unl [] m.fields) x)from rfl];refine QO (xs:=(m.fields.take k).map fun x=>.agg (Zw S x (X4 (unl [] m.fields) x))) (by rfl) (by exact oP) rfl (by rw[QAo,htl]) (by rfl) rfl (by simp only[Qzr,QAe,maxLen];omega) (by simp only[Qzr,QAe];omega) ?_;simp only[h7,h8,o7,e1,Pt,eE,seval];refine⟨m.fields.length-(k+1),by omega,_,_,k+1,rfl,rfl,by omega,H.1.to ⟨(by rfl),(by rfl),(by rfl)⟩ ⟨(by rfl),(by rfl),(by rfl),(by rfl),(by rfl)⟩,(by exact h5),(by exact h6),(by exact h7),(by rfl),?_,(by exact r2),r+1,(by rfl),?_⟩
 ·intro s hs;simp only[QAj,QAT,or_false]at hs;rcases hs with rfl|rfl<;>exact JQ _ (by decide)
 ·rw[QAx,hx,QAy,QAw];exact(by rfl)

def MhS (S:SC)(i:Nat)(f:Fr)(fr:Nat→Ob):Prop:=Kv S i 0 f fr∧f 5=.int .i64 (i:Nat)∧(∀s∈[12,10,7],(fr s).isRow=false)∧Qy (fr 1100)=true∧Qy (fr 1102)=true

include hM hS in
theorem AE (f:Fr)(fr:Nat→Ob)(H:MhS S 0 f fr)(Q:Exit→St→Prop)(hq:∀f fr,MhS S S.msgs.length f fr→Q (.exit 0) ⟨f,[fr],[]⟩):QE Tryz.prog (.loop QdK) ⟨f,[fr],[]⟩ Q:=by
 let I:Nat→St→Prop:=fun n st=>∃f fr i,st=⟨f,[fr],[]⟩∧n=S.msgs.length-i∧i≤S.msgs.length∧MhS S i f fr
 have hl1:=hS.len1;refine Qe I _ ⟨f,fr,0,rfl,rfl,Qzl _,H⟩ ?_;clear H;rintro _ st ⟨f0,fr0,i,rfl,rfl,hi,H0,h50,r0,DZ,Gl⟩;refine QJ (a:=_) [7] (by intro s hs;exact r0 s (by simp only[QAj,QAT,or_false]at hs ⊢;omega)) ?_;intro f fr hf hmm hn;have H:Kv S i 0 f fr:=H0.drop hf hmm (by decide);have h5:f 5=.int .i64 (i:Nat):=by rw[hf,h50]<;>rfl
 have n7:=hn 7 (by decide);have r1:Qy (fr 1100)=true:=by rw[hmm 1100 (by decide)];exact Kw _ _ DZ
 have r2:Qy (fr 1102)=true:=by rw[hmm 1102 (by decide)];exact Kw _ _ Gl
 have JQ:∀s∈[12,10],(fr s).isRow=false:=by
  intro s hs;have e:s∉[7]:=by simp only[QAj,QAT,or_false]at hs ⊢;omega
  rw[hmm s e];have:=r0 s (by simp only[QAj,QAT,or_false]at hs ⊢;omega)
  revert this
  cases fr0 s<;>intro h<;>first|rfl|exact h
 clear hf hmm hn H0 h50 r0 DZ Gl;have H':=H;obtain⟨h1,h2,h4,o1,o2,g,h,o4,oR,oT⟩:=H';simp only[QdF,QAo,h1,h5,o1,eE,seval];by_cases hlt:i<S.msgs.length
 case neg=>
  have e:i=S.msgs.length:=by omega
  subst e;simp only[QC hlt,Qa,seval];refine hq _ _ ⟨H.to ⟨(by rfl),(by rfl),(by rfl)⟩ ⟨rfl,rfl,rfl,rfl,rfl⟩,(by exact h5),fun s hs=>?_,r1,r2⟩;simp only[QAj,QAT,or_false]at hs;rcases hs with rfl|rfl|rfl
  ·exact JQ 12 (by decide)
  ·exact JQ 10 (by decide)
  ·rw[n7];rfl
 obtain⟨m,hm⟩:∃x,S.msgs[i]? = some x:=⟨S.msgs[i],Qzf hlt⟩;have hmm:=Qzq hm;have hmo:=hS.msgs m hmm;have hml:=hmo.len1;have hg:(S.msgs.map fun n=>AV.agg n.cells)[i]? = some (.agg m.cells):=by rw[QAm,hm];rfl
 rw[Xo]at hg;have e1:=Qn i _ hlt (by simp only[maxLen];omega);have htl:(S.msgs.take i).length=i:=by rw[QzZ];omega
 simp only[QA hlt,QdG,QdH,Qk,QAq,Qc,hg,h1,h5,o1,eE,seval];refine aC (u16 m.fields (by omega)) ?_;simp only[n7,QAo,eE,seval];refine U6 (by rfl) rfl (by exact r1) rfl ?_;simp only[QdI,Qa,seval];refine QkW hM S hS m hmm i _ _ ⟨H.to ⟨(by rfl),(by rfl),(by rfl)⟩ ⟨(by rfl),(by rfl),(by rfl),(by rfl),(by rfl)⟩,(by exact h5),(by rfl),(by rfl),(by rfl),?_,(by exact r2),_,(by rfl),(by rfl)⟩ _ (fun f fr H=>?_)
 ·intro s hs;simp only[QAj,QAT,or_false]at hs;rcases hs with rfl|rfl<;>exact JQ _ (by decide)
 clear h1 h2 h4 h5 o1 o2 o4 oR oT n7 r1 r2 JQ;obtain⟨H,h5,h6,h7,h8,JQ,r2,r,o7,oP⟩:=H;have H':=H;obtain⟨h1,h2,h4,o1,o2,g,h,o4,oR,oT⟩:=H';rw[QAv]at oP;simp only[Qa,seval];refine HW o7 rfl oP (by simp) ?_;have ht:List.take m.fields.length (m.fields.map fun x=>AV.agg (Zw S x (X4 (unl [] m.fields) x)))=m.fields.map fun x=>AV.agg (Zw S x (X4 (unl [] m.fields) x)):=QzJ (by simp)
 have eG:(XX S m).cells=[.str m.name,.list (m.fields.map fun x=>AV.agg (Zw S x (X4 (unl [] m.fields) x))),.int .i64 ((unl [] m.fields).length:Nat)]:=by
  unfold PG.cells XX;simp only[QAA];rfl
 simp only[ht,List.set_cons_zero,List.set_cons_succ,Pu,h4,h7,o4,eE,seval];refine Xa rfl rfl (by decide) rfl rfl ?_;simp only[nn0,QzI,Qz4,seval];refine QO (xs:=(S.msgs.take i).map fun m=>.agg (XX S m).cells) (by rfl) (by exact oR) rfl (by rw[QAo,htl]) (by rfl) rfl (by simp only[Qzr,QAe,maxLen];omega) (by simp only[Qzr,QAe];omega) ?_;simp only[h4,h5,o4,e1,QdJ,eE,seval];obtain⟨a,b,o2⟩:=o2;refine⟨S.msgs.length-(i+1),by omega,_,_,i+1,rfl,rfl,by omega,⟨(by exact h1),(by exact h2),(by exact h4),(by exact o1),⟨a,b,(by exact o2)⟩,g+1,h,(by rfl),?_,(by exact oT)⟩,(by rfl),?_,(by rfl),(by exact r2)⟩
 ·rw[QAx,hm,QAy,QAw];simp only[QzI,Qz4,eG,Qa,seval]
 ·intro s hs;simp only[QAj,QAT,or_false]at hs;rcases hs with rfl|rfl|rfl
  ·exact JQ 12 (by decide)
  ·exact JQ 10 (by decide)
  ·rfl

end

section
variable {M:Nat}(hM:M≤1048576)(S:SC)(hS:S.ok M)(hv:ZF S=true)

def ItS (S:SC)(e:SE)(j k:Nat)(f:Fr)(fr:Nat→Ob):Prop:=Kv S S.msgs.length j f fr∧f 9=.int .i64 (j:Nat)∧f 10=.ptr 0 10 0∧f 11=.int .i64 (k:Nat)∧(∀s∈[12],(fr s).isRow=false)∧
 ∃r,fr 10=.cells [.str e.name,.bool e.opn,.vec 0 1102 r 0 k false,.list (e.free.map fun n=>.agg n.cells),.nils]∧fr 1102=.vec r 3 ((e.items.take k).map fun x=>.agg (ZA x).cells)

include hM hS hv in
theorem MG (e:SE)(j:Nat)(he:S.enums[j]? = some e)(f:Fr)(fr:Nat→Ob)(H:ItS S e j 0 f fr)(Q:Exit→St→Prop)(hq:∀f fr,ItS S e j e.items.length f fr→Q (.exit 6) ⟨f,[fr],[]⟩):QE Tryz.prog (.loop QdL) ⟨f,[fr],[]⟩ Q:=by
 let I:Nat→St→Prop:=fun n st=>∃f fr k,st=⟨f,[fr],[]⟩∧n=e.items.length-k∧k≤e.items.length∧ItS S e j k f fr
 have hem:=Qzq he;have heo:=hS.enums e hem;have hek:=Cj ((Ci hv).es e hem);have hl1:=heo.len1;refine Qe I _ ⟨f,fr,0,rfl,rfl,Qzl _,H⟩ ?_;clear H;rintro _ st ⟨f0,fr0,k,rfl,rfl,hk,H0,h90,h100,h110,JQ,r,H6,oP0⟩;refine QJ (a:=_) [12] JQ ?_;intro f fr hf hmm hn;have H:Kv S S.msgs.length j f fr:=H0.drop hf hmm (by decide);have h9:f 9=.int .i64 (j:Nat):=by rw[hf,h90]<;>rfl
 have h10:f 10=.ptr 0 10 0:=by rw[hf,h100]<;>rfl
 have h11:f 11=.int .i64 (k:Nat):=by rw[hf,h110]<;>rfl
 have Xk:fr 10=.cells [.str e.name,.bool e.opn,.vec 0 1102 r 0 k false,.list (e.free.map fun n=>.agg n.cells),.nils]:=by rw[hmm 10 (by decide),H6]<;>rfl
 have oP:fr 1102=.vec r 3 ((e.items.take k).map fun x=>.agg (ZA x).cells):=by rw[hmm 1102 (by decide),oP0]<;>rfl
 have n12:=hn 12 (by decide);clear hf hmm hn H0 h90 h100 h110 JQ H6 oP0;have H':=H;obtain⟨h1,h2,h4,o1,o2,g,h,o4,oR,oT⟩:=H';have hge:(S.enums.map fun n=>AV.agg n.cells)[j]? = some (.agg e.cells):=by rw[QAm,he];rfl
 rw[XJ e]at hge;simp only[Pz,Qk,QAq,Qc,hge,QAo,h1,h9,h11,o1,eE,seval];by_cases hlt:k<e.items.length
 case neg=>
  have ek:k=e.items.length:=by omega
  subst ek;simp only[QC hlt,Qa,seval];refine hq _ _ ⟨H.to ⟨(by rfl),(by rfl),(by rfl)⟩ ⟨rfl,rfl,rfl,rfl,rfl⟩,(by exact h9),(by exact h10),(by exact h11),?_,r,Xk,oP⟩;intro s hs;simp only[QAj,QAT,or_false]at hs;subst hs;rw[n12];rfl
 obtain⟨x,hx⟩:∃x,e.items[k]? = some x:=⟨e.items[k],Qzf hlt⟩;have hxo:=heo.items x (Qzq hx);have hxl:=hxo.len;have hcl:=Dl (Ck hek hx).notes;have hgi:(e.items.map fun n=>AV.agg n.cells)[k]? = some (.agg x.cells):=by rw[QAm,hx];rfl
 rw[ZL x]at hgi;have e1:=Qn k _ hlt (by simp only[maxLen];omega);have htl:(e.items.take k).length=k:=by rw[QzZ];omega
 have hc:=u18 x.notes (by omega);simp only[QA hlt,n12,PA,PC,Qk,QAq,Qc,hge,hgi,h1,h9,h10,h11,o1,Xk,eE,seval];refine aC hc ?_;simp only[eE,seval];refine Xa rfl rfl (by decide) rfl rfl ?_;simp only[nn0,QzI,Qz4,seval];refine QO (xs:=(e.items.take k).map fun x=>.agg (ZA x).cells) (by rfl) (by exact oP) rfl (by rw[QAo,htl]) (by rfl) rfl (by simp only[Qzr,QAe,maxLen];omega) (by simp only[Qzr,QAe];omega) ?_;simp only[h10,h11,Xk,e1,PD,eE,seval];refine⟨e.items.length-(k+1),by omega,_,_,k+1,rfl,rfl,by omega,H.to ⟨(by rfl),(by rfl),(by rfl)⟩ ⟨(by rfl),(by rfl),(by rfl),(by rfl),(by rfl)⟩,(by exact h9),(by exact h10),(by rfl),?_,r+1,(by rfl),?_⟩
 ·intro s hs;simp only[QAj,QAT,or_false]at hs;subst hs;rfl
 ·rw[QAx,hx,QAy,QAw];simp only[QzI,Qz4,hcl,Qa,seval]

def EhS (S:SC)(j:Nat)(f:Fr)(fr:Nat→Ob):Prop:=Kv S S.msgs.length j f fr∧f 9=.int .i64 (j:Nat)∧(∀s∈[12,10],(fr s).isRow=false)∧Qy (fr 1102)=true

include hM hS hv in
theorem MH (f:Fr)(fr:Nat→Ob)(H:EhS S 0 f fr)(Q:Exit→St→Prop)(hq:∀f fr,EhS S S.enums.length f fr→Q (.exit 4) ⟨f,[fr],[]⟩):QE Tryz.prog (.loop QdM) ⟨f,[fr],[]⟩ Q:=by
 let I:Nat→St→Prop:=fun n st=>∃f fr i,st=⟨f,[fr],[]⟩∧n=S.enums.length-i∧i≤S.enums.length∧EhS S i f fr
 have hl1:=hS.len2;refine Qe I _ ⟨f,fr,0,rfl,rfl,Qzl _,H⟩ ?_;clear H;rintro _ st ⟨f0,fr0,j,rfl,rfl,hj,H0,h90,r0,Gl⟩;refine QJ (a:=_) [12,10] r0 ?_;intro f fr hf hmm hn;have H:Kv S S.msgs.length j f fr:=H0.drop hf hmm (by decide);have h9:f 9=.int .i64 (j:Nat):=by rw[hf,h90]<;>rfl
 have n12:=hn 12 (by decide);have n10:=hn 10 (by decide);have r2:Qy (fr 1102)=true:=by rw[hmm 1102 (by decide)];exact Kw _ _ Gl
 clear hf hmm hn H0 h90 r0 Gl;have H':=H;obtain⟨h1,h2,h4,o1,o2,g,h,o4,oR,oT⟩:=H';simp only[Pw,QAo,h1,h9,o1,eE,seval];by_cases hlt:j<S.enums.length
 case neg=>
  have e:j=S.enums.length:=by omega
  subst e;simp only[QC hlt,Qa,seval];refine hq _ _ ⟨H.to ⟨(by rfl),(by rfl),(by rfl)⟩ ⟨rfl,rfl,rfl,rfl,rfl⟩,(by exact h9),fun s hs=>?_,r2⟩;simp only[QAj,QAT,or_false]at hs;rcases hs with rfl|rfl
  ·rw[n12];rfl
  ·rw[n10];rfl
 obtain⟨e,he⟩:∃x,S.enums[j]? = some x:=⟨S.enums[j],Qzf hlt⟩;have heo:=hS.enums e (Qzq he);have hel1:=heo.len1;have hel2:=heo.len2;have hge:(S.enums.map fun n=>AV.agg n.cells)[j]? = some (.agg e.cells):=by rw[QAm,he];rfl
 rw[XJ e]at hge;have e1:=Qn j _ hlt (by simp only[maxLen];omega);have htl:(S.enums.take j).length=j:=by rw[QzZ];omega
 have ha2:(e.free.map fun n=>AV.agg n.cells).all (fun e=>e.cells.length==2)=true:=by
  rw[Qzp];intro x hx;obtain⟨y,_,rfl⟩:=QAk.1 hx;rfl
 simp only[QA hlt,Px,Qk,QAq,Qc,hge,h1,h9,o1,Eg,eE,seval];refine Nc (xs:=[]) (ys:=e.free.map fun n=>.agg n.cells) (by rfl) (by rfl) rfl ha2 (by simp only[QAo,QAe,maxLen];omega) (by simp only[QAo,QAe];omega) ?_;simp only[n10,Qzy,eE,seval];refine U6 (by rfl) rfl (by exact r2) rfl ?_;simp only[Py,Qa,seval];refine MG hM S hS hv e j he _ _ ⟨H.to ⟨(by rfl),(by rfl),(by rfl)⟩ ⟨(by rfl),(by rfl),(by rfl),(by rfl),(by rfl)⟩,(by exact h9),(by rfl),(by rfl),?_,_,(by rfl),(by rfl)⟩ _ (fun f fr H=>?_)
 ·intro s hs;simp only[QAj,QAT,or_false]at hs;subst hs;simp only[n12,Qa,seval]<;>rfl
 clear h1 h2 h4 h9 o1 o2 o4 oR oT n12 n10 r2;obtain⟨H,h9,h10,h11,JQ,r,Xk,oP⟩:=H;obtain⟨h1,h2,h4,o1,o2,g,h,o4,oR,oT⟩:=H;rw[QAv]at oP;simp only[Qa,seval];refine HW Xk rfl oP (by simp) ?_;have ht:List.take e.items.length (e.items.map fun x=>AV.agg (ZA x).cells)=e.items.map fun x=>AV.agg (ZA x).cells:=QzJ (by simp)
 have eG:(XQ e).cells=[.str e.name,.bool e.opn,.list (e.items.map fun x=>.agg (ZA x).cells),.list (e.free.map fun n=>.agg n.cells),.list []]:=by
  unfold PE.cells XQ;simp only[QAA];rfl
 simp only[ht,List.set_cons_zero,List.set_cons_succ,PF,h4,h10,o4,eE,seval];refine Xa rfl rfl (by decide) rfl rfl ?_;simp only[nn0,QzI,Qz4,seval];refine QO (xs:=(S.enums.take j).map fun m=>.agg (XQ m).cells) (by rfl) (by exact oT) rfl (by rw[QAo,htl]) (by rfl) rfl (by simp only[Qzr,QAe,maxLen];omega) (by simp only[Qzr,QAe];omega) ?_;simp only[h4,h9,o4,e1,PH,eE,seval];obtain⟨a,b,o2⟩:=o2;refine⟨S.enums.length-(j+1),by omega,_,_,j+1,rfl,rfl,by omega,⟨(by exact h1),(by exact h2),(by exact h4),(by exact o1),⟨a,b,(by exact o2)⟩,g,h+1,(by rfl),(by exact oR),?_⟩,(by rfl),?_,(by rfl)⟩
 ·rw[QAx,he,QAy,QAw];simp only[QzI,Qz4,eG,Qa,seval]
 ·intro s hs;simp only[QAj,QAT,or_false]at hs;rcases hs with rfl|rfl
  ·exact JQ 12 (by decide)
  ·rfl
end

section
variable {M:Nat}(hM:M≤1048576)(S:SC)(hS:S.ok M)
include hM hS in
theorem u7 (h8:S.msgs.length≤8∧S.enums.length≤8∧S.servs.length≤8):Qu Tryz.prog 7 [S.av] (Dk S):=by
 have hv:=u10 hM S hS h8;simp only[SC.av]at hv;refine k7.fn (by simp) ?_;simp only[r7,o7,QdA,QdB,SC.av,eE,seval];refine aC hv ?_;unfold Dk;cases hs:ZF S
 ·rw[Qzj (by simp)];simp only[QdC,QAb,eE,seval]
 rw[Qzk rfl];simp only[QdD,QAD,eE,seval];refine Xb rfl rfl rfl rfl ?_;refine Xb rfl rfl rfl rfl ?_;simp only[QdE,Qa,seval];refine AE hM S hS _ _ ⟨⟨(by rfl),(by rfl),(by rfl),(by rfl),⟨_,_,rfl⟩,1,1,(by rfl),(by rfl),(by rfl)⟩,(by rfl),by intro s hs;simp only[QAj,QAT,or_false]at hs;rcases hs with rfl|rfl|rfl<;>rfl,rfl,rfl⟩ _ (fun f fr H=>?_);obtain⟨H,h5,r7,-,r2⟩:=H;simp only[Pv,Qa,seval];refine MH hM S hS hs _ _ ⟨H.to ⟨(by rfl),(by rfl),(by rfl)⟩ ⟨rfl,rfl,rfl,rfl,rfl⟩,(by rfl),fun s hs=>r7 s (by simp only[QAj,QAT,or_false]at hs ⊢;omega),r2⟩ _ (fun f fr H=>?_);obtain⟨⟨h1,h2,h4,o1,⟨a,b,o2⟩,g,h,o4,oR,oT⟩,-⟩:=H;have ht1:List.take S.msgs.length (S.msgs.map fun m=>AV.agg (XX S m).cells)=S.msgs.map fun m=>AV.agg (XX S m).cells:=QzJ (by simp)
 have ht2:List.take S.enums.length (S.enums.map fun m=>AV.agg (XQ m).cells)=S.enums.map fun m=>AV.agg (XQ m).cells:=QzJ (by simp)
 have eP:(Fj S).av=.agg [.list (S.msgs.map fun m=>.agg (XX S m).cells),.list (S.enums.map fun e=>.agg (XQ e).cells)]:=by
  unfold PL.av Fj;simp only[QAA];rfl
 rw[QAv]at oR oT;simp only[PJ,h2,h4,o2,o4,oR,oT,eP,ht1,ht2,QAo,QzQ,QzB,Qzc,Qz7,QAc,AV.un,AV.unL,eE,seval]
end

end Go.Proofs.YtaiflhahcglpgaaGreatDoor.Va

/- Parts of the proof, in order. -/
import Derived.Test.YtfgchfdkiomfpaaGreatMTagdecOnto3

set_option linter.unusedSimpArgs false
namespace Go.Proofs.YtfgchfdkiomfpaaGreat.Va
open Go Am Rc Bt Br Up So

theorem BU {x:V}:∀ {l:List V},x∈l→x.cnt≤Zc l
 |y :: l,h=>by
  rw[Zc];rcases QP0.1 h with rfl|h
  ·omega
  ·have:=BU h;omega
theorem HO {x:V×V}:∀ {l:List (V×V)},x∈l→x.1.cnt+x.2.cnt≤XK l
 |(a,b) :: l,h=>by
  rw[XK];rcases QP0.1 h with rfl|h
  ·dsimp only;omega
  ·have:=HO h;omega
theorem BW {x:Int×V}:∀ {l:List (Int×V)},x∈l→x.2.cnt≤Xx l
 |(a,b) :: l,h=>by
  rw[Xx];rcases QP0.1 h with rfl|h
  ·dsimp only;omega
  ·have:=BW h;omega
theorem Zj (v:V):1≤v.cnt:=by rw[Xd];omega
theorem BX:∀l:List V,l.length≤Zc l
 | []=>QOE _
 |x :: l=>by
  have:=Zj x;have:=BX l;simp only[Zc,QOT];omega
theorem BY:∀l:List (V×V),2*l.length≤XK l
 | []=>QOE _
 |(a,b) :: l=>by
  have:=Zj a;have:=Zj b;have:=BY l;simp only[XK,QOT];omega
theorem BZ:∀l:List (Int×V),l.length≤Xx l
 | []=>QOE _
 |(a,b) :: l=>by
  have:=Zj b;have:=BZ l;simp only[Xx,QOT];omega
theorem HP {v x:V}(h:x∈v.list):x.cnt≤v.cnt:=by have:=BU h;rw[Xd v];omega
theorem L5 {v:V}{x:V×V}(h:x∈v.pairs):x.1.cnt≤v.cnt:=by have:=HO h;rw[Xd v];omega
theorem Dz {v:V}{x:V×V}(h:x∈v.pairs):x.2.cnt≤v.cnt:=by have:=HO h;rw[Xd v];omega
theorem JH {v:V}{x:Int×V}(h:x∈v.slots):x.2.cnt≤v.cnt:=by have:=BW h;rw[Xd v];omega
theorem ZU (v:V):v.list.length≤v.cnt:=by have:=BX v.list;rw[Xd v];omega
theorem JI (v:V):v.pairs.length≤v.cnt:=by have:=BY v.pairs;rw[Xd v];omega
theorem Xi (v:V):v.slots.length≤v.cnt:=by have:=BZ v.slots;rw[Xd v];omega
theorem Zy (v:V):v.raws.length≤v.cnt:=by rw[Xd v];omega

section
variable {M:Nat}{P:PL}{m:PG→V→Prop}{nm:PG→V→V}(o:PO)(ho:UO P o)

include ho in
theorem QKB (hm:∀(t:Int) (g:PG),P.progs[t.toNat]? = some g→0≤t→∀v:V,v.ok M→v.cnt≤1048576→m g v→Qj Tryz.prog 27 [P.av,.int .i64 t,v.av] (nm g v).av)(v:V)(hv:v.ok M)(hc:v.cnt≤1048576)(he:EW m P o v) :
  Qj Tryz.prog 102 [P.av,Qy o,v.av] (ZX nm P o v).av:=by
 have e0:P.av=.agg [.list (P.progs.map Qp),.list (P.enums.map QV)]:=rfl;unfold ZX;by_cases hk:o.kind=10
 ·have b:(o.kind==10)=true:=by simp[hk]
  have he:=he hk;rw[QO9 hk];obtain⟨t0,t1⟩:=ho.tgt hk;obtain⟨g,hg⟩:∃g,P.progs[o.target.toNat]? = some g:=⟨P.progs[o.target.toNat]'(by omega),QOH (by omega)⟩;have hq:QE P o.target=g:=by unfold QE;rw[hg];rfl
  rw[hq]at he ⊢;have h2:=hm o.target g hg t0 v hv hc he;generalize nm g v=z at h2 ⊢;rw[e0,Qc,Qc]at h2;rw[Qc,Qc];refine RG.fn (by simp) ?_;simp only[e0,Qy,PO.cells,b,eE,seval];refine Qa h2 rfl rfl rfl (.inl rfl) ?_;simp only[eE,seval]
 ·have b:(o.kind==10)=false:=by simp[hk]
  rw[QOS hk];have h1:=Sl v (WH hv);generalize v.nsc=z at h1 ⊢;rw[Qc,Qc]at h1;rw[Qc,Qc];refine RG.fn (by simp) ?_;simp only[e0,Qy,PO.cells,b,eE,seval];refine Qa h1 rfl rfl rfl (.inl rfl) ?_;simp only[eE,seval]

def NlI (P:PL)(o:PO)(l:List V)(F:V→V)(k:Nat)(st:St):Prop :=
 ∃f fr i g,st=⟨f,[fr],[]⟩∧k=l.length-i∧i≤l.length∧f 3=.ptr 0 3 0∧f 4=.ptr 0 4 0∧f 6=.ptr 0 6 0∧f 7=.ptr 0 7 0∧f 19=.list (l.map V.av)∧f 20=.int .i64 (l.length:Nat)∧f 21=.int .i64 (i:Nat)∧fr 3=.cells [.list (P.progs.map Qp),.list (P.enums.map QV)]∧fr 4=.cells o.cells∧fr 6=.cells [.int .i64 0,.int .u64 0,.str [],.nils,.nils,.nils,.nils]∧fr 7=.cells [.int .i64 11,.int .u64 0,.str [],.vec 0 1100 g 0 i false,.nils,.nils,.nils]∧fr 1100=.vec g 7 ((l.take i).map fun x=>(F x).av)∧∀s∈[9],(fr s).isRow=false

def NpI (P:PL)(o:PO)(T:List (V×V))(F:V×V→V×V)(k:Nat)(st:St):Prop :=
 ∃f fr i g,st=⟨f,[fr],[]⟩∧k=T.length-i∧i≤T.length∧f 3=.ptr 0 3 0∧f 4=.ptr 0 4 0∧f 6=.ptr 0 6 0∧f 10=.ptr 0 10 0∧f 41=.list (T.map V.pav)∧f 42=.int .i64 (T.length:Nat)∧f 43=.int .i64 (i:Nat)∧fr 3=.cells [.list (P.progs.map Qp),.list (P.enums.map QV)]∧fr 4=.cells o.cells∧fr 6=.cells [.int .i64 0,.int .u64 0,.str [],.nils,.nils,.nils,.nils]∧fr 10=.cells [.int .i64 12,.int .u64 0,.str [],.nils,.vec 0 1101 g 0 i false,.nils,.nils]∧fr 1101=.vec g 14 ((T.take i).map fun x=>V.pav (F x))∧∀s∈[12],(fr s).isRow=false

theorem AD (l:List V)(F:V→V):(l.map fun x=>(F x).av)=(l.map F).map V.av:=by rw[List.map_map];rfl
theorem PX (l:List (V×V))(F:V×V→V×V):(l.map fun x=>V.pav (F x))=(l.map F).map V.pav:=by rw[List.map_map];rfl

set_option maxHeartbeats 1000000 in
include ho in
theorem v56 (hel:∀v:V,v.ok M→v.cnt≤1048576→EW m P o v→Qj Tryz.prog 102 [P.av,Qy o,v.av] (ZX nm P o v).av)(v:V)(hv:v.ok M)(hc:v.cnt≤1048576)(he:FW m P o v) :
  Qj Tryz.prog 56 [P.av,Qy o,v.av] (Jj nm P o v).av:=by
 have e0:P.av=.agg [.list (P.progs.map Qp),.list (P.enums.map QV)]:=rfl;unfold Jj;unfold FW at he;by_cases h4:o.card=4
 ·have b4:(o.card==4)=true:=by simp[h4]
  rw[QO9 h4]at he;rw[QO9 h4];have hL:=he;have hlen:=ZU v;rw[Qc v];generalize hF:ZX nm P o=F at hel ⊢;rw[show(V.mk 11 0 [] (v.list.map F) [] [] []).av=.agg [.int .i64 11,.int .u64 0,.str [],.list ((v.list.map F).map V.av),.list [],.list [],.list []]from Qc _];refine SO.fn (by simp) ?_;simp only[e0,Qy,PO.cells,b4,eE,seval];refine Jy (by simp only[Qb,seval]<;>rfl) rfl (by simp only[Qb,seval]<;>rfl) rfl ?_;simp only[List.set,QPz,eE,seval];refine Qg (NlI P o v.list F) _ ⟨_,_,0,_,rfl,rfl,QOM _,(by rfl),(by rfl),(by rfl),(by rfl),(by rfl),(by rfl),(by rfl),(by rfl),(by rfl),(by rfl),(by rfl),(by rfl),by simp<;>rfl⟩ ?_;rintro _ st ⟨f0,fr0,i,g,rfl,rfl,hil,h30,h40,h60,h70,h190,h200,h210,m30,m40,m60,m70,mR0,r9⟩;refine Q7 (a:=_) [9] r9 ?_;intro f fr hf hm hn9;have h3:f 3=.ptr 0 3 0:=by rw[hf,h30]<;>rfl
  have h4:f 4=.ptr 0 4 0:=by rw[hf,h40]<;>rfl
  have h6:f 6=.ptr 0 6 0:=by rw[hf,h60]<;>rfl
  have h7:f 7=.ptr 0 7 0:=by rw[hf,h70]<;>rfl
  have h19:f 19=.list (v.list.map V.av):=by rw[hf,h190]<;>rfl
  have h20:f 20=.int .i64 (v.list.length:Nat):=by rw[hf,h200]<;>rfl
  have h21:f 21=.int .i64 (i:Nat):=by rw[hf,h210]<;>rfl
  have m3:fr 3=.cells [.list (P.progs.map Qp),.list (P.enums.map QV)]:=by rw[hm 3 (by decide),m30]<;>rfl
  have m4:fr 4=.cells o.cells:=by rw[hm 4 (by decide),m40]<;>rfl
  have m6:fr 6=.cells [.int .i64 0,.int .u64 0,.str [],.nils,.nils,.nils,.nils]:=by rw[hm 6 (by decide),m60]<;>rfl
  have m7:fr 7=.cells [.int .i64 11,.int .u64 0,.str [],.vec 0 1100 g 0 i false,.nils,.nils,.nils]:=by rw[hm 7 (by decide),m70]<;>rfl
  have mR:fr 1100=.vec g 7 ((v.list.take i).map fun x=>(F x).av):=by rw[hm 1100 (by decide),mR0]<;>rfl
  have n9:=hn9 9 (by decide);clear hf hm hn9 h30 h40 h60 h70 h190 h200 h210 m30 m40 m60 m70 mR0 r9;have m4':=m4;simp only[PO.cells]at m4;simp only[h20,h21,Qb,seval];by_cases hlt:i<v.list.length
  ·obtain⟨x,hi⟩:∃x,v.list[i]? = some x:=⟨v.list[i],QOH hlt⟩;have hx:=QOR hi;have hg:=R9 hi;have e1:=Qx i _ hlt (by simp only[maxLen];omega);have c1:=hel x (hv.list x hx) (QOF (HP hx) hc) (hL x hx);have hti:((v.list.take i).map fun x=>(F x).av).length=i:=by rw[QPz,QPB];omega
   have hts:(v.list.take (i+1)).map (fun x=>(F x).av)=(v.list.take i).map (fun x=>(F x).av)++[(F x).av]:=by rw[QQr,hi];simp
   generalize F x=z at c1 hts;rw[e0,Qc,Qc z]at c1;simp only[Qy,PO.cells]at c1;simp only[Qt hlt,Qm,QP7,Qf,hg,n9,h3,h4,h7,h19,h21,m3,m4,m7,eE,seval];refine Qa c1 rfl rfl rfl (.inl rfl) ?_;refine QO (l:=[z.av]) rfl rfl rfl (by rw[Qc];rfl) ?_;refine QF (site:=1100) (g:=g) (n:=i) (xs:=(v.list.take i).map fun x=>(F x).av) (ys:=[z.av]) (by rfl) (by exact mR) rfl hti.symm rfl (Dx [z]) (by simp only[QOT,QPA,maxLen];omega) (by simp only[QOT,QPA];omega) ?_;simp only[h7,h21,m7,e1,eE,seval];exact⟨v.list.length-(i+1),by omega,_,_,i+1,g+1,rfl,rfl,by omega,(by exact h3),(by exact h4),(by exact h6),(by exact h7),(by exact h19),(by exact h20),(by rfl),(by exact m3),(by exact m4'),(by exact m6),(by rfl),(by rw[hts];exact(by rfl)),by simp<;>rfl⟩
  ·have e:i=v.list.length:=by omega
   subst e;rw[QQi,AD]at mR;simp only[QS hlt,h6,h7,m6,m7,eE,seval];simp[AV.un,AV.unL,Zv,XH,mR,QPe]
 ·have b4:(o.card==4)=false:=by simp[h4]
  rw[QOS h4];by_cases h5:o.card=5
  ·have b5:(o.card==5)=true:=by simp[h5]
   rw[QOS h4,QO9 h5]at he;rw[QO9 h5];have hE:=he;have hlen:=JI v;have hk:=ho.key h5;have hkn:=Vk ho.key h5 fun p hp=>(hE.1 p hp).1
   have cp:=QKy hk v.pairs (by omega) (fun p hp=>(hE.1 p hp).1) (fun p hp=>WH (hv.keys p hp)) hE.2;have hperm:(QT o.key v.pairs).Perm v.pairs:=QW _;have hTl:(QT o.key v.pairs).length=v.pairs.length:=hperm.length_eq;have hTm:∀p∈QT o.key v.pairs,p∈v.pairs:=fun p h=>hperm.mem_iff.1 h
   generalize QT o.key v.pairs=T at *;rw[Qc v];generalize hF:(fun p:V×V=>(p.1.nsc,ZX nm P o p.2))=F;rw[show(V.mk 12 0 [] [] (T.map F) [] []).av=.agg [.int .i64 12,.int .u64 0,.str [],.list [],.list ((T.map F).map V.pav),.list [],.list []]from Qc _];refine SO.fn (by simp) ?_;simp only[e0,Qy,PO.cells,b4,b5,eE,seval];refine Jy (by simp only[Qb,seval]<;>rfl) rfl (by simp only[Qb,seval]<;>rfl) rfl ?_;simp only[List.set,eE,seval];refine Qa cp rfl rfl rfl (.inl rfl) ?_;simp only[QPz,Qb,seval];refine Qg (NpI P o T F) _ ⟨_,_,0,_,rfl,rfl,QOM _,(by rfl),(by rfl),(by rfl),(by rfl),(by rfl),(by rfl),(by rfl),(by rfl),(by rfl),(by rfl),(by rfl),(by rfl),by simp<;>rfl⟩ ?_;rintro _ st ⟨f0,fr0,i,g,rfl,rfl,hil,h30,h40,h60,h100,h410,h420,h430,m30,m40,m60,m100,mR0,Ut⟩;refine Q7 (a:=_) [12] Ut ?_;intro f fr hf hm hn12;have h3:f 3=.ptr 0 3 0:=by rw[hf,h30]<;>rfl
   have h4:f 4=.ptr 0 4 0:=by rw[hf,h40]<;>rfl
   have h6:f 6=.ptr 0 6 0:=by rw[hf,h60]<;>rfl
   have h10:f 10=.ptr 0 10 0:=by rw[hf,h100]<;>rfl
   have h41:f 41=.list (T.map V.pav):=by rw[hf,h410]<;>rfl
   have h42:f 42=.int .i64 (T.length:Nat):=by rw[hf,h420]<;>rfl
   have h43:f 43=.int .i64 (i:Nat):=by rw[hf,h430]<;>rfl
   have m3:fr 3=.cells [.list (P.progs.map Qp),.list (P.enums.map QV)]:=by rw[hm 3 (by decide),m30]<;>rfl
   have m4:fr 4=.cells o.cells:=by rw[hm 4 (by decide),m40]<;>rfl
   have m6:fr 6=.cells [.int .i64 0,.int .u64 0,.str [],.nils,.nils,.nils,.nils]:=by rw[hm 6 (by decide),m60]<;>rfl
   have m10:fr 10=.cells [.int .i64 12,.int .u64 0,.str [],.nils,.vec 0 1101 g 0 i false,.nils,.nils]:=by rw[hm 10 (by decide),m100]<;>rfl
   have mR:fr 1101=.vec g 14 ((T.take i).map fun x=>V.pav (F x)):=by rw[hm 1101 (by decide),mR0]<;>rfl
   have n12:=hn12 12 (by decide);clear hf hm hn12 h30 h40 h60 h100 h410 h420 h430 m30 m40 m60 m100 mR0 Ut;have m4':=m4;simp only[PO.cells]at m4;simp only[h42,h43,Qb,seval];by_cases hlt:i<T.length
   ·obtain⟨x,hi⟩:∃x,T[i]? = some x:=⟨T[i],QOH hlt⟩;have hx:=hTm x (QOR hi);have hg:=Ke hi;have e1:=Qx i _ hlt (by simp only[maxLen];omega);have c0:=Sl x.1 (WH (hv.keys x hx));have c1:=hel x.2 (hv.vals x hx) (QOF (Dz hx) hc) (hE.1 x hx).2;have hti:((T.take i).map fun x=>V.pav (F x)).length=i:=by rw[QPz,QPB];omega
    have hFx:F x=(x.1.nsc,ZX nm P o x.2):=by rw[←hF]
    have hts:(T.take (i+1)).map (fun x=>V.pav (F x))=(T.take i).map (fun x=>V.pav (F x))++[V.pav (x.1.nsc,ZX nm P o x.2)]:=by rw[QQr,hi,←hFx];simp
    generalize x.1.nsc=y at c0 hts;generalize ZX nm P o x.2=z at c1 hts;rw[Qc,Qc y]at c0;rw[e0,Qc,Qc z]at c1;simp only[Qy,PO.cells]at c1;simp only[Qt hlt,Qm,QP7,Qf,hg,n12,h10,h41,h43,m10,eE,seval];refine Qa c0 rfl rfl rfl (.inl rfl) ?_;simp only[QPd,QPg,QPn,h3,h4,m3,m4,eE,seval];refine Qa c1 rfl rfl rfl (.inl rfl) ?_;simp only[eE,seval];refine QO (l:=[V.pav (y,z)]) rfl rfl rfl (by rw[Q4];rfl) ?_;refine QF (site:=1101) (g:=g) (n:=i) (xs:=(T.take i).map fun x=>V.pav (F x)) (ys:=[V.pav (y,z)]) (by rfl) (by exact mR) rfl hti.symm rfl (XQ [(y,z)]) (by simp only[QOT,QPA,maxLen];omega) (by simp only[QOT,QPA];omega) ?_;simp only[h10,h43,m10,e1,eE,seval];exact⟨T.length-(i+1),by omega,_,_,i+1,g+1,rfl,rfl,by omega,(by exact h3),(by exact h4),(by exact h6),(by exact h10),(by exact h41),(by exact h42),(by rfl),(by exact m3),(by exact m4'),(by exact m6),(by rfl),(by rw[hts];exact(by rfl)),by simp<;>rfl⟩
   ·have e:i=T.length:=by omega
    subst e;rw[QQi,PX]at mR;simp only[QS hlt,h6,h10,m6,m10,eE,seval];simp[AV.un,AV.unL,Zv,XH,mR,QPe]
  ·have b5:(o.card==5)=false:=by simp[h5]
   rw[QOS h4,QOS h5]at he;rw[QOS h5];have c1:=hel v hv hc he;generalize ZX nm P o v=z at c1 ⊢;rw[e0,Qc v,Qc z]at c1;simp only[Qy,PO.cells]at c1;rw[Qc v,Qc z];refine SO.fn (by simp) ?_;simp only[e0,Qy,PO.cells,b4,b5,eE,seval];refine Qa c1 rfl rfl rfl (.inl rfl) ?_;simp only[eE,seval]

end
open Vp Cp

theorem Xa (k:Int)(b:Nat)(t:List UInt8):(Qs k b t).cnt=1:=by unfold Qs;rw[Xd];rfl
theorem XA {M:Nat}{k:Int}{b:Nat}{t:List UInt8}(hk:(Lit.int .i64 k).wf=true)(hb:b<18446744073709551616)(ht:t.length≤M):(Qs k b t).ok M :=
 .mk hk (by simp[Qs,V.bits,Lit.wf,IntKind.min,IntKind.max,IntKind.bits,IntKind.signed];omega) ht (QOM _) (QOM _) (QOM _) (QOM _) (fun _ hx=>nomatch hx) (fun _ hx=>nomatch hx) (fun _ hx=>nomatch hx) (fun _ hx=>nomatch hx) (fun _ hx=>nomatch hx) (fun _ hx=>nomatch hx)
theorem ZV {k:Int}(h : -9223372036854775808≤k)(h':k<9223372036854775808):(Lit.int .i64 k).wf=true:=by
 simp[Lit.wf,IntKind.min,IntKind.max,IntKind.bits,IntKind.signed];omega

theorem Xn {v:V}{n:Int}{x:V}(h:Xq v n=some x):(n,x)∈v.slots∧QL v n=x:=by
 unfold Xq at h;cases hf:v.slots.find? (fun s=>s.1==n)with
 |none=>rw[hf]at h;cases h
 |some s=>
  rw[hf]at h;cases h;have h1:=QQB hf;have h2:s.1=n:=by simpa using List.find?_some hf
  refine⟨?_,by unfold QL Xq;rw[hf];rfl⟩;rw[←h2];exact h1
theorem Zo {v:V}{n:Int}(h:¬(Xq v n).isSome=true):QL v n=Qs 0 0 []:=by
 unfold QL;cases hf:Xq v n with
 |none=>rfl
 |some x=>rw[hf]at h;simp at h

theorem Ys (p:Int×V→Bool):∀l:List (Int×V),Xx (l.filter p)≤Xx l
 | []=>QOE _
 |(n,x) :: l=>by
  have:=Ys p l;rw[QQg];split<;>simp only[Xx]<;>omega
theorem D4 {p:Int×V→Bool}{s:Int×V}(hp:p s=false):∀ {l:List (Int×V)},s∈l→Xx (l.filter p)+s.2.cnt≤Xx l
 |(n,x) :: l,h=>by
  have hf:=Ys p l;rcases QP0.1 h with rfl|h
  ·rw[QQg,hp];simp only[QOX,if_false,Xx];omega
  ·have ih:=D4 hp h;rw[QQg];split<;>simp only[Xx]<;>omega
theorem PY (g:PG)(o:PO)(x:V):Xs g o (o.num,x)=true:=by unfold Xs;simp
theorem JJ (g:PG)(v:V)(o:PO)(x:V):(Xg g v o x).cnt≤v.cnt+x.cnt:=by
 have:=Ys (fun s=>!Xs g o s) v.slots;rw[Xd v,Xd (Xg g v o x)];show 1+v.raws.length+0+0+Xx (v.slots.filter (fun s=>!Xs g o s)++[(o.num,x)])≤_;rw[HK];simp only[Xx];omega
theorem Yi (g:PG)(v:V)(o:PO)(x:V){y:V}(h:Xq v o.num=some y):(Xg g v o x).cnt+y.cnt≤v.cnt+x.cnt:=by
 have:=D4 (p:=fun s=>!Xs g o s) (s:=(o.num,y)) (by rw[PY];rfl) (Xn h).1;rw[Xd v,Xd (Xg g v o x)];show 1+v.raws.length+0+0+Xx (v.slots.filter (fun s=>!Xs g o s)++[(o.num,x)])+_≤_;rw[HK];simp only[Xx];dsimp only at this;omega
theorem U7 (v:V)(f:R):(Wf v f).cnt=v.cnt+1:=by
 rw[Xd v,Xd (Wf v f)];show 1+(v.raws++[f]).length+Zc v.list+XK v.pairs+Xx v.slots=_;rw[QPi];simp only[QOT,QPA];omega
theorem Kh (l:List V):(Q5 l).cnt=1+Zc l:=by unfold Q5;rw[Xd];show 1+0+Zc l+0+0=_;omega
theorem B0 (l:List (V×V)):(Z7 l).cnt=1+XK l:=by unfold Z7;rw[Xd];show 1+0+0+XK l+0=_;omega
theorem WE (l:List V)(x:V):Zc (l++[x])=Zc l+x.cnt:=by
 induction l with
 |nil=>simp[Zc]
 |cons y l ih=>simp only[QO0,Zc,ih];omega
theorem CX (l:List (V×V))(x:V×V):XK (l++[x])=XK l+x.1.cnt+x.2.cnt:=by
 induction l with
 |nil=>obtain⟨a,b⟩:=x;simp[XK]
 |cons y l ih=>obtain⟨a,b⟩:=y;simp only[QO0,XK,ih];omega
theorem Hp (p:V×V→Bool):∀l:List (V×V),XK (l.filter p)≤XK l
 | []=>QOE _
 |(a,b) :: l=>by
  have:=Hp p l;rw[QQg];split<;>simp only[XK]<;>omega
theorem Sm (k:Int)(l:List (V×V))(x:V×V):XK (Xy k l x)≤XK l+x.1.cnt+x.2.cnt:=by
 unfold Xy;have hp:(QT k ((l.filter fun q=>!Q0 q.1 x.1)++[x])).Perm _:=QW _;rw[DV hp,CX];have:=Hp (fun q=>!Q0 q.1 x.1) l;omega
theorem B1 {k:Int}{l:List (V×V)}{x p:V×V}(h:p∈Xy k l x):(p∈l∧Q0 p.1 x.1=false)∨p=x:=by
 have hp:(Xy k l x).Perm _:=QW _;have h:=hp.mem_iff.1 h;rw[QPX,QQc]at h;rcases h with⟨h1,h2⟩|h
 ·exact .inl ⟨h1,by simpa using h2⟩
 ·exact .inr (by simpa using h)
theorem K2 (a b:V):Q0 a b=Q0 b a:=by
 unfold Q0;rw[Bool.beq_comm (a:=a.bits),Bool.beq_comm (a:=a.text)]
theorem Vs {k:Int}{l:List (V×V)}{x:V×V}(h:l.Pairwise fun q p=>Q0 q.1 p.1=false):(Xy k l x).Pairwise fun q p=>Q0 q.1 p.1=false:=by
 have hp:(Xy k l x).Perm _:=QW _;refine(hp.pairwise_iff fun {a b} h=>by rw[K2];exact h).2 ?_;rw[QQf];refine⟨h.filter _,QQD _ _,?_⟩;intro a ha b hb;rw[QQC]at hb;subst hb
 simpa using (QQc.1 ha).2
theorem Sn (k:Int)(l:List (V×V))(x:V×V):(Xy k l x).length≤l.length+1:=by
 have hp:(Xy k l x).Perm _:=QW _;rw[hp.length_eq,QPi];have:=List.length_filter_le (fun q=>!Q0 q.1 x.1) l;simp only[QOT,QPA];omega

section
variable {M:Nat}
theorem WI {l:List V}(h:∀x∈l,x.ok M)(hn:l.length≤1099511627776):(Q5 l).ok M :=
 .mk rfl rfl (QOM _) hn (QOM _) (QOM _) (QOM _) h (fun _ hx=>nomatch hx) (fun _ hx=>nomatch hx) (fun _ hx=>nomatch hx) (fun _ hx=>nomatch hx) (fun _ hx=>nomatch hx)
theorem L6 {l:List (V×V)}(h:∀x∈l,x.1.ok M∧x.2.ok M)(hn:l.length≤549755813888):(Z7 l).ok M :=
 .mk rfl rfl (QOM _) (QOM _) hn (QOM _) (QOM _) (fun _ hx=>nomatch hx) (fun x hx=>(h x hx).1) (fun x hx=>(h x hx).2) (fun _ hx=>nomatch hx) (fun _ hx=>nomatch hx) (fun _ hx=>nomatch hx)
theorem Jo {g:PG}{v x:V}{o:PO}(hv:v.ok M)(ho:(Lit.int .i64 o.num).wf=true)(hx:x.ok M)(hn:v.slots.length+1≤1099511627776):(Xg g v o x).ok M:=by
 have hl:=List.length_filter_le (fun s=>!Xs g o s) v.slots;have key:∀s∈v.slots.filter (fun s=>!Xs g o s)++[(o.num,x)],(Lit.int .i64 s.1).wf=true∧s.2.ok M:=by
  intro s hs;rcases QPX.1 hs with hs|hs
  ·have:=(QQc.1 hs).1;exact⟨hv.nums s this,hv.slots s this⟩
  ·rw[QQC]at hs;subst hs;exact⟨ho,hx⟩
 refine .mk rfl rfl (QOM _) (QOM _) (QOM _) ?_ hv.nr (fun _ hx=>nomatch hx) (fun _ hx=>nomatch hx) (fun _ hx=>nomatch hx) (fun s hs=>(key s hs).1) (fun s hs=>(key s hs).2) hv.raws;show(v.slots.filter (fun s=>!Xs g o s)++[(o.num,x)]).length≤_;rw[QPi];simp only[QOT,QPA];omega
theorem GZ {v:V}{f:R}(hv:v.ok M)(hf:f.ok M)(hn:v.raws.length+1≤70368744177664):(Wf v f).ok M:=by
 refine .mk hv.kd hv.bits hv.text hv.nl hv.np hv.ns ?_ hv.list hv.keys hv.vals hv.nums hv.slots ?_
 ·show(v.raws++[f]).length≤_;rw[QPi];exact hn
 ·intro x hx;rcases QPX.1 hx with hx|hx
  ·exact hv.raws x hx
  ·rw[QQC]at hx;subst hx;exact hf
theorem W2 {v:V}{n:Int}(hv:v.ok M):(QL v n).ok M:=by
 unfold QL;cases h:Xq v n with
 |none=>exact XA rfl (by decide) (QOM _)
 |some x=>exact hv.slots _ (Xn h).1
end

theorem G0 {P:PL}{g:PG}{v:V}{f:R}:∀ {n:Nat},MW P n g v→MW P n g (Wf v f)
 |_+1,h=>h
theorem Jp {P:PL}{g:PG}{v x:V}{o:PO}{n:Nat}(h:MW P (n+1) g v)(ho:XL g o.num=some o)(hx:FW (MW P n) P o x):MW P (n+1) g (Xg g v o x):=by
 obtain⟨s1,s2⟩:=h;refine⟨?_,?_⟩
 ·intro s hs;rcases QPX.1 hs with hs|hs
  ·exact s1 s (QQc.1 hs).1
  ·rw[QQC]at hs;subst hs;exact⟨o,ho,hx⟩
 ·show(v.slots.filter (fun s=>!Xs g o s)++[(o.num,x)]).Pairwise _;rw[QQf];refine⟨s2.filter _,QQD _ _,?_⟩;intro a ha b hb;rw[QQC]at hb;subst hb;have h1:=(QQc.1 ha).2;unfold Xs at h1;simp only[Bool.not_or,QO2,QPC]at h1;exact h1.1
theorem W3 {P:PL}{g:PG}{v x:V}{o:PO}{n:Nat}(h:MW P (n+1) g v)(ho:XL g o.num=some o)(hx:Xq v o.num=some x):FW (MW P n) P o x:=by
 obtain⟨o',h1,h2⟩:=h.1 _ (Xn hx).1;rw[show((o.num,x):Int×V).1=o.num from rfl,ho]at h1;cases h1;exact h2
theorem XB {P:PL}{g:PG}{k:Int}{n:Nat}(hn:1≤n):MW P n g (Qs k 0 []):=by
 obtain⟨m,rfl⟩:∃m,n=m+1:=⟨n-1,by omega⟩;exact⟨fun _ hs=>(nomatch hs),.nil⟩

theorem PZ {M:Nat}{P:PL}{k t:Int}{f:R}(hM:3000≤M)(hb:f.bits<18446744073709551616)(hd:f.data.length≤3000)(h:(Q9 P k t f).2=0):(Q9 P k t f).1.ok M∧(Q9 P k t f).1.cnt=1∧k≠10∧(Xo k→(Q9 P k t f).1.one P k (-1)=0):=by
 unfold Q9 at h ⊢;split at h
 ·rename_i hk;have hkk:1≤k∧k≤9:=by
   unfold isk at hk
   simpa using hk
  have hkw:(Lit.int .i64 k).wf=true:=ZV (by omega) (by omega);rw[QO9 hk];split at h
  ·rename_i hw;rw[QO9 hw];split at h
   ·rename_i h3;rw[QO9 h3];split at h
    ·cases h
    ·rename_i h7;rw[QOS h7];refine⟨XA hkw (by decide) (by omega),Xa _ _ _,by omega,fun hky=>?_⟩;have e7:k=7:=by
      unfold Xo at hky;rw[hw]at h3;unfold wk at h3;split at h3
      ·omega
      ·split at h3
       ·omega
       ·split at h3
        ·omega
        ·split at h3<;>omega
     subst e7;have hv:Yz f.data=true:=by
      cases hv:Yz f.data
      ·exact absurd ⟨rfl,hv⟩ h7
      ·rfl
     have d1:decide ((f.data.length:Int) > 4096)=false:=QQt (by omega);have d2:decide ((f.data.length:Int)≤4096)=true:=QQx (by omega);have ho:oth 7 0 f.data [] [] [] []=false:=by simp[oth,XV]
     show Yq P 7 (-1) 7 0 f.data [] [] [] []=0;unfold Yq Zn;rw[ho,d1,d2,hv];rfl
   ·rename_i h3;rw[QOS h3];split at h
    ·rename_i hfit;rw[QO9 hfit];split at h
     ·cases h
     ·rename_i h9;rw[QOS h9];have hwb:Xr f.wire f.bits<18446744073709551616:=by
       unfold Xr;split
       ·rw[XY];omega
       ·exact hb
      have hnb:Zi k (Xr f.wire f.bits)<18446744073709551616:=by
       unfold Zi;split
       ·decide
       ·exact hwb
      refine⟨XA hkw hnb (QOM _),Xa _ _ _,by omega,fun hky=>?_⟩;have h5:1≤k∧k≤5:=by
       unfold Xo at hky;rcases hky with h|h
       ·exact h
       ·exfalso;rw[hw,h]at h3;exact h3 (by decide)
      have e6:Zi k (Xr f.wire f.bits)=Xr f.wire f.bits:=by
       unfold Zi;rw[QOS (by omega)]
      rw[e6];generalize Xr f.wire f.bits=B at hfit;show Yq P k (-1) k B [] [] [] [] []=0;unfold Yq Zn;rw[hk,hfit];have ho:oth k B [] [] [] [] []=false:=by
       rcases(by omega:k=1∨k=2∨k=3∨k=4∨k=5)with rfl|rfl|rfl|rfl|rfl<;>simp[oth,XV]
      rw[ho];have k7:(k==7)=false:=by simp;omega
      have k9:(k==9)=false:=by simp;omega
      have k7':(k != 7)=true:=by simp;omega
      have tx:XV k=false:=by unfold XV;simp;omega
      rw[k7,k9,k7',tx];simp[Wr]
    ·cases h
  ·cases h
 ·cases h

def KG (P:PL)(M K n:Nat)(rec:Int→V→C→Rd V):Prop :=
 ∀(t:Int) (v:V) (c:C),CI c→c.left<n→(0≤t∧t<(P.progs.length:Int))→MW P n (QE P t) v→v.ok M→(v.cnt:Int)+3*c.left≤K→
  ∀w d,rec t v c=.ok (w,d)→Af c d∧MW P n (QE P t) w∧w.ok M∧(w.cnt:Int)+3*d.left≤v.cnt+3*c.left

structure OpK (P:PL)(g:PG)(o:PO):Prop where
 self:XL g o.num=some o
 wf:(Lit.int .i64 o.num).wf=true
 uo:UO P o

section
variable {P:PL}{M K n:Nat}(hM:3000≤M)(hK:K≤1000000){g:PG}{o:PO}(ho:OpK P g o)

include hM hK ho in
theorem U8 {v w:V}{c d:C}(hc:CI c)(hv:MW P (n+1) g v)(hk:v.ok M)(hb:(v.cnt:Int)+3*c.left≤K)(h5:o.card≠5)(h:WW P g v o c=.ok (w,d)) :
  As c d∧MW P (n+1) g w∧w.ok M∧(w.cnt:Int)+3*d.left≤v.cnt+3*c.left:=by
 have ls:=Xi v;have lr:=Zy v;have hcb:=hc.bd;unfold WW at h;split at h
 ·cases h
 rename_i c1 h1;obtain⟨a1,_⟩:=XW hc (by omega) h1;have hc1:=a1.ci hc;split at h
 ·cases h
 rename_i f d1 h2;obtain⟨b1,b2,b3,b4⟩:=WY hc1 h2;have hs:=a1.strict b1 hc;have hd1:=hs.ci hc;have hl:=hs.lt hc;split at h
 ·cases h;have hr:(⟨o.num,0,f.bits,[]⟩:R).ok M:=⟨ho.wf,rfl,by simp[Lit.wf,IntKind.min,IntKind.max,IntKind.bits,IntKind.signed];omega,QOM _⟩;exact⟨hs,G0 hv,GZ hk hr (by omega),by rw[U7];omega⟩
 split at h
 ·rename_i h0;obtain⟨s1,s2,s3,_⟩:=PZ (P:=P) (t:=o.target) hM b3 b4 h0;have hew:∀y,EW (MW P n) P o y:=fun y e=>absurd e s3
  generalize (Q9 P o.kind o.target f).1=x at h s1 s2;split at h
  ·rename_i h4;have hfw:FW (MW P n) P o (Q5 ((QL v o.num).list++[x])):=by
    unfold FW;rw[QO9 h4];exact fun y _=>hew y
   have hol:=W2 (n:=o.num) hk;have hll:=ZU (QL v o.num);split at h
   ·rename_i hf;cases h;obtain⟨y,hy⟩:=QO4.1 hf;obtain⟨hm,he⟩:=Xn hy;have hyc:=JH hm;dsimp only at hyc;have e1:=Yi g v o (Q5 ((QL v o.num).list++[x])) hy;rw[Kh,WE,s2]at e1;have e2:Zc (QL v o.num).list+1≤y.cnt:=by rw[he,Xd y];omega
    rw[he]at hll;refine⟨hs,Jp hv ho.self hfw,Jo hk ho.wf (WI ?_ ?_) (by omega),by omega⟩
    ·intro z hz;rcases QPX.1 hz with hz|hz
     ·exact hol.list z hz
     ·rw[QQC]at hz;subst hz;exact s1
    ·rw[QPi,he];simp only[QOT,QPA];omega
   ·rename_i hf;split at h
    ·cases h
    rename_i d2 h6;cases h;obtain⟨c2,_⟩:=XW hd1 (by omega) h6;have hl2:=(c2.left hd1).2.2;rw[Zo hf];rw[Zo hf]at hfw;have e1:=JJ g v o (Q5 ((Qs 0 0 []).list++[x]));rw[Kh,WE,s2]at e1;have e0:Zc (Qs 0 0 []).list=0:=rfl;refine⟨hs.trans c2 hc,Jp hv ho.self hfw,Jo hk ho.wf (WI ?_ (show 1≤1099511627776 by decide)) (by omega),by omega⟩;intro z hz;rcases QPX.1 hz with hz|hz
    ·cases hz
    ·rw[QQC]at hz;subst hz;exact s1
  ·rename_i h4;cases h;have hfw:FW (MW P n) P o x:=by
    unfold FW;rw[QOS h4,QOS h5];exact hew x
   have e1:=JJ g v o x;rw[s2]at e1;exact⟨hs,Jp hv ho.self hfw,Jo hk ho.wf s1 (by omega),by omega⟩
 ·cases h

include hM hK ho in
theorem B2 (h5:o.card≠5):∀(k:Nat) {v w:V} {c d:C},CI c→MW P (n+1) g v→v.ok M→(v.cnt:Int)+3*c.left≤K→K6 P g o k v c=.ok (w,d)→
  Af c d∧MW P (n+1) g w∧w.ok M∧(w.cnt:Int)+3*d.left≤v.cnt+3*c.left
 |0,v,w,c,d,hc,hv,hk,hb,h=>by
  cases h;exact⟨Af.refl hc,hv,hk,Int.le_refl _⟩
 |k+1,v,w,c,d,hc,hv,hk,hb,h=>by
  rw[K6]at h;split at h
  ·split at h
   ·cases h
   rename_i v1 c1 h1;obtain⟨a1,a2,a3,a4⟩:=U8 hM hK ho hc hv hk hb h5 h1;obtain⟨b1,b2,b3,b4⟩:=B2 h5 k (a1.ci hc) a2 a3 (by omega) h;exact⟨a1.1.trans b1 hc,b2,b3,by omega⟩
  ·cases h;exact⟨Af.refl hc,hv,hk,Int.le_refl _⟩

include hM hK ho in
theorem D5 {v w:V}{c d e:C}{q:Nat}(hc:CI c)(hq:(q:Int)≤c.left)(hd:Af (part c q) d)(hv:MW P (n+1) g v)(hk:v.ok M)(hb:(v.cnt:Int)+3*d.left≤K)(h5:o.card≠5)(h:Wg P g v o c d=.ok (w,e)) :
  Af c e∧e.left=c.left-q∧MW P (n+1) g w∧w.ok M∧(w.cnt:Int)≤v.cnt+3*d.left:=by
 unfold Wg at h;split at h
 ·cases h
 rename_i v1 j h1;cases h;have hp:=Kq hc hq;obtain⟨a1,a2,a3,a4⟩:=B2 hM hK ho h5 _ (hd.ci hp.2.1) hv hk hb h1;obtain⟨b1,b2⟩:=D3 hc hq (hd.trans a1 hp.2.1);have:=((a1.ci (hd.ci hp.2.1))).bd;exact⟨b1,b2,a2,a3,by omega⟩

include hM hK ho in
theorem Sp {v w:V}{c d:C}(hc:CI c)(hv:MW P (n+1) g v)(hk:v.ok M)(hb:(v.cnt:Int)+3*c.left≤K)(hp:pk o.card o.kind=true)(h:Yg P g v o c=.ok (w,d)) :
  As c d∧MW P (n+1) g w∧w.ok M∧(w.cnt:Int)+3*d.left≤v.cnt+3*c.left:=by
 have ls:=Xi v;have hcb:=hc.bd;have h4:o.card=4:=by
  unfold pk at hp;simp only[QO2,QO5]at hp;exact hp.1
 have hk10:o.kind≠10:=by
  unfold pk at hp;simp only[QO2,QPE,QO5,QP1]at hp;omega
 unfold Yg at h;split at h
 ·cases h
 rename_i q c1 h1;obtain⟨a1,a2⟩:=Jl hc h1;have hc1:=a1.ci hc;obtain⟨_,p2,p3⟩:=Kq hc1 a2;have hl1:=a1.lt hc;have hc1b:=hc1.bd;split at h
 ·rename_i hy;obtain⟨y1,_⟩:=Dw p2 hy;have hly:=y1.lt p2;split at h
  ·split at h
   ·obtain⟨b1,b2,b3,b4,b5⟩:=D5 hM hK ho hc1 a2 y1.1 hv hk (by omega) (by omega) h;exact⟨a1.trans b1 hc,b3,b4,by omega⟩
   ·split at h
    ·cases h
    rename_i i h2;obtain⟨s1,_⟩:=XW (y1.ci p2) (by omega) h2;have hls:=(s1.left (y1.ci p2)).2.2;have hfw:FW (MW P n) P o (Q5 []):=by
     unfold FW;rw[QO9 h4];exact fun y hy=>(nomatch hy)
    have e1:=JJ g v o (Q5 []);rw[Kh]at e1;simp only[Zc]at e1;obtain⟨b1,b2,b3,b4,b5⟩:=D5 hM hK ho hc1 a2 (y1.1.trans s1 p2) (Jp hv ho.self hfw) (Jo hk ho.wf (WI (fun y hy=>(nomatch hy)) (QOM _)) (by omega)) (by omega) (by omega) h;exact⟨a1.trans b1 hc,b3,b4,by omega⟩
  ·cases h
 ·cases h

variable {rec:Int→V→C→Rd V}(hrec:KG P M K n rec)

include hrec in
theorem G3 {t:Int}(ht:0≤t∧t<(P.progs.length:Int)){b w:V}{k:Int}(hk0:0≤k){c d:C}(hc:CI c)(hcn:c.left≤n)(hv:1≤n→MW P n (QE P t) b)(hk:b.ok M)(hb:(b.cnt:Int)+3*c.left≤K)(h:Je rec t b k c=.ok (w,d)) :
  As c d∧MW P n (QE P t) w∧w.ok M∧(w.cnt:Int)+3*d.left+3≤b.cnt+3*c.left:=by
 unfold Je at h;split at h
 ·cases h
 rename_i q c1 h1;obtain⟨a1,a2⟩:=Jl hc h1;have hc1:=a1.ci hc;have hl1:=a1.lt hc;have hc1b:=hc1.bd;split at h
 ·rename_i he;obtain⟨e1,e2,e3⟩:=HN hc1 a2 he;split at h
  ·cases h
  rename_i i h2;obtain⟨s1,s2⟩:=XW e2 hk0 h2;have hls:=(s1.left e2).2.2;split at h
  ·cases h
  rename_i x j h3;cases h;have hi:=s1.ci e2;have hib:=hi.bd;obtain⟨r1,r2,r3,r4⟩:=hrec t b i hi (by omega) ht (hv (by omega)) hk (by omega) _ _ h3;have hje:i.e=c1.a+q∧i.nd≤c1.nd:=by
   obtain⟨_,f2,_⟩:=s1.eqs;have f3:=s1.nd;rw[e1]at f2 f3;exact⟨f2,f3.2⟩
  obtain⟨l1,l2⟩:=Sf hc1 a2 hje r1;have hjb:=(r1.ci hi).bd;exact⟨a1.trans l1 hc,r2,r3,by omega⟩
 ·cases h

include hK ho hrec in
theorem Sq {v w:V}{c d:C}(hc:CI c)(hcn:c.left≤n)(hv:MW P (n+1) g v)(hk:v.ok M)(hb:(v.cnt:Int)+3*c.left≤K)(h5:o.card≠5)(h10:o.kind=10)(h:Ju rec g v o c=.ok (w,d))(hpos:(1:Int)+3*c.left≤K) :
  As c d∧MW P (n+1) g w∧w.ok M∧(w.cnt:Int)+3*d.left≤v.cnt+3*c.left:=by
 have ls:=Xi v;have hcb:=hc.bd;have ht:=ho.uo.tgt h10;have hem:(Qs 10 0 []:V).ok M:=XA rfl (by decide) (QOM _);have hol:=W2 (n:=o.num) hk;have hll:=ZU (QL v o.num);unfold Ju at h;split at h
 ·rename_i h4;split at h
  ·cases h
  rename_i x c1 h1;cases h;obtain⟨r1,r2,r3,r4⟩:=G3 hrec ht (by split<;>omega) hc hcn (fun hn=>XB hn) hem (by rw[Xa];omega) h1;rw[Xa]at r4;have hlc:=r1.lt hc;have hc1b:=(r1.ci hc).bd;have hfw:FW (MW P n) P o (Q5 ((QL v o.num).list++[x])):=by
   unfold FW;rw[QO9 h4];intro y hy;rcases QPX.1 hy with hy|hy
   ·cases hf:Xq v o.num with
    |none=>
     rw[Zo (by rw[hf];simp)]at hy;cases hy
    |some z=>
     have h1:=W3 hv ho.self hf;unfold FW at h1;rw[QO9 h4]at h1;rw[(Xn hf).2]at hy;exact h1 y hy
   ·rw[QQC]at hy;subst hy;exact fun _=>r2
  have hlok:(Q5 ((QL v o.num).list++[x])).ok M:=by
   refine WI ?_ ?_
   ·intro z hz;rcases QPX.1 hz with hz|hz
    ·exact hol.list z hz
    ·rw[QQC]at hz;subst hz;exact r3
   ·have:=hol.nl;rw[QPi];have hoc:(QL v o.num).cnt≤v.cnt+1:=by
     cases hf:Xq v o.num with
     |none=>rw[Zo (by rw[hf];simp),Xa];omega
     |some z=>
      have:=JH (Xn hf).1;rw[(Xn hf).2];dsimp only at this;omega
    simp only[QOT,QPA];omega
  refine⟨r1,Jp hv ho.self hfw,Jo hk ho.wf hlok (by omega),?_⟩;cases hf:Xq v o.num with
  |none=>
   have e1:=JJ g v o (Q5 ((QL v o.num).list++[x]));rw[Kh,WE]at e1;have e0:Zc (QL v o.num).list=0:=by rw[Zo (by rw[hf];simp)];rfl
   omega
  |some z=>
   have e1:=Yi g v o (Q5 ((QL v o.num).list++[x])) hf;rw[Kh,WE]at e1;have e2:Zc (QL v o.num).list+1≤z.cnt:=by rw[(Xn hf).2,Xd z];omega
   omega
 ·rename_i h4;split at h
  ·cases h
  rename_i x c1 h1;cases h;cases hf:Xq v o.num with
  |none=>
   rw[hf,QOS (by simp)]at h1;obtain⟨r1,r2,r3,r4⟩:=G3 hrec ht (by omega) hc hcn (fun hn=>XB hn) hem (by rw[Xa];omega) h1;rw[Xa]at r4;have hfw:FW (MW P n) P o x:=by
    unfold FW;rw[QOS h4,QOS h5];exact fun _=>r2
   have e1:=JJ g v o x;exact⟨r1,Jp hv ho.self hfw,Jo hk ho.wf r3 (by omega),by omega⟩
  |some z=>
   rw[hf,QO9 (show(some z).isSome=true from rfl),(Xn hf).2]at h1;have hz:=JH (Xn hf).1;dsimp only at hz;have h2:=W3 hv ho.self hf;unfold FW at h2;rw[QOS h4,QOS h5]at h2;obtain⟨r1,r2,r3,r4⟩:=G3 hrec ht (by omega) hc hcn (fun _=>h2 h10) (hk.slots _ (Xn hf).1) (by omega) h1;have hfw:FW (MW P n) P o x:=by
    unfold FW;rw[QOS h4,QOS h5];exact fun _=>r2
   have e1:=Yi g v o x hf;exact⟨r1,Jp hv ho.self hfw,Jo hk ho.wf r3 (by omega),by omega⟩

include hM hrec in
theorem JK {k t wr:Int}(ht:k=10→0≤t∧t<(P.progs.length:Int)){y:V}{c d:C}(hc:CI c)(hcn:c.left≤n)(hb:(1:Int)+3*c.left≤K)(h:ZE P rec k t wr c=.ok (y,d)) :
  As c d∧y.ok M∧(y.cnt:Int)+3*d.left+2≤3*c.left∧(k=10→MW P n (QE P t) y)∧(Xo k→y.one P k (-1)=0):=by
 unfold ZE at h;split at h
 ·split at h
  ·rename_i hk;obtain⟨r1,r2,r3,r4⟩:=G3 hrec (ht hk) (Int.le_refl 0) hc hcn (fun hn=>XB hn) (XA rfl (by decide) (QOM _)) (by rw[Xa];omega) h;rw[Xa]at r4;exact⟨r1,r3,by omega,fun _=>r2,fun hy=>by unfold Xo at hy;omega⟩
  ·rename_i hk;split at h
   ·cases h
   rename_i f c1 h1;obtain⟨b1,b2,b3,b4⟩:=WY hc h1;have hl:=b1.lt hc;split at h
   ·rename_i h0;cases h;obtain⟨s1,s2,s3,s4⟩:=PZ (P:=P) (t:=t) hM b3 b4 h0;exact⟨b1,s1,by omega,fun e=>absurd e hk,s4⟩
   ·cases h
 ·cases h

structure XI (P:PL)(M n:Nat)(o:PO)(x:V×V):Prop where
 ky:x.1.ok M
 vl:x.2.ok M
 one:x.1.one P o.key (-1)=0
 ew:1≤n→EW (MW P n) P o x.2

include hM ho hrec in
theorem K3 (h5:o.card=5):∀(k:Nat) {x y:V×V} {a b:Bool} {c d:C},CI c→c.left≤n→(1:Int)+3*c.left≤K→XI P M n o x→Jg P rec o k x a b c=.ok (y,d)→
  Af c d∧XI P M n o y∧(y.1.cnt:Int)+y.2.cnt+3*d.left≤x.1.cnt+x.2.cnt+3*c.left
 |0,x,y,a,b,c,d,hc,hcn,hb,hx,h=>by
  cases h;exact⟨Af.refl hc,hx,Int.le_refl _⟩
 |k+1,x,y,a,b,c,d,hc,hcn,hb,hx,h=>by
  have hky:=ho.uo.key h5;have hk10:o.key≠10:=by unfold Xo at hky;omega
  rw[Jg]at h;split at h
  ·split at h
   ·rename_i htg;obtain⟨t1,_⟩:=Wh hc htg;have hl:=t1.lt hc;have hct:=t1.ci hc;split at h
    ·split at h
     ·cases h
     split at h
     ·cases h
     rename_i z c1 h1;obtain⟨r1,r2,r3,r4,r5⟩:=JK hM hrec (fun e=>absurd e hk10) hct (by omega) (by omega) h1;have hl1:=r1.lt hct;obtain⟨q1,q2,q3⟩:=K3 h5 k (x:=(z,x.2)) (r1.ci hct) (by omega) (by omega) ⟨r2,hx.vl,r5 hky,hx.ew⟩ h;have:=Zj x.1;refine⟨(t1.1.trans r1.1 hc).trans q1 hc,q2,?_⟩;dsimp only at q3;omega
    ·split at h
     ·split at h
      ·cases h
      split at h
      ·cases h
      rename_i z c1 h1;obtain⟨r1,r2,r3,r4,r5⟩:=JK hM hrec ho.uo.tgt hct (by omega) (by omega) h1;have hl1:=r1.lt hct;obtain⟨q1,q2,q3⟩:=K3 h5 k (x:=(x.1,z)) (r1.ci hct) (by omega) (by omega) ⟨hx.ky,r2,hx.one,fun _ e=>r4 e⟩ h;have:=Zj x.2;refine⟨(t1.1.trans r1.1 hc).trans q1 hc,q2,?_⟩;dsimp only at q3;omega
     ·cases h
   ·cases h
  ·cases h;exact⟨Af.refl hc,hx,Int.le_refl _⟩

theorem HQ {k:Int}(hk:Xo k):(Qs k 0 []).one P k (-1)=0:=by
 unfold Xo at hk;show Yq P k (-1) k 0 [] [] [] [] []=0;rcases(by omega:k=1∨k=2∨k=3∨k=4∨k=5∨k=7)with rfl|rfl|rfl|rfl|rfl|rfl<;>rfl

include hM hK ho hrec in
theorem P0 (h5:o.card=5)(hkd:(Lit.int .i64 o.kind).wf=true){v w:V}{c d:C}(hc:CI c)(hcn:c.left≤n)(hv:MW P (n+1) g v)(hk:v.ok M)(hb:(v.cnt:Int)+3*c.left+3≤K)(h:Jk P rec g v o c=.ok (w,d)) :
  As c d∧MW P (n+1) g w∧w.ok M∧(w.cnt:Int)+3*d.left≤v.cnt+3*c.left:=by
 have ls:=Xi v;have hcb:=hc.bd;have hky:=ho.uo.key h5;unfold Jk at h;split at h
 ·cases h
 rename_i q c1 h1;obtain⟨a1,a2⟩:=Jl hc h1;have hc1:=a1.ci hc;have hl1:=a1.lt hc;have hc1b:=hc1.bd;obtain⟨_,p2,p3⟩:=Kq hc1 a2;split at h
 ·cases h
 rename_i i h2;obtain⟨s1,_⟩:=XW p2 (by split<;>omega) h2;have hls:=(s1.left p2).2.2;split at h
 ·cases h
 rename_i x j h3;cases h;have hcv:=Zj v;have hx0:XI P M n o (Qs o.key 0 [],Qs o.kind 0 []):=by
  refine⟨XA ?_ (by decide) (QOM _),XA hkd (by decide) (QOM _),HQ hky,fun hn e=>XB hn⟩;unfold Xo at hky;exact ZV (by omega) (by omega)
 obtain⟨r1,r2,r3⟩:=K3 hM ho hrec h5 _ (s1.ci p2) (by omega) (by omega) hx0 h3;rw[Xa,Xa]at r3;obtain⟨b1,b2⟩:=D3 hc1 a2 (s1.trans r1 p2);have hjb:=(r1.ci (s1.ci p2)).bd;have hol:=W2 (n:=o.num) hk;have hn1:1≤n:=by omega
 -- the entries
 have hpo:(∀p∈(QL v o.num).pairs,p.1.one P o.key (-1)=0∧EW (MW P n) P o p.2)∧(QL v o.num).pairs.Pairwise fun q p=>Q0 q.1 p.1=false:=by
  cases hf:Xq v o.num with
  |none=>
   rw[Zo (by rw[hf];simp)];exact⟨fun p hp=>(nomatch hp),.nil⟩
  |some z=>
   have h4:=W3 hv ho.self hf;unfold FW at h4;rw[QOS (by omega),QO9 h5]at h4;rw[(Xn hf).2];exact h4
 have hoc:(QL v o.num).cnt≤v.cnt+1:=by
  cases hf:Xq v o.num with
  |none=>rw[Zo (by rw[hf];simp),Xa];omega
  |some z=>
   have:=JH (Xn hf).1;rw[(Xn hf).2];dsimp only at this;omega
 have hfw:FW (MW P n) P o (Z7 (Xy o.key (QL v o.num).pairs x)):=by
  unfold FW;rw[QOS (by omega),QO9 h5];refine⟨fun p hp=>?_,Vs hpo.2⟩;rcases B1 hp with⟨hp,_⟩|rfl
  ·exact hpo.1 p hp
  ·exact⟨r2.one,r2.ew hn1⟩
 have hmk:(Z7 (Xy o.key (QL v o.num).pairs x)).ok M:=by
  refine L6 (fun p hp=>?_) ?_
  ·rcases B1 hp with⟨hp,_⟩|rfl
   ·exact⟨hol.keys p hp,hol.vals p hp⟩
   ·exact⟨r2.ky,r2.vl⟩
  ·have h1:=Sn o.key (QL v o.num).pairs x;have h2:=JI (QL v o.num);omega
 refine⟨a1.trans b1 hc,Jp hv ho.self hfw,Jo hk ho.wf hmk (by omega),?_⟩;have hpc:=Sm o.key (QL v o.num).pairs x;cases hf:Xq v o.num with
 |none=>
  have e1:=JJ g v o (Z7 (Xy o.key (QL v o.num).pairs x));rw[B0]at e1;have e0:XK (QL v o.num).pairs=0:=by rw[Zo (by rw[hf];simp)];rfl
  omega
 |some z=>
  have e1:=Yi g v o (Z7 (Xy o.key (QL v o.num).pairs x)) hf;rw[B0]at e1;have e2:XK (QL v o.num).pairs+1≤z.cnt:=by rw[(Xn hf).2,Xd z];omega
  omega

include hM hK ho hrec in
theorem UP (hkd:(Lit.int .i64 o.kind).wf=true){v w:V}{c d:C}{wr:Int}(hc:CI c)(hcn:c.left≤n)(hv:MW P (n+1) g v)(hk:v.ok M)(hb:(v.cnt:Int)+3*c.left+3≤K)(h:J7 P rec g v o wr c=.ok (w,d)) :
  As c d∧MW P (n+1) g w∧w.ok M∧(w.cnt:Int)+3*d.left≤v.cnt+3*c.left:=by
 have hcv:=Zj v;unfold J7 at h;split at h
 ·rename_i h5;split at h
  ·exact P0 hM hK ho hrec h5 hkd hc hcn hv hk hb h
  ·cases h
 ·rename_i h5;split at h
  ·rename_i hp;exact Sp hM hK ho hc hv hk (by omega) hp.2 h
  ·split at h
   ·split at h
    ·rename_i h10;exact Sq hK ho hrec hc hcn hv hk (by omega) h5 h10 h (by omega)
    ·exact U8 hM hK ho hc hv hk (by omega) h5 h
   ·cases h
end

theorem G4 {P:PL}{M:Nat}(hP:P.ok M)(hU:YB P)(hr:ZY P){t n:Int}(ht:0≤t∧t<(P.progs.length:Int)){o:PO}(hop:XL (QE P t) n=some o):OpK P (QE P t) o∧(Lit.int .i64 o.kind).wf=true∧o.num=n:=by
 obtain⟨hom,hon⟩:=YC hop;have hgt:QE P t∈P.progs:=by
  unfold QE;rw[QOH (by omega:t.toNat<P.progs.length)];exact QPx _
 have hok:=(hP.progs _ hgt).ops o hom;exact⟨⟨WV (hr _ hgt) hom,hok.num,hU _ hgt o hom⟩,hok.kind,hon⟩

theorem HR {P:PL}{M K n:Nat}(hM:3000≤M)(hK:K≤1000000)(hP:P.ok M)(hU:YB P)(hr:ZY P){rec:Int→V→C→Rd V}(hrec:KG P M K n rec){t:Int}(ht:0≤t∧t<(P.progs.length:Int)):∀(k:Nat) (v:V) (c:C),CI c→c.left≤n→MW P (n+1) (QE P t) v→v.ok M→(v.cnt:Int)+3*c.left≤K→
  ∀w d,Zu P rec t k v c=.ok (w,d)→Af c d∧MW P (n+1) (QE P t) w∧w.ok M∧(w.cnt:Int)+3*d.left≤v.cnt+3*c.left
 |0,v,c,hc,hn,hv,hk,hb,w,d,h=>by
  cases h;exact⟨Af.refl hc,hv,hk,Int.le_refl _⟩
 |k+1,v,c,hc,hn,hv,hk,hb,w,d,h=>by
  have lr:=Zy v;have hcb:=hc.bd;rw[Zu]at h;split at h
  ·split at h
   ·rename_i htg;obtain⟨t1,_⟩:=Wh hc htg;have hl:=t1.lt hc;split at h
    ·split at h
     ·rename_i hx;obtain⟨a1,_,a2,a3,a4,a5,a6,a7⟩:=BB hc hx;have hla:=a1.lt hc;have hrw:(XF c).1.ok M:=⟨ZV (by omega) (by omega),ZV (by omega) (by omega),by simp[Lit.wf,IntKind.min,IntKind.max,IntKind.bits,IntKind.signed];omega,by omega⟩;have ea:=U7 v (XF c).1;obtain⟨b1,b2,b3,b4⟩:=HR hM hK hP hU hr hrec ht k _ _ (a1.ci hc) (by omega) (G0 hv) (GZ hk hrw (by omega)) (by omega) w d h;exact⟨a1.1.trans b1 hc,b2,b3,by omega⟩
     ·cases h
    ·rename_i o hop;split at h
     ·cases h
     rename_i v1 c1 h1;obtain⟨ho,hkd,_⟩:=G4 hP hU hr ht hop;obtain⟨b1,b2,b3,b4⟩:=UP hM hK ho hrec hkd (t1.ci hc) (by omega) hv hk (by omega) h1;have hlb:=b1.lt (t1.ci hc);obtain⟨q1,q2,q3,q4⟩:=HR hM hK hP hU hr hrec ht k v1 c1 (b1.ci (t1.ci hc)) (by omega) b2 b3 (by omega) w d h;exact⟨(t1.1.trans b1.1 hc).trans q1 hc,q2,q3,by omega⟩
   ·cases h
  ·cases h;exact⟨Af.refl hc,hv,hk,Int.le_refl _⟩
theorem WJ {P:PL}{M K:Nat}(hM:3000≤M)(hK:K≤1000000)(hP:P.ok M)(hU:YB P)(hr:ZY P):∀n:Nat,KG P M K n (WX P n)
 |0,t,v,c,hc,hn,ht,hv,hk,hb,w,d,h=>by
  have:=hc.bd;omega
 |n+1,t,v,c,hc,hn,ht,hv,hk,hb,w,d,h=>
  HR hM hK hP hU hr (WJ hM hK hP hU hr n) ht _ v c hc (by omega) hv hk hb w d h

end Go.Proofs.YtfgchfdkiomfpaaGreat.Va

namespace Go.Proofs.YtfgchfdkiomfpaaGreat.Va
open Go Am Rc Bt Br Up So

theorem QsR {ops:List PO}(h:JU ops (Jr PO.num)=true):ops.Pairwise fun a b=>a.num<b.num:=by
 have hs:∀i (hi:i+1<ops.length),ops[i].num<ops[i+1].num:=by
  intro i hi;unfold JU at h;have:=ZQ.1 h (i+1) hi;rw[Yx (QOH (by omega:i<ops.length)) (QOH hi)]at this;unfold Jr at this
  simpa using this
 rw[QQE];intro i j hi hj hij;obtain⟨d,rfl⟩:∃d,j=i+1+d:=⟨j-(i+1),by omega⟩;clear hij
 induction d with
 |zero=>exact hs i (by omega)
 |succ d ih=>
  have a:=ih (by omega);have b:=hs (i+1+d) (by omega);exact Int.lt_trans a b

theorem HS {P:PL}(h:ck P=0):Be P=true∧args P=true:=by
 unfold ck at h;split at h
 ·omega
 split at h
 ·omega
 split at h
 ·omega
 rename_i ho;split at h
 ·omega
 split at h
 ·omega
 split at h
 ·omega
 rename_i ha;exact⟨by simpa using ho,by simpa using ha⟩
theorem JL {P:PL}(h:ck P=0):ZY P:=by
 have ho:=(HS h).1;unfold Be at ho;simp only[QO2,QOQ]at ho;intro g hg;exact QsR (ho.1.2 g hg)
def AE (P:PL):Prop:=∀g∈P.progs,∀o∈g.ops,1≤o.card∧o.card≤5
theorem Sr {P:PL}(h:ck P=0):AE P:=by
 have ha:=(HS h).2;intro g hg o ho;unfold args at ha;simp only[QO2,QOQ]at ha;have h1:=ha.1 g hg;unfold KB at h1;simp only[QO2,QOQ]at h1;have h2:=(h1.2 o ho).1;unfold Js at h2;simp only[QO2,QP1]at h2;exact⟨h2.1.1.1.2,h2.1.1.2⟩

theorem Y9 {fr:Nat→Ob}{a b c:Nat}(h1:(fr a).isRow=false)(h2:(fr b).isRow=false)(h3:(fr c).isRow=false):∀s∈[a,b,c],(fr s).isRow=false:=by
 intro s hs;simp only[QP0,QQF,or_false]at hs;rcases hs with rfl|rfl|rfl
 ·exact h1
 ·exact h2
 ·exact h3

section
variable (k:Int)(b:Nat)(t:List UInt8)(l p s r:List AV)

theorem w87:Qj Tryz.prog 87 [vo k b t l p s r] (.bool (Bk k b t l p s r)):=by
 have hl:=R3 k b t l p s r;simp only[vo]at hl;refine k87.fn (by simp) ?_;simp only[vo,Bk,eE,seval];refine Qa (Dk k) rfl rfl rfl (.inl rfl) ?_;cases isk k
 ·simp only[QQa,Qb,seval]
 ·simp only[QQk,eE,seval];cases h1:((b:Int)==0)
  ·simp only[QQy,QQa,Qb,seval]
  ·cases h2:(t==[])
   ·simp only[h2,QQy,Q2,eE,seval]
   ·simp only[h2,QPS,Q2,eE,seval];refine Qa hl rfl rfl rfl (.inl rfl) ?_;simp only[Qb,seval]

theorem QKC (hl:l.length≤140737488351232)(hp:p.length≤140737488351232)(hs:s.length≤140737488351232)(hr:r.length≤140737488351232) :
  Qj Tryz.prog 105 [vo k b t l p s r] (.bool (Bk k b t l p s r)):=by
 have hle:=Qsg k b t l p s r hl hp hs hr;simp only[vo]at hle;refine QcL.fn (by simp) ?_;simp only[vo,Bk,eE,seval];refine Qa (Ba k) rfl rfl rfl (.inl rfl) ?_;cases isk k
 ·simp only[QQa,Qb,seval]
 ·simp only[QQk,eE,seval];refine Qa hle rfl rfl rfl (.inl rfl) ?_;cases Wr l p s r
  ·simp only[QQa,Qb,seval]
  ·cases h1:((b:Int)==0)<;>cases h2:(t==[])<;>cases h3:XV k<;>simp only[h1,h2,QPS,QQy,QOX,Q2,eE,seval]

theorem w46:Qj Tryz.prog 46 [vo k b t l p s r] (.bool (emp k b t l p s r)):=by
 have hz:=w87 k b t l p s r;simp only[vo]at hz;refine k46.fn (by simp) ?_;simp only[vo,emp,eE,seval];by_cases h1:k=11
 ·subst h1;have e:Bk 11 b t l p s r=false:=rfl;have e1:((11:Int)==11)=true:=rfl;have e2:((11:Int)==12)=false:=rfl;simp only[e,e1,e2,QQk,QQa,QQz,eE,seval]
 ·have e1:(k==11)=false:=by simp[h1]
  by_cases h2:k=12
  ·subst h2;have e:Bk 12 b t l p s r=false:=rfl;have e2:((12:Int)==12)=true:=rfl;simp only[e,e1,e2,QQk,QQa,QQz,QQo,eE,seval]
  ·have e2:(k==12)=false:=by simp[h2]
   simp only[e1,e2,QQa,QQo,eE,seval];refine Qa hz rfl rfl rfl (.inl rfl) ?_;simp only[Qb,seval]

theorem w57 (hl:l.length≤140737488351232)(hp:p.length≤140737488351232)(hs:s.length≤140737488351232)(hr:r.length≤140737488351232):Qj Tryz.prog 57 [vo k b t l p s r] (.bool (emp k b t l p s r)):=by
 have hz:=QKC k b t l p s r hl hp hs hr;simp only[vo]at hz;refine k57.fn (by simp) ?_;simp only[vo,emp,eE,seval];cases h1:(k==11)<;>cases h2:((l.length:Int)==0)<;>cases h3:(k==12)<;>cases h4:((p.length:Int)==0)<;>simp only[h2,h3,h4,QQk,QQa,QQn,QQo,QQz,eE,seval]
 all_goals(refine Qa hz rfl rfl rfl (.inl rfl) ?_;simp only[Qb,seval])

end
theorem QDv (v:V)(hc:v.cnt≤1048576):Qj Tryz.prog 57 [v.av] (.bool v.emp):=by
 have h1:=ZU v;have h2:=JI v;have h3:=Xi v;have h4:=Zy v;rw[Cz];exact w57 _ _ _ _ _ _ _ (by simp;omega) (by simp;omega) (by simp;omega) (by simp;omega)
theorem QDw (v:V):Qj Tryz.prog 46 [v.av] (.bool v.emp):=by
 rw[Cz];exact w46 _ _ _ _ _ _ _

def NgI (P:PL)(K:Nat→List (Int×V))(T:List (Int×V))(t:Nat)(rw':List R)(k:Nat)(st:St):Prop :=
 ∃f fr i g h,st=⟨f,[fr],[]⟩∧k=T.length-i∧i≤T.length∧f 1=.int .i64 (t:Nat)∧f 3=.ptr 0 3 0∧f 6=.ptr 0 6 0∧f 7=.ptr 0 7 0∧f 30=.list (T.map V.sav)∧f 31=.int .i64 (T.length:Nat)∧f 32=.int .i64 (i:Nat)∧fr 3=.cells [.list (P.progs.map Qp),.list (P.enums.map QV)]∧fr 6=.cells [.int .i64 0,.int .u64 0,.str [],.nils,.nils,.nils,.nils]∧fr 7=.cells [.int .i64 10,.int .u64 0,.str [],.nils,.nils,.vec 0 1100 g 0 (K i).length false,.vec 0 1000 h 0 rw'.length false]∧fr 1100=.vec g 8 ((K i).map V.sav)∧fr 1000=.vec h 4 (rw'.map R.av)∧∀s∈[13,10,9],(fr s).isRow=false

section
variable {M:Nat}{P:PL}(hP:P.ok M)

set_option maxHeartbeats 2000000 in
include hP in
theorem v27 (hU:YB P)(hr:ZY P)(hcd:AE P):∀(n:Nat) (t:Int) (g:PG),P.progs[t.toNat]? = some g→0≤t→∀v:V,v.ok M→v.cnt≤1048576→MW P n g v→Qj Tryz.prog 27 [P.av,.int .i64 t,v.av] (Xv P n g v).av:=by
 have e0:P.av=.agg [.list (P.progs.map Qp),.list (P.enums.map QV)]:=rfl;intro n
 induction n with
 |zero=>
  intro t g _ _ v _ _ h;exact h.elim
 |succ n ih=>
  intro t g hgt t0 v hv hc h;have hgm:=QOR hgt;have hg:=hP.progs g hgm;have hu:=hU g hgm;have hd:=hr g hgm;obtain⟨s1,s2⟩:=h;have hnel:=fun(o:PO) (ho:o∈g.ops) (x:V) (hx:x.ok M) (hxc:x.cnt≤1048576) (he:EW (MW P n) P o x)=>QKB o (hu o ho) (fun t g a b v c d e=>ih t g a b v c d e) x hx hxc he
  have hnfl:=fun(o:PO) (ho:o∈g.ops) (x:V) (hx:x.ok M) (hxc:x.cnt≤1048576) (he:FW (MW P n) P o x)=>v56 o (hu o ho) (hnel o ho) x hx hxc he
  have hcn:∀(o:PO) (x:V),(Jj (Xv P n) P o x).cnt≤x.cnt:=fun o x=>Vg (fun t v=>U3 hr n _ (Yf hr t) v) o x
  have lS:=Xi v;have lR:=Zy v;have clR:=fun fr hr=>v53 (v.raws.map R.av) fr [] (Y8 v.raws) (by rw[QPz];omega) hr
  have csR:=fun g (m:Qh) (hl:Am.Qd m 0 1000=.vec g 4 (v.raws.map R.av))=>Tz.CV Tg.QDr (by decide) QKz 0 1000 g (v.raws.map R.av) m hl (ezR v.raws) (by rw[QPz];omega)
  simp only[Sk,QPz]at csR;have csl:=v54 v.slots (by omega) s2;have hTp:(Kf v.slots).Perm v.slots:=QW _;have hTl:(Kf v.slots).length=v.slots.length:=hTp.length_eq;have hTm:∀s∈Kf v.slots,s∈v.slots:=fun s h=>hTp.mem_iff.1 h
  have hfin:=Sg (Xv P n) P hd s2;have hrl:(ZT v.raws).length=v.raws.length:=(QW v.raws).length_eq;generalize Kf v.slots=T at *;obtain⟨ti,hti⟩:=QQm t0;subst hti;rw[QP7]at hgt;have hga:(P.progs.map Qp)[ti]? = some (.agg g.cells):=by simp[hgt,Qp]
  simp only[PG.cells]at hga;have htl:ti<P.progs.length:=(QOG.1 hgt).1;have d0:decide ((ti:Int)<0)=false:=QQt (by omega);have d1:decide ((ti:Int)≥(P.progs.length:Int))=false:=QQt (by omega);have co:=fun n=>y55 g hg.len n
  simp only[U5]at co;simp only[Qp,PG.cells]at co;show Qj _ _ _ (V.mk 10 0 [] [] [] (g.ops.flatMap (X7 (Xv P n) P v.slots)) (ZT v.raws)).av;rw[←hfin,Qc v];generalize hK:(fun i=>(T.take i).flatMap (Jv (Xv P n) P g))=K;have hK0:K 0=[]:=by rw[←hK];simp
  have hKn:T.flatMap (Jv (Xv P n) P g)=K T.length:=by rw[←hK];simp
  have hKl:∀i,i≤T.length→(K i).length≤i:=by
   intro i hi;rw[←hK];show((T.take i).flatMap _).length≤i;have:∀l:List (Int×V),(l.flatMap (Jv (Xv P n) P g)).length≤l.length:=by
    intro l
    induction l with
    |nil=>exact QOE _
    |cons s l ih=>
     have:(Jv (Xv P n) P g s).length≤1:=by
      unfold Jv;split
      ·simp
      ·unfold ZZ;split<;>simp
     rw[QP9,QPi,QOT];omega
   exact QOF (this _) (by rw[QPB];omega)
  rw[hKn,show(V.mk 10 0 [] [] [] (K T.length) (ZT v.raws)).av=.agg [.int .i64 10,.int .u64 0,.str [],.list [],.list [],.list ((K T.length).map V.sav),.list ((ZT v.raws).map R.av)]from Qc _];refine k27.fn (by simp) ?_;simp only[e0,eE,seval];refine QU (clR _ rfl) (by simp only[QPc,QPG,Qb,seval]) ?_;simp only[QPz,eE,seval];refine Jy (by simp only[Qb,seval]<;>rfl) rfl (by simp only[Qb,seval]<;>rfl) rfl ?_;simp only[List.set,d0,d1,QPz,eE,seval];refine Qa csl rfl rfl rfl (.inl rfl) ?_;simp only[QPz,Qb,seval];refine Qg (NgI P K T ti v.raws) _ ⟨_,_,0,_,_,rfl,rfl,QOM _,(by rfl),(by rfl),(by rfl),(by rfl),(by rfl),(by rfl),(by rfl),(by rfl),(by rfl),(by rw[hK0];exact(by rfl)),(by rw[hK0];exact(by rfl)),(by rfl),Y9 rfl rfl rfl⟩ ?_;rintro _ st ⟨f0,fr0,i,gs,hs,rfl,rfl,hil,h10,h30,h60,h70,h300,h310,h320,m30,m60,m70,mS0,mR0,SX⟩;refine Q7 (a:=_) [13,10,9] SX ?_;intro f fr hf hm hn13;have h1:f 1=.int .i64 (ti:Nat):=by rw[hf,h10]<;>rfl
  have h3:f 3=.ptr 0 3 0:=by rw[hf,h30]<;>rfl
  have h6:f 6=.ptr 0 6 0:=by rw[hf,h60]<;>rfl
  have h7:f 7=.ptr 0 7 0:=by rw[hf,h70]<;>rfl
  have h30':f 30=.list (T.map V.sav):=by rw[hf,h300]<;>rfl
  have h31:f 31=.int .i64 (T.length:Nat):=by rw[hf,h310]<;>rfl
  have h32:f 32=.int .i64 (i:Nat):=by rw[hf,h320]<;>rfl
  have m3:fr 3=.cells [.list (P.progs.map Qp),.list (P.enums.map QV)]:=by rw[hm 3 (by decide),m30]<;>rfl
  have m6:fr 6=.cells [.int .i64 0,.int .u64 0,.str [],.nils,.nils,.nils,.nils]:=by rw[hm 6 (by decide),m60]<;>rfl
  have m7:fr 7=.cells [.int .i64 10,.int .u64 0,.str [],.nils,.nils,.vec 0 1100 gs 0 (K i).length false,.vec 0 1000 hs 0 v.raws.length false]:=by rw[hm 7 (by decide),m70]<;>rfl
  have mS:fr 1100=.vec gs 8 ((K i).map V.sav):=by rw[hm 1100 (by decide),mS0]<;>rfl
  have mR:fr 1000=.vec hs 4 (v.raws.map R.av):=by rw[hm 1000 (by decide),mR0]<;>rfl
  have n13:=hn13 13 (by decide);have n10:=hn13 10 (by decide);have n9:=hn13 9 (by decide);clear hf hm hn13 h10 h30 h60 h70 h300 h310 h320 m30 m60 m70 mS0 mR0 SX;simp only[h31,h32,Qb,seval];by_cases hlt:i<T.length
  ·obtain⟨x,hi⟩:∃x,T[i]? = some x:=⟨T[i],QOH hlt⟩;have hx:=hTm x (QOR hi);have hgs:=Y4 hi;have e1:=Qx i _ hlt (by simp only[maxLen];omega);obtain⟨o,ho,hfo⟩:=s1 x hx;obtain⟨hom,hon⟩:=YC ho;have hcard:=hcd g hgm o hom;have c1:=co x.1;rw[ho]at c1;have hxc:=QOF (JH hx) hc;have c2:=hnfl o hom x.2 (hv.slots x hx) hxc hfo;have c3:=QDv (Jj (Xv P n) P o x.2) (QOF (hcn o x.2) hxc);have hKs:K (i+1)=K i++ZZ (Xv P n) P o x:=by
    rw[←hK];show(T.take (i+1)).flatMap _=(T.take i).flatMap _++_;rw[QQr,hi,List.flatMap_append];have:Jv (Xv P n) P g x=ZZ (Xv P n) P o x:=by unfold Jv;rw[ho]
    simp[this]
   have hkO:ZZ (Xv P n) P o x=if (decide (o.card<3) || !(Jj (Xv P n) P o x.2).emp)=true then [(x.1,Jj (Xv P n) P o x.2)]else []:=by
    unfold ZZ;rw[hon]
   have hKi:=hKl i (by omega);rw[hkO]at hKs;clear hkO;generalize Jj (Xv P n) P o x.2=z at c2 c3 hKs;rw[e0,Qc x.2,Qc z]at c2;rw[Qc z]at c3;simp only[Qy,PO.cells]at c2;have fin:∀(f':Fr) (fr':Nat→Ob) (gs':Nat),f' 1=.int .i64 (ti:Nat)→f' 3=.ptr 0 3 0→f' 6=.ptr 0 6 0→f' 7=.ptr 0 7 0→f' 30=.list (T.map V.sav)→f' 31=.int .i64 (T.length:Nat)→f' 32=.int .i64 ((i+1:Nat):Int)→fr' 3=.cells [.list (P.progs.map Qp),.list (P.enums.map QV)]→fr' 6=.cells [.int .i64 0,.int .u64 0,.str [],.nils,.nils,.nils,.nils]→fr' 7=.cells [.int .i64 10,.int .u64 0,.str [],.nils,.nils,.vec 0 1100 gs' 0 (K (i+1)).length false,.vec 0 1000 hs 0 v.raws.length false]→fr' 1100=.vec gs' 8 ((K (i+1)).map V.sav)→fr' 1000=.vec hs 4 (v.raws.map R.av)→(∀s∈[13,10,9],(fr' s).isRow=false)→∃k,k<T.length-i∧NgI P K T ti v.raws k ⟨f',[fr'],[]⟩:=by
    intro f' fr' gs' a1 a3 a6 a7 a30 a31 a32 b3 b6 b7 bS bR br;exact⟨T.length-(i+1),by omega,f',fr',i+1,gs',hs,rfl,rfl,by omega,a1,a3,a6,a7,a30,a31,a32,b3,b6,b7,bS,bR,br⟩
   simp only[Qt hlt,Qm,QP7,Qf,hgs,hga,n9,h1,h3,h30',h32,m3,eE,seval];refine Qa c1 rfl rfl rfl (.inl rfl) ?_;simp only[QPP,QQu,Qy,PO.cells,n10,eE,seval];rcases(by omega:o.card=1∨o.card=2∨o.card=3∨o.card=4∨o.card=5)with cc|cc|cc|cc|cc
   ·have b3:(o.card==3)=false:=by simp[cc]
    have b4:(o.card==4)=false:=by simp[cc]
    have b5:(o.card==5)=false:=by simp[cc]
    rw[QO9 (by simp[cc])]at hKs;simp only[b3,b4,b5,QPd,QPg,QPn,h3,m3,eE,seval];refine Qa c2 rfl rfl rfl (.inl rfl) ?_;simp only[n13,h7,m7,eE,seval];refine QO (l:=[V.sav (x.1,z)]) rfl rfl rfl (by rw[ZG];rfl) ?_;refine QF (site:=1100) (g:=gs) (n:=(K i).length) (xs:=(K i).map V.sav) (ys:=[V.sav (x.1,z)]) (by rfl) (by exact mS) rfl (by rw[QPz]) rfl (JG [(x.1,z)]) (by simp only[QOT,QPA,maxLen];omega) (by simp only[QOT,QPA];omega) ?_;simp only[h7,h32,m7,e1,eE,seval];exact fin _ _ (gs+1) (by exact h1) (by exact h3) (by exact h6) (by exact h7) (by exact h30') (by exact h31) (by rfl) (by exact m3) (by exact m6) (by rw[hKs,QPi];exact(by rfl)) (by rw[hKs,QQq];exact(by rfl)) (by exact mR) (Y9 rfl rfl rfl)

   ·have b3:(o.card==3)=false:=by simp[cc]
    have b4:(o.card==4)=false:=by simp[cc]
    have b5:(o.card==5)=false:=by simp[cc]
    rw[QO9 (by simp[cc])]at hKs;simp only[b3,b4,b5,QPd,QPg,QPn,h3,m3,eE,seval];refine Qa c2 rfl rfl rfl (.inl rfl) ?_;simp only[n13,h7,m7,eE,seval];refine QO (l:=[V.sav (x.1,z)]) rfl rfl rfl (by rw[ZG];rfl) ?_;refine QF (site:=1100) (g:=gs) (n:=(K i).length) (xs:=(K i).map V.sav) (ys:=[V.sav (x.1,z)]) (by rfl) (by exact mS) rfl (by rw[QPz]) rfl (JG [(x.1,z)]) (by simp only[QOT,QPA,maxLen];omega) (by simp only[QOT,QPA];omega) ?_;simp only[h7,h32,m7,e1,eE,seval];exact fin _ _ (gs+1) (by exact h1) (by exact h3) (by exact h6) (by exact h7) (by exact h30') (by exact h31) (by rfl) (by exact m3) (by exact m6) (by rw[hKs,QPi];exact(by rfl)) (by rw[hKs,QQq];exact(by rfl)) (by exact mR) (Y9 rfl rfl rfl)
   ·have b3:(o.card==3)=true:=by simp[cc]
    have b4:(o.card==4)=false:=by simp[cc]
    have b5:(o.card==5)=false:=by simp[cc]
    have l3:decide (o.card<3)=false:=by simp[cc]
    rw[l3,QQo]at hKs;simp only[b3,QPd,QPg,QPn,h3,m3,eE,seval];refine Qa c2 rfl rfl rfl (.inl rfl) ?_;simp only[n13,eE,seval];refine Qa c3 rfl rfl rfl (.inl rfl) ?_;cases hz:z.emp
    ·rw[hz,QO9 (show(!false)=true from rfl)]at hKs;simp only[h7,m7,eE,seval];refine QO (l:=[V.sav (x.1,z)]) rfl rfl rfl (by rw[ZG];rfl) ?_;refine QF (site:=1100) (g:=gs) (n:=(K i).length) (xs:=(K i).map V.sav) (ys:=[V.sav (x.1,z)]) (by rfl) (by exact mS) rfl (by rw[QPz]) rfl (JG [(x.1,z)]) (by simp only[QOT,QPA,maxLen];omega) (by simp only[QOT,QPA];omega) ?_;simp only[h7,h32,m7,e1,eE,seval];exact fin _ _ (gs+1) (by exact h1) (by exact h3) (by exact h6) (by exact h7) (by exact h30') (by exact h31) (by rfl) (by exact m3) (by exact m6) (by rw[hKs,QPi];exact(by rfl)) (by rw[hKs,QQq];exact(by rfl)) (by exact mR) (Y9 rfl rfl rfl)
    ·rw[hz,QOS (by simp),QPI]at hKs;simp only[h32,e1,Qb,seval];exact fin _ _ gs (by exact h1) (by exact h3) (by exact h6) (by exact h7) (by exact h30') (by exact h31) (by rfl) (by exact m3) (by exact m6) (by rw[hKs];exact(by exact m7)) (by rw[hKs];exact(by exact mS)) (by exact mR) (Y9 rfl rfl rfl)

   ·have b3:(o.card==3)=false:=by simp[cc]
    have b4:(o.card==4)=true:=by simp[cc]
    have b5:(o.card==5)=false:=by simp[cc]
    have l3:decide (o.card<3)=false:=by simp[cc]
    rw[l3,QQo]at hKs;simp only[b3,b4,QPd,QPg,QPn,h3,m3,eE,seval];refine Qa c2 rfl rfl rfl (.inl rfl) ?_;simp only[n13,eE,seval];refine Qa c3 rfl rfl rfl (.inl rfl) ?_;cases hz:z.emp
    ·rw[hz,QO9 (show(!false)=true from rfl)]at hKs;simp only[h7,m7,eE,seval];refine QO (l:=[V.sav (x.1,z)]) rfl rfl rfl (by rw[ZG];rfl) ?_;refine QF (site:=1100) (g:=gs) (n:=(K i).length) (xs:=(K i).map V.sav) (ys:=[V.sav (x.1,z)]) (by rfl) (by exact mS) rfl (by rw[QPz]) rfl (JG [(x.1,z)]) (by simp only[QOT,QPA,maxLen];omega) (by simp only[QOT,QPA];omega) ?_;simp only[h7,h32,m7,e1,eE,seval];exact fin _ _ (gs+1) (by exact h1) (by exact h3) (by exact h6) (by exact h7) (by exact h30') (by exact h31) (by rfl) (by exact m3) (by exact m6) (by rw[hKs,QPi];exact(by rfl)) (by rw[hKs,QQq];exact(by rfl)) (by exact mR) (Y9 rfl rfl rfl)
    ·rw[hz,QOS (by simp),QPI]at hKs;simp only[h32,e1,Qb,seval];exact fin _ _ gs (by exact h1) (by exact h3) (by exact h6) (by exact h7) (by exact h30') (by exact h31) (by rfl) (by exact m3) (by exact m6) (by rw[hKs];exact(by exact m7)) (by rw[hKs];exact(by exact mS)) (by exact mR) (Y9 rfl rfl rfl)

   ·have b3:(o.card==3)=false:=by simp[cc]
    have b4:(o.card==4)=false:=by simp[cc]
    have b5:(o.card==5)=true:=by simp[cc]
    have l3:decide (o.card<3)=false:=by simp[cc]
    rw[l3,QQo]at hKs;simp only[b3,b4,b5,QPd,QPg,QPn,h3,m3,eE,seval];refine Qa c2 rfl rfl rfl (.inl rfl) ?_;simp only[n13,eE,seval];refine Qa c3 rfl rfl rfl (.inl rfl) ?_;cases hz:z.emp
    ·rw[hz,QO9 (show(!false)=true from rfl)]at hKs;simp only[h7,m7,eE,seval];refine QO (l:=[V.sav (x.1,z)]) rfl rfl rfl (by rw[ZG];rfl) ?_;refine QF (site:=1100) (g:=gs) (n:=(K i).length) (xs:=(K i).map V.sav) (ys:=[V.sav (x.1,z)]) (by rfl) (by exact mS) rfl (by rw[QPz]) rfl (JG [(x.1,z)]) (by simp only[QOT,QPA,maxLen];omega) (by simp only[QOT,QPA];omega) ?_;simp only[h7,h32,m7,e1,eE,seval];exact fin _ _ (gs+1) (by exact h1) (by exact h3) (by exact h6) (by exact h7) (by exact h30') (by exact h31) (by rfl) (by exact m3) (by exact m6) (by rw[hKs,QPi];exact(by rfl)) (by rw[hKs,QQq];exact(by rfl)) (by exact mR) (Y9 rfl rfl rfl)
    ·rw[hz,QOS (by simp),QPI]at hKs;simp only[h32,e1,Qb,seval];exact fin _ _ gs (by exact h1) (by exact h3) (by exact h6) (by exact h7) (by exact h30') (by exact h31) (by rfl) (by exact m3) (by exact m6) (by rw[hKs];exact(by exact m7)) (by rw[hKs];exact(by exact mS)) (by exact mR) (Y9 rfl rfl rfl)
  ·have e:i=T.length:=by omega
   subst e;simp only[QS hlt,h7,m7,eE,seval];refine QU (csR _ _ (by simp only[mR,MX,seval]<;>rfl)) (by simp only[QPc,QPG,Qb,seval]) ?_;simp only[h6,h7,m6,m7,eE,seval];simp[AV.un,AV.unL,Zv,XH,mS,QPe,hrl]

end
open Vp Cp

def XG:List AV:=[.int .i64 0,.int .u64 0,.str [],.nils,.nils,.nils,.nils]

theorem P1 (o:PO):Qj Tryz.prog 93 [Qy o] (.int .i64 (wk o.kind)):=by
 have hw:=QJp o.num o.name o.alias 2 o.key o.kind o.target o.union;have e:Hi 2 o.kind=wk o.kind:=by unfold Hi pk;simp
 rw[e]at hw;simp only[oc]at hw;refine k93.fn (by simp) ?_;simp only[Qy,PO.cells,splice,QPd,QPN,QPg,QPn,QO0,QO1,QOT,QPA,eE,seval];refine Qa hw rfl rfl rfl (.inl rfl) ?_;simp only[Qb,seval]

theorem P2 {v:V}{n:Int}{i:Nat}{x:Int×V}(h:v.slots[i]? = some x)(hd:(v.slots.find? fun s=>s.1==n)=(v.slots.drop i).find? fun s=>s.1==n) :
  (x.1==n)=true∧Xq v n=some x.2∧QL v n=x.2∨(x.1==n)=false∧(v.slots.find? fun s=>s.1==n)=(v.slots.drop (i+1)).find? fun s=>s.1==n:=by
 have hlt:=(QOG.1 h).1;have hx:=(QOG.1 h).2;rw[QPo hlt,QQs,hx]at hd;cases hb:(x.1==n)
 ·rw[hb]at hd;exact .inr ⟨rfl,hd⟩
 ·rw[hb]at hd;have e:Xq v n=some x.2:=by unfold Xq;rw[hd];rfl
  exact .inl ⟨rfl,e,by unfold QL;rw[e];rfl⟩
theorem Vt {v:V}{n:Int}{i:Nat}(h:¬i<v.slots.length)(hd:(v.slots.find? fun s=>s.1==n)=(v.slots.drop i).find? fun s=>s.1==n):Xq v n=none∧QL v n=Qs 0 0 []:=by
 rw[QPh (by omega)]at hd;have e:Xq v n=none:=by unfold Xq;rw[hd];rfl
 exact⟨e,by unfold QL;rw[e];rfl⟩

def FvI (v:V)(n:Int)(k:Nat)(st:St):Prop :=
 ∃f fr i,st=⟨f,[fr],[]⟩∧k=v.slots.length-i∧i≤v.slots.length∧((v.slots.find? fun s=>s.1==n)=(v.slots.drop i).find? fun s=>s.1==n)∧f 1=.int .i64 n∧f 4=.ptr 0 4 0∧f 9=.list (v.slots.map V.sav)∧f 10=.int .i64 (v.slots.length:Nat)∧f 11=.int .i64 (i:Nat)∧fr 4=.cells XG∧∀s∈[7],(fr s).isRow=false

theorem AF (v:V)(n:Int)(hl:v.slots.length≤1099511627776):Qj Tryz.prog 37 [v.av,.int .i64 n] (.tup [(QL v n).av,.bool (Xq v n).isSome]):=by
 rw[Qc v];refine k37.fn (by simp) ?_;simp only[QPz,eE,seval];refine Qg (FvI v n) _ ⟨_,_,0,rfl,rfl,QOM _,rfl,(by rfl),(by rfl),(by rfl),(by rfl),(by rfl),(by rfl),by simp<;>rfl⟩ ?_;rintro _ st ⟨f0,fr0,i,rfl,rfl,hil,hfd,h10,h40,h90,h100,h110,m40,r7⟩;refine Q7 (a:=_) [7] r7 ?_;intro f fr hf hm hn7;have h1:f 1=.int .i64 n:=by rw[hf,h10]<;>rfl
 have h4:f 4=.ptr 0 4 0:=by rw[hf,h40]<;>rfl
 have h9:f 9=.list (v.slots.map V.sav):=by rw[hf,h90]<;>rfl
 have h10':f 10=.int .i64 (v.slots.length:Nat):=by rw[hf,h100]<;>rfl
 have h11:f 11=.int .i64 (i:Nat):=by rw[hf,h110]<;>rfl
 have m4:fr 4=.cells XG:=by rw[hm 4 (by decide),m40]<;>rfl
 have n7:=hn7 7 (by decide);clear hf hm hn7 h10 h40 h90 h100 h110 m40 r7;have m4':=m4;simp only[XG]at m4;simp only[h10',h11,Qb,seval];by_cases hlt:i<v.slots.length
 ·obtain⟨x,hi⟩:∃x,v.slots[i]? = some x:=⟨v.slots[i],QOH hlt⟩;have hg:=Y4 hi;have e1:=Qx i _ hlt (by simp only[maxLen];omega);rcases P2 hi hfd with⟨hb,hx1,hx2⟩|⟨hb,hfd'⟩
  ·rw[hx1,hx2,Qc x.2];simp only[Qt hlt,Qm,QP7,Qf,hg,hb,n7,QQu,h1,h4,h9,h11,m4,eE,seval]
  ·simp only[Qt hlt,Qm,QP7,Qf,hg,hb,n7,h1,h9,h11,e1,eE,seval];exact⟨v.slots.length-(i+1),by omega,_,_,i+1,rfl,rfl,by omega,hfd',(by exact h1),(by exact h4),(by exact h9),(by exact h10'),(by rfl),(by exact m4'),by simp<;>rfl⟩
 ·obtain⟨hx1,hx2⟩:=Vt hlt hfd;rw[hx1,hx2,show(Qs 0 0 []).av=.agg [.int .i64 0,.int .u64 0,.str [],.list [],.list [],.list [],.list []]from Qc _];simp only[QS hlt,QPv,h4,m4,eE,seval]

theorem QsS (l x:V)(hl:l.list.length≤1048576):Qj Tryz.prog 150 [l.av,x.av] (Q5 (l.list++[x])).av:=by
 have t1:((l.list.length:Int)=(l.list.length:Int)∧(l.list.length:Int)=(l.list.length:Int))=True:=by simp
 rw[show(Q5 (l.list++[x])).av=.agg [.int .i64 11,.int .u64 0,.str [],.list (l.list.map V.av++[x.av]),.list [],.list [],.list []]from by
  rw[Qc];show AV.agg [.int .i64 11,.int .u64 0,.str [],.list ((l.list++[x]).map V.av),.list [],.list [],.list []]=_;rw[QQq];rfl]
 rw[Qc l,Qc x];refine Qee.fn (by simp) ?_;simp only[QPz,eE,seval];refine DK rfl rfl (by decide) rfl rfl ?_;refine Ya (xs:=l.list.map V.av) (ys:=[x.av]) rfl (by rw[Qc];rfl) (by simp) (Dx l.list) (Dx [x]) (by simp[maxLen];omega) (by simp;omega) (by rfl) ?_;simp only[QPz,QOT,QPA,splice,QPd,QPN,QPg,QPn,QPT,QPI,QO0,QO1,QPQ,QPR,AV.leaf,eE,seval];have hk:List.take (l.list.length+1) (l.list.map V.av++[x.av])=l.list.map V.av++[x.av]:=QPe (by simp);simp[hk,AV.un,AV.unL,Zv,XH];exact Qc x

theorem j52 (v:V)(x:R)(hl:v.raws.length≤1048576):Qj Tryz.prog 52 [v.av,x.av] (Wf v x).av:=by
 have t1:((v.raws.length:Int)=(v.raws.length:Int)∧(v.raws.length:Int)=(v.raws.length:Int))=True:=by simp
 rw[show(Wf v x).av=.agg [.int .i64 v.kd,.int .u64 (v.bits:Nat),.str v.text,.list (v.list.map V.av),.list (v.pairs.map V.pav),.list (v.slots.map V.sav),.list (v.raws.map R.av++[x.av])]from by
  rw[Qc];show AV.agg [.int .i64 v.kd,.int .u64 (v.bits:Nat),.str v.text,.list (v.list.map V.av),.list (v.pairs.map V.pav),.list (v.slots.map V.sav),.list ((v.raws++[x]).map R.av)]=_;rw[QQq];rfl]
 rw[Qc v];refine k52.fn (by simp) ?_;simp only[R.av,QPz,eE,seval];refine DK rfl rfl (by decide) rfl rfl ?_;refine Ya (xs:=v.raws.map R.av) (ys:=[x.av]) rfl (by rfl) (by simp) (Y8 v.raws) (Y8 [x]) (by simp[maxLen];omega) (by simp;omega) (by rfl) ?_;simp only[QPz,QOT,QPA,splice,QPd,QPN,QPg,QPn,QPT,QPI,QO0,QO1,QPQ,QPR,AV.leaf,eE,seval];have hk:List.take (v.raws.length+1) (v.raws.map R.av++[x.av])=v.raws.map R.av++[x.av]:=QPe (by simp);simp only[R.av]at hk;simp[hk,AV.un,AV.unL,Zv,XH,R.av]

def StI (g:PG)(v:V)(o:PO)(x:V)(K:Nat→List (Int×V))(k:Nat)(st:St):Prop :=
 ∃f fr i n,st=⟨f,[fr],[]⟩∧k=v.slots.length-i∧i≤v.slots.length∧f 4=.ptr 0 4 0∧f 6=.ptr 0 6 0∧f 7=.ptr 0 7 0∧f 8=.ptr 0 8 0∧f 9=.ptr 0 9 0∧f 18=.list (v.slots.map V.sav)∧f 19=.int .i64 (v.slots.length:Nat)∧f 20=.int .i64 (i:Nat)∧fr 4=.cells g.cells∧fr 6=.cells o.cells∧fr 7=.cells (vc x)∧fr 8=.cells XG∧
  fr 9=.cells [.int .i64 10,.int .u64 0,.str [],.nils,.nils,.vec 0 1100 n 0 (K i).length false,.list (v.raws.map R.av)]∧fr 1100=.vec n 8 ((K i).map V.sav)∧∀s∈[12,11],(fr s).isRow=false

theorem CY (g:PG)(v:V)(o:PO)(x:V)(hg:g.ops.length≤maxLen)(hl:v.slots.length≤1048576):Qj Tryz.prog 146 [Qp g,v.av,Qy o,x.av] (Xg g v o x).av:=by
 have co:=fun n=>y55 g hg n
 simp only[U5]at co;simp only[Qp,PG.cells]at co;generalize hK:(fun i=>(v.slots.take i).filter fun s=>!Xs g o s)=K;have hK0:K 0=[]:=by rw[←hK];simp
 have hKn:v.slots.filter (fun s=>!Xs g o s)=K v.slots.length:=by rw[←hK];simp
 have hKl:∀i,i≤v.slots.length→(K i).length≤i:=by
  intro i hi;rw[←hK];exact QOF (List.length_filter_le _ _) (by rw[QPB];omega)
 have hKs:∀(i:Nat) (s:Int×V),v.slots[i]? = some s→K (i+1)=K i++(if Xs g o s=true then []else [s]):=by
  intro i s hs;rw[←hK];show(v.slots.take (i+1)).filter _=(v.slots.take i).filter _++_;rw[QQr,hs,List.filter_append];cases hd:Xs g o s<;>simp[hd]
 rw[show(Xg g v o x).av=.agg [.int .i64 10,.int .u64 0,.str [],.list [],.list [],.list ((K v.slots.length).map V.sav++[V.sav (o.num,x)]),.list (v.raws.map R.av)]from by
  rw[Qc];show AV.agg [.int .i64 10,.int .u64 0,.str [],.list [],.list [],.list ((v.slots.filter (fun s=>!Xs g o s)++[(o.num,x)]).map V.sav),.list (v.raws.map R.av)]=_;rw[hKn,QQq];rfl]
 rw[Qc v,Qc x];clear hKn hK;refine QdO.fn (by simp) ?_;simp only[Qp,Qy,PG.cells,PO.cells,eE,seval];refine Jy (by simp only[Qb,seval]<;>rfl) rfl (by simp only[Qb,seval]<;>rfl) rfl ?_;simp only[List.set,QPz,eE,seval];refine Qg (StI g v o x K) _ ⟨_,_,0,_,rfl,rfl,QOM _,(by rfl),(by rfl),(by rfl),(by rfl),(by rfl),(by rfl),(by rfl),(by rfl),(by rfl),(by rfl),(by rfl),(by rfl),(by rw[hK0];exact(by rfl)),(by rw[hK0];exact(by rfl)),Dv rfl rfl⟩ ?_;rintro _ st ⟨f0,fr0,i,n,rfl,rfl,hil,h40,h60,h70,h80,h90,h180,h190,h200,m40,m60,m70,m80,m90,mS0,Ut⟩;refine Q7 (a:=_) [12,11] Ut ?_;intro f fr hf hm hn12;have h4:f 4=.ptr 0 4 0:=by rw[hf,h40]<;>rfl
 have h6:f 6=.ptr 0 6 0:=by rw[hf,h60]<;>rfl
 have h7:f 7=.ptr 0 7 0:=by rw[hf,h70]<;>rfl
 have h8:f 8=.ptr 0 8 0:=by rw[hf,h80]<;>rfl
 have h9:f 9=.ptr 0 9 0:=by rw[hf,h90]<;>rfl
 have h18:f 18=.list (v.slots.map V.sav):=by rw[hf,h180]<;>rfl
 have h19:f 19=.int .i64 (v.slots.length:Nat):=by rw[hf,h190]<;>rfl
 have h20:f 20=.int .i64 (i:Nat):=by rw[hf,h200]<;>rfl
 have m4':fr 4=.cells g.cells:=by rw[hm 4 (by decide),m40]<;>rfl
 have m6':fr 6=.cells o.cells:=by rw[hm 6 (by decide),m60]<;>rfl
 have m7':fr 7=.cells (vc x):=by rw[hm 7 (by decide),m70]<;>rfl
 have m8':fr 8=.cells XG:=by rw[hm 8 (by decide),m80]<;>rfl
 have m9:fr 9=.cells [.int .i64 10,.int .u64 0,.str [],.nils,.nils,.vec 0 1100 n 0 (K i).length false,.list (v.raws.map R.av)]:=by rw[hm 9 (by decide),m90]<;>rfl
 have mS:fr 1100=.vec n 8 ((K i).map V.sav):=by rw[hm 1100 (by decide),mS0]<;>rfl
 have n12:=hn12 12 (by decide);have n11:=hn12 11 (by decide);clear hf hm hn12 h40 h60 h70 h80 h90 h180 h190 h200 m40 m60 m70 m80 m90 mS0 Ut;have m4:=m4';have m6:=m6';have m7:=m7';have m8:=m8';simp only[PG.cells]at m4;simp only[PO.cells]at m6;simp only[vc]at m7;simp only[XG]at m8;have hKi:=hKl i hil;simp only[h19,h20,Qb,seval];by_cases hlt:i<v.slots.length
 ·obtain⟨y,hi⟩:∃y,v.slots[i]? = some y:=⟨v.slots[i],QOH hlt⟩;have hgs:=Y4 hi;have e1:=Qx i _ hlt (by simp only[maxLen];omega);have hKy:=hKs i y hi;have skip:Xs g o y=true→∀(f':Fr) (fr':Nat→Ob),f' 4=.ptr 0 4 0→f' 6=.ptr 0 6 0→f' 7=.ptr 0 7 0→f' 8=.ptr 0 8 0→f' 9=.ptr 0 9 0→f' 18=.list (v.slots.map V.sav)→f' 19=.int .i64 (v.slots.length:Nat)→f' 20=.int .i64 ((i+1:Nat):Int)→fr' 4=.cells g.cells→fr' 6=.cells o.cells→fr' 7=.cells (vc x)→fr' 8=.cells XG→fr' 9=fr 9→fr' 1100=fr 1100→(∀s∈[12,11],(fr' s).isRow=false)→∃k,k<v.slots.length-i∧StI g v o x K k ⟨f',[fr'],[]⟩:=by
   intro hd f' fr' a4 a6 a7 a8 a9 a18 a19 a20 b4 b6 b7 b8 b9 bS br;rw[QO9 hd,QPI]at hKy;exact⟨v.slots.length-(i+1),by omega,f',fr',i+1,n,rfl,rfl,by omega,a4,a6,a7,a8,a9,a18,a19,a20,b4,b6,b7,b8,by rw[b9,m9,hKy],by rw[bS,mS,hKy],br⟩
  simp only[Qt hlt,Qm,QP7,Qf,hgs,n11,h6,h18,h20,m6,eE,seval];have hdd:Xs g o y=(y.1==o.num||(match XL g y.1 with
   |some q=>decide (o.union≥0)&&q.union==o.union
   |none=>false)):=rfl
  cases hb:(y.1==o.num)
  ·have c1:=co y.1;rw[hb,QQo]at hdd;simp only[h4,m4,eE,seval];refine Qa c1 rfl rfl rfl (.inl rfl) ?_;have keep:Xs g o y=false→∀(f':Fr) (fr':Nat→Ob),f' 4=.ptr 0 4 0→f' 6=.ptr 0 6 0→f' 7=.ptr 0 7 0→f' 8=.ptr 0 8 0→f' 9=.ptr 0 9 0→f' 18=.list (v.slots.map V.sav)→f' 19=.int .i64 (v.slots.length:Nat)→f' 20=.int .i64 ((i+1:Nat):Int)→fr' 4=.cells g.cells→fr' 6=.cells o.cells→fr' 7=.cells (vc x)→fr' 8=.cells XG→fr' 9=.cells [.int .i64 10,.int .u64 0,.str [],.nils,.nils,.vec 0 1100 (n+1) 0 ((K i).length+1) false,.list (v.raws.map R.av)]→fr' 1100=.vec (n+1) 8 ((K i).map V.sav++[V.sav y])→(∀s∈[12,11],(fr' s).isRow=false)→∃k,k<v.slots.length-i∧StI g v o x K k ⟨f',[fr'],[]⟩:=by
    intro hd f' fr' a4 a6 a7 a8 a9 a18 a19 a20 b4 b6 b7 b8 b9 bS br;rw[QOS (by rw[hd];simp)]at hKy;exact⟨v.slots.length-(i+1),by omega,f',fr',i+1,n+1,rfl,rfl,by omega,a4,a6,a7,a8,a9,a18,a19,a20,b4,b6,b7,b8,by rw[b9,hKy,QPi];rfl,by rw[bS,hKy,QQq];rfl,br⟩
   cases hq:XL g y.1 with
   |none=>
    rw[hq]at hdd;simp only[QQh,QPv,Qy,N5,PO.cells,n12,h9,m9,eE,seval];refine QO (l:=[V.sav y]) rfl rfl rfl (by rw[ZG];rfl) ?_;refine QF (site:=1100) (g:=n) (n:=(K i).length) (xs:=(K i).map V.sav) (ys:=[V.sav y]) (by rfl) (by exact mS) rfl (by rw[QPz]) rfl (JG [y]) (by simp only[QOT,QPA,maxLen];omega) (by simp only[QOT,QPA];omega) ?_;simp only[h9,h20,m9,e1,eE,seval];exact keep hdd _ _ (by exact h4) (by exact h6) (by exact h7) (by exact h8) (by exact h9) (by exact h18) (by exact h19) (by rfl) (by exact m4') (by exact m6') (by exact m7') (by exact m8') (by rfl) (by rfl) (Dv rfl rfl)
   |some q=>
    rw[hq]at hdd;dsimp only at hdd;simp only[QPP,QQu,Qy,PO.cells,n12,h6,m6,eE,seval];cases hu:decide (o.union≥0)
    ·rw[hu,QQa]at hdd;simp only[h9,m9,eE,seval];refine QO (l:=[V.sav y]) rfl rfl rfl (by rw[ZG];rfl) ?_;refine QF (site:=1100) (g:=n) (n:=(K i).length) (xs:=(K i).map V.sav) (ys:=[V.sav y]) (by rfl) (by exact mS) rfl (by rw[QPz]) rfl (JG [y]) (by simp only[QOT,QPA,maxLen];omega) (by simp only[QOT,QPA];omega) ?_;simp only[h9,h20,m9,e1,eE,seval];exact keep hdd _ _ (by exact h4) (by exact h6) (by exact h7) (by exact h8) (by exact h9) (by exact h18) (by exact h19) (by rfl) (by exact m4') (by exact m6') (by exact m7') (by exact m8') (by rfl) (by rfl) (Dv rfl rfl)
    ·rw[hu,QQk]at hdd;cases hqu:(q.union==o.union)
     ·rw[hqu]at hdd;simp only[hqu,h6,h9,m6,m9,eE,seval];refine QO (l:=[V.sav y]) rfl rfl rfl (by rw[ZG];rfl) ?_;refine QF (site:=1100) (g:=n) (n:=(K i).length) (xs:=(K i).map V.sav) (ys:=[V.sav y]) (by rfl) (by exact mS) rfl (by rw[QPz]) rfl (JG [y]) (by simp only[QOT,QPA,maxLen];omega) (by simp only[QOT,QPA];omega) ?_;simp only[h9,h20,m9,e1,eE,seval];exact keep hdd _ _ (by exact h4) (by exact h6) (by exact h7) (by exact h8) (by exact h9) (by exact h18) (by exact h19) (by rfl) (by exact m4') (by exact m6') (by exact m7') (by exact m8') (by rfl) (by rfl) (Dv rfl rfl)
     ·rw[hqu]at hdd;simp only[hqu,h6,h20,m6,e1,eE,seval];exact skip hdd _ _ (by exact h4) (by exact h6) (by exact h7) (by exact h8) (by exact h9) (by exact h18) (by exact h19) (by rfl) (by exact m4') (by exact m6') (by exact m7') (by exact m8') (by rfl) (by rfl) (Dv rfl rfl)
  ·rw[hb,QQn]at hdd;simp only[h20,e1,Qb,seval];exact skip hdd _ _ (by exact h4) (by exact h6) (by exact h7) (by exact h8) (by exact h9) (by exact h18) (by exact h19) (by rfl) (by exact m4') (by exact m6') (by exact m7') (by exact m8') (by rfl) (by rfl) (Dv (by rw[Xc _ _ (by decide),n12]<;>rfl) rfl)
 ·have e:i=v.slots.length:=by omega
  subst e;simp only[QS hlt,h6,h7,h9,m6,m7,m9,eE,seval];refine QO (l:=[V.sav (o.num,x)]) rfl rfl rfl (by rw[ZG];rfl) ?_;refine QF (site:=1100) (g:=n) (n:=(K v.slots.length).length) (xs:=(K v.slots.length).map V.sav) (ys:=[V.sav (o.num,x)]) (by rfl) (by exact mS) rfl (by rw[QPz]) rfl (JG [(o.num,x)]) (by simp only[QOT,QPA,maxLen];omega) (by simp only[QOT,QPA];omega) ?_;simp only[h8,h9,m8,m9,eE,seval];have hk:List.take ((K v.slots.length).length+1) ((K v.slots.length).map V.sav++[V.sav (o.num,x)])=(K v.slots.length).map V.sav++[V.sav (o.num,x)]:=QPe (by simp);simp[hk,AV.un,AV.unL,Zv,XH]

def Zz (c:C):Nat×C×Nat:=match Jd c with
 |.ok (n,d)=>(n,d,0)
 |.error e=>(0,c,e)
def KM (w:Int)(c:C):R×C×Nat :=
 if w=2 then(⟨0,w,c.fixed.1,[]⟩,c.fixed.2.1,c.fixed.2.2)
 else if w=3 then(if (Zz c).2.2=0 then(⟨0,w,0,(text (Zz c).2.1 (Zz c).1).1⟩,(text (Zz c).2.1 (Zz c).1).2.1,(text (Zz c).2.1 (Zz c).1).2.2)else(⟨0,0,0,[]⟩,c,(Zz c).2.2))
 else(⟨0,w,c.varint.1,[]⟩,c.varint.2.1,c.varint.2.2)
def Hq (r:R×C×Nat):AV:=.tup [r.1.av,r.2.1.av,.int .i64 (r.2.2:Nat)]

theorem Yj {c:C}{e:Nat}(h:Jd c=.error e):e≠0:=by
 unfold Jd at h;split at h
 ·split at h<;>cases h
  decide
 ·rename_i he;cases h;exact he
theorem L7 {c:C}(hc:CI c)(h:(Zz c).2.2=0):Jd c=.ok ((Zz c).1,(Zz c).2.1)∧As c (Zz c).2.1:=by
 unfold Zz at h ⊢;cases hr:Jd c with
 |error e=>rw[hr]at h;exact absurd h (Yj hr)
 |ok p=>
  obtain⟨n,d⟩:=p;exact⟨rfl,(Jl hc hr).1⟩
theorem YG (w:Int)(c:C):Kp w c=if (KM w c).2.2=0 then .ok ((KM w c).1,(KM w c).2.1)else .error (KM w c).2.2:=by
 unfold KM Kp;by_cases h2:w=2
 ·rw[QOS (by omega),QO9 h2,QO9 h2]
 ·rw[QOS h2,QOS h2];by_cases h3:w=3
  ·rw[QO9 h3,QO9 h3];unfold Zz;cases hr:Jd c with
   |error e=>
    have:=Yj hr;dsimp only;rw[QOS this,QOS this]
   |ok p=>rfl
  ·rw[QOS h3,QOS h3]

theorem CZ {c:C}(hc:CI c):Qj Tryz.prog 124 [c.av] (.tup [.int .i64 ((Zz c).1:Nat),(Zz c).2.1.av,.int .i64 ((Zz c).2.2:Nat)]):=by
 have hvc:=CG c;have hva:=JF hc;have hln:Jd c=if c.varint.2.2=0 then(if c.varint.2.1.left<(c.varint.1:Int)then .error 4 else .ok (c.varint.1,c.varint.2.1))else .error c.varint.2.2:=rfl
 unfold Zz;generalize c.varint=r at hvc hva hln ⊢;obtain⟨u,d,e⟩:=r;dsimp only at hva hln;simp only[X3,C.av]at hvc;refine QJc.fn (by simp) ?_;simp only[C.av,eE,seval];refine Qa hvc rfl rfl rfl (.inl rfl) ?_;by_cases he:e=0
 ·subst he;obtain⟨ha,hu⟩:=hva rfl;have hd:=ha.ci hc;have hdl:=hd.bd;rw[QO9 rfl]at hln;have w1:IntKind.u64.wrap d.left=d.left:=by rw[XY];omega
  have hlf:=Vm d;simp only[C.av]at hlf;simp only[eE,seval];refine Qa hlf rfl rfl rfl (.inl rfl) ?_;by_cases hlt:d.left<(u:Int)
  ·have d1:decide ((u:Int) > d.left)=true:=QQx hlt;rw[QO9 hlt]at hln;rw[hln];simp only[w1,d1,eE,seval]
  ·have d1:decide ((u:Int) > d.left)=false:=QQt hlt;have w2:IntKind.i64.wrap (u:Int)=u:=by rw[QA];omega
   rw[QOS hlt]at hln;rw[hln];simp only[w1,w2,d1,eE,seval]
 ·rw[QOS he]at hln;rw[hln];simp only[Qr he,eE,seval]

theorem Ss {c:C}(hc:CI c)(w:Int):Qj Tryz.prog 135 [.int .i64 w,c.av] (Hq (KM w c)):=by
 have hlc:=CZ hc;have hla:=L7 hc;unfold KM;by_cases h2:w=2
 ·have b2:(w==2)=true:=by simp[h2]
  have hfc:=QsI c;rw[QO9 h2];generalize c.fixed=q at hfc;obtain⟨t,i,e⟩:=q;simp only[X3,C.av]at hfc;dsimp only;refine RI.fn (by simp) ?_;simp only[b2,Hq,C.av,R.av,eE,seval];refine Qa hfc rfl rfl rfl (.inl rfl) ?_;simp only[eE,seval]
 have b2:(w==2)=false:=by simp[h2]
 rw[QOS h2];by_cases h3:w=3
 ·have b3:(w==3)=true:=by simp[h3]
  rw[QO9 h3];generalize Zz c=q at hlc hla;obtain⟨n,d,e⟩:=q;dsimp only at hla;simp only[C.av]at hlc;dsimp only;refine RI.fn (by simp) ?_;simp only[b2,b3,C.av,eE,seval];refine Qa hlc rfl rfl rfl (.inl rfl) ?_;by_cases he:e=0
  ·subst he;have htc:=QKd d n;rw[QO9 rfl];generalize text d n=q at htc;obtain⟨t,i,e⟩:=q;simp only[HM,C.av]at htc;simp only[eE,seval];refine Qa htc rfl rfl rfl (.inl rfl) ?_;simp only[Hq,C.av,R.av,eE,seval]
  ·rw[QOS he];simp only[Qr he,Hq,C.av,R.av,eE,seval]
 ·have b3:(w==3)=false:=by simp[h3]
  have hvc:=CG c;rw[QOS h3];generalize c.varint=q at hvc;obtain⟨t,i,e⟩:=q;simp only[X3,C.av]at hvc;dsimp only;refine RI.fn (by simp) ?_;simp only[b2,b3,Hq,C.av,R.av,eE,seval];refine Qa hvc rfl rfl rfl (.inl rfl) ?_;simp only[eE,seval]

theorem QsU {c:C}(n:Nat):Qj Tryz.prog 125 [c.av,.int .i64 (n:Nat)] (part c n).av:=by
 refine QJf.fn (by simp) ?_;simp only[part,C.av,eE,seval]

theorem Su (c i:C):Qj Tryz.prog 129 [c.av,i.av] (XZ c i).av:=by
 refine QI0.fn (by simp) ?_;simp only[XZ,C.av,eE,seval]

theorem QsV (o:PO):Qj Tryz.prog 126 [Qy o] (Qs o.kind 0 []).av:=by
 rw[show(Qs o.kind 0 []).av=.agg [.int .i64 o.kind,.int .u64 0,.str [],.list [],.list [],.list [],.list []]from Qc _];refine QI5.fn (by simp) ?_;simp only[Qy,PO.cells,eE,seval]

def GeI (v:V)(n:Int)(k:Nat)(st:St):Prop :=
 ∃f fr i,st=⟨f,[fr],[]⟩∧k=v.slots.length-i∧i≤v.slots.length∧((v.slots.find? fun s=>s.1==n)=(v.slots.drop i).find? fun s=>s.1==n)∧f 1=.int .i64 n∧f 2=.ptr 0 2 0∧f 4=.ptr 0 4 0∧f 6=.int .i64 (i:Nat)∧fr 2=.cells (vc v)∧fr 4=.cells XG

theorem P3 (v:V)(n:Int)(hl:v.slots.length≤1099511627776):Qj Tryz.prog 39 [v.av,.int .i64 n] (.tup [(QL v n).av,.bool (Xq v n).isSome]):=by
 rw[Qc v];refine k39.fn (by simp) ?_;simp only[eE,seval];refine Qg (GeI v n) _ ⟨_,_,0,rfl,rfl,QOM _,rfl,(by rfl),(by rfl),(by rfl),(by rfl),(by rfl),(by rfl)⟩ ?_;rintro _ st ⟨f,fr,i,rfl,rfl,hil,hfd,h1,h2,h4,h6,m2',m4'⟩;have m2:=m2';have m4:=m4';simp only[vc]at m2;simp only[XG]at m4;simp only[h2,h6,m2,QPz,eE,seval];by_cases hlt:i<v.slots.length
 ·obtain⟨x,hi⟩:∃x,v.slots[i]? = some x:=⟨v.slots[i],QOH hlt⟩;have hg:=Y4 hi;have e1:=Qx i _ hlt (by simp only[maxLen];omega);rcases P2 hi hfd with⟨hb,hx1,hx2⟩|⟨hb,hfd'⟩
  ·rw[hx1,hx2,Qc x.2];simp only[Qt hlt,Qm,QP7,Qf,hg,hb,h1,h2,h4,h6,m2,m4,QQu,eE,seval]
  ·simp only[Qt hlt,Qm,QP7,Qf,hg,hb,h1,h2,h6,m2,e1,eE,seval];exact⟨v.slots.length-(i+1),by omega,_,_,i+1,rfl,rfl,by omega,hfd',(by exact h1),(by exact h2),(by exact h4),(by rfl),(by exact m2'),(by exact m4')⟩
 ·obtain⟨hx1,hx2⟩:=Vt hlt hfd;rw[hx1,hx2,show(Qs 0 0 []).av=.agg [.int .i64 0,.int .u64 0,.str [],.list [],.list [],.list [],.list []]from Qc _];simp only[QS hlt,h4,m4,QPv,eE,seval]

def PuI (g:PG)(v:V)(o:PO)(x:V)(K:Nat→List (Int×V))(k:Nat)(st:St):Prop :=
 ∃f fr i n,st=⟨f,[fr],[]⟩∧k=v.slots.length-i∧i≤v.slots.length∧f 4=.ptr 0 4 0∧f 5=.ptr 0 5 0∧f 6=.ptr 0 6 0∧f 7=.ptr 0 7 0∧f 8=.ptr 0 8 0∧f 9=.ptr 0 9 0∧f 10=.int .i64 (i:Nat)∧fr 4=.cells g.cells∧fr 5=.cells (vc v)∧fr 6=.cells o.cells∧fr 7=.cells (vc x)∧fr 8=.cells XG∧
  fr 9=.cells [.int .i64 10,.int .u64 0,.str [],.nils,.nils,.vec 0 1100 n 0 (K i).length false,.list (v.raws.map R.av)]∧fr 1100=.vec n 8 ((K i).map V.sav)∧(fr 11).isRow=false

theorem B3 (g:PG)(v:V)(o:PO)(x:V)(hg:g.ops.length≤maxLen)(hl:v.slots.length≤1048576)(hs:∀s∈v.slots,∃q,XL g s.1=some q)(hun : -1≤o.union):Qj Tryz.prog 128 [Qp g,v.av,Qy o,x.av] (Xg g v o x).av:=by
 have co:=fun n=>y75 g hg n
 simp only[U5]at co;simp only[Qp,PG.cells]at co;generalize hK:(fun i=>(v.slots.take i).filter fun s=>!Xs g o s)=K;have hK0:K 0=[]:=by rw[←hK];simp
 have hKn:v.slots.filter (fun s=>!Xs g o s)=K v.slots.length:=by rw[←hK];simp
 have hKl:∀i,i≤v.slots.length→(K i).length≤i:=by
  intro i hi;rw[←hK];exact QOF (List.length_filter_le _ _) (by rw[QPB];omega)
 have hKs:∀(i:Nat) (s:Int×V),v.slots[i]? = some s→K (i+1)=K i++(if Xs g o s=true then []else [s]):=by
  intro i s hs;rw[←hK];show(v.slots.take (i+1)).filter _=(v.slots.take i).filter _++_;rw[QQr,hs,List.filter_append];cases hd:Xs g o s<;>simp[hd]
 rw[show(Xg g v o x).av=.agg [.int .i64 10,.int .u64 0,.str [],.list [],.list [],.list ((K v.slots.length).map V.sav++[V.sav (o.num,x)]),.list (v.raws.map R.av)]from by
  rw[Qc];show AV.agg [.int .i64 10,.int .u64 0,.str [],.list [],.list [],.list ((v.slots.filter (fun s=>!Xs g o s)++[(o.num,x)]).map V.sav),.list (v.raws.map R.av)]=_;rw[hKn,QQq];rfl]
 rw[Qc v,Qc x];clear hKn hK;refine QJi.fn (by simp) ?_;simp only[Qp,Qy,PG.cells,PO.cells,eE,seval];refine Jy (by simp only[Qb,seval]<;>rfl) rfl (by simp only[Qb,seval]<;>rfl) rfl ?_;simp only[List.set,Qb,seval];refine Qg (PuI g v o x K) _ ⟨_,_,0,_,rfl,rfl,QOM _,(by rfl),(by rfl),(by rfl),(by rfl),(by rfl),(by rfl),(by rfl),(by rfl),(by rfl),(by rfl),(by rfl),(by rfl),(by rw[hK0];exact(by rfl)),(by rw[hK0];exact(by rfl)),by rfl⟩ ?_;rintro _ st ⟨f0,fr0,i,n,rfl,rfl,hil,h40,h50,h60,h70,h80,h90,h100,m40,m50,m60,m70,m80,m90,mS0,Yb⟩;refine Q7 (a:=_) [11] (by intro s hs;simp only[QQC]at hs;subst hs;exact Yb) ?_;intro f fr hf hm hn11;have h4:f 4=.ptr 0 4 0:=by rw[hf,h40]<;>rfl
 have h5:f 5=.ptr 0 5 0:=by rw[hf,h50]<;>rfl
 have h6:f 6=.ptr 0 6 0:=by rw[hf,h60]<;>rfl
 have h7:f 7=.ptr 0 7 0:=by rw[hf,h70]<;>rfl
 have h8:f 8=.ptr 0 8 0:=by rw[hf,h80]<;>rfl
 have h9:f 9=.ptr 0 9 0:=by rw[hf,h90]<;>rfl
 have h10:f 10=.int .i64 (i:Nat):=by rw[hf,h100]<;>rfl
 have m4':fr 4=.cells g.cells:=by rw[hm 4 (by decide),m40]<;>rfl
 have m5':fr 5=.cells (vc v):=by rw[hm 5 (by decide),m50]<;>rfl
 have m6':fr 6=.cells o.cells:=by rw[hm 6 (by decide),m60]<;>rfl
 have m7':fr 7=.cells (vc x):=by rw[hm 7 (by decide),m70]<;>rfl
 have m8':fr 8=.cells XG:=by rw[hm 8 (by decide),m80]<;>rfl
 have m9:fr 9=.cells [.int .i64 10,.int .u64 0,.str [],.nils,.nils,.vec 0 1100 n 0 (K i).length false,.list (v.raws.map R.av)]:=by rw[hm 9 (by decide),m90]<;>rfl
 have mS:fr 1100=.vec n 8 ((K i).map V.sav):=by rw[hm 1100 (by decide),mS0]<;>rfl
 have n11:=hn11 11 (by decide);clear hf hm hn11 h40 h50 h60 h70 h80 h90 h100 m40 m50 m60 m70 m80 m90 mS0 Yb;have m4:=m4';have m5:=m5';have m6:=m6';have m7:=m7';have m8:=m8';simp only[PG.cells]at m4;simp only[vc]at m5 m7;simp only[PO.cells]at m6;simp only[XG]at m8;have hKi:=hKl i hil;simp only[h5,h10,m5,QPz,eE,seval];by_cases hlt:i<v.slots.length
 ·obtain⟨y,hi⟩:∃y,v.slots[i]? = some y:=⟨v.slots[i],QOH hlt⟩;obtain⟨q,hq⟩:=hs y (QOR hi);have hgs:=Y4 hi;have e1:=Qx i _ hlt (by simp only[maxLen];omega);have hKy:=hKs i y hi;have c1:=co y.1;have hdd:Xs g o y=(y.1==o.num||(match XL g y.1 with
   |some q=>decide (o.union≥0)&&q.union==o.union
   |none=>false)):=rfl
  rw[hq]at hdd c1;dsimp only at hdd;simp only[QPP,QQu,Qy,PO.cells]at c1;simp only[Qt hlt,Qm,QP7,Qf,hgs,h4,h5,h10,m4,m5,eE,seval];refine Qa c1 rfl rfl rfl (.inl rfl) ?_;simp only[Qm,QP7,Qf,hgs,n11,h5,h6,h10,m5,m6,eE,seval];have skip:Xs g o y=true→∀(f':Fr) (fr':Nat→Ob),f' 4=.ptr 0 4 0→f' 5=.ptr 0 5 0→f' 6=.ptr 0 6 0→f' 7=.ptr 0 7 0→f' 8=.ptr 0 8 0→f' 9=.ptr 0 9 0→f' 10=.int .i64 ((i+1:Nat):Int)→fr' 4=.cells g.cells→fr' 5=.cells (vc v)→fr' 6=.cells o.cells→fr' 7=.cells (vc x)→fr' 8=.cells XG→fr' 9=fr 9→fr' 1100=fr 1100→(fr' 11).isRow=false→∃k,k<v.slots.length-i∧PuI g v o x K k ⟨f',[fr'],[]⟩:=by
   intro hd f' fr' a4 a5 a6 a7 a8 a9 a10 b4 b5 b6 b7 b8 b9 bS br;rw[QO9 hd,QPI]at hKy;exact⟨v.slots.length-(i+1),by omega,f',fr',i+1,n,rfl,rfl,by omega,a4,a5,a6,a7,a8,a9,a10,b4,b5,b6,b7,b8,by rw[b9,m9,hKy],by rw[bS,mS,hKy],br⟩
  have keep:Xs g o y=false→∀(f':Fr) (fr':Nat→Ob),f' 4=.ptr 0 4 0→f' 5=.ptr 0 5 0→f' 6=.ptr 0 6 0→f' 7=.ptr 0 7 0→f' 8=.ptr 0 8 0→f' 9=.ptr 0 9 0→f' 10=.int .i64 ((i+1:Nat):Int)→fr' 4=.cells g.cells→fr' 5=.cells (vc v)→fr' 6=.cells o.cells→fr' 7=.cells (vc x)→fr' 8=.cells XG→fr' 9=.cells [.int .i64 10,.int .u64 0,.str [],.nils,.nils,.vec 0 1100 (n+1) 0 ((K i).length+1) false,.list (v.raws.map R.av)]→fr' 1100=.vec (n+1) 8 ((K i).map V.sav++[V.sav y])→(fr' 11).isRow=false→∃k,k<v.slots.length-i∧PuI g v o x K k ⟨f',[fr'],[]⟩:=by
   intro hd f' fr' a4 a5 a6 a7 a8 a9 a10 b4 b5 b6 b7 b8 b9 bS br;rw[QOS (by rw[hd];simp)]at hKy;exact⟨v.slots.length-(i+1),by omega,f',fr',i+1,n+1,rfl,rfl,by omega,a4,a5,a6,a7,a8,a9,a10,b4,b5,b6,b7,b8,by rw[b9,hKy,QPi];rfl,by rw[bS,hKy,QQq];rfl,br⟩
  cases hb:(y.1==o.num)
  ·have hb':(y.1 != o.num)=true:=by simp[bne,hb]
   rw[hb,QQo]at hdd;cases hu:(o.union == -1)
   ·have hu':decide (o.union≥0)=true:=by simp at hu ⊢;omega
    rw[hu',QQk]at hdd;cases hqu:(q.union==o.union)
    ·have hqu':(q.union != o.union)=true:=by simp[bne,hqu]
     rw[hqu]at hdd;simp only[hb',hu,hqu',Qm,QP7,Qf,hgs,h5,h6,h9,h10,m5,m6,m9,eE,seval];refine QO (l:=[V.sav y]) rfl rfl rfl (by rw[ZG];rfl) ?_;refine QF (site:=1100) (g:=n) (n:=(K i).length) (xs:=(K i).map V.sav) (ys:=[V.sav y]) (by rfl) (by exact mS) rfl (by rw[QPz]) rfl (JG [y]) (by simp only[QOT,QPA,maxLen];omega) (by simp only[QOT,QPA];omega) ?_;simp only[h9,h10,m9,e1,eE,seval];exact keep hdd _ _ (by exact h4) (by exact h5) (by exact h6) (by exact h7) (by exact h8) (by exact h9) (by rfl) (by exact m4') (by exact m5') (by exact m6') (by exact m7') (by exact m8') (by rfl) (by rfl) (by rfl)
    ·have hqu':(q.union != o.union)=false:=by simp[bne,hqu]
     rw[hqu]at hdd;simp only[hb',hu,hqu',h6,h10,m6,e1,eE,seval];exact skip hdd _ _ (by exact h4) (by exact h5) (by exact h6) (by exact h7) (by exact h8) (by exact h9) (by rfl) (by exact m4') (by exact m5') (by exact m6') (by exact m7') (by exact m8') (by rfl) (by rfl) (by rfl)
   ·have hu':decide (o.union≥0)=false:=by simp at hu ⊢;omega
    rw[hu',QQa]at hdd;simp only[hb',hu,Qm,QP7,Qf,hgs,h5,h6,h9,h10,m5,m6,m9,eE,seval];refine QO (l:=[V.sav y]) rfl rfl rfl (by rw[ZG];rfl) ?_;refine QF (site:=1100) (g:=n) (n:=(K i).length) (xs:=(K i).map V.sav) (ys:=[V.sav y]) (by rfl) (by exact mS) rfl (by rw[QPz]) rfl (JG [y]) (by simp only[QOT,QPA,maxLen];omega) (by simp only[QOT,QPA];omega) ?_;simp only[h9,h10,m9,e1,eE,seval];exact keep hdd _ _ (by exact h4) (by exact h5) (by exact h6) (by exact h7) (by exact h8) (by exact h9) (by rfl) (by exact m4') (by exact m5') (by exact m6') (by exact m7') (by exact m8') (by rfl) (by rfl) (by rfl)
  ·have hb':(y.1 != o.num)=false:=by simp[bne,hb]
   rw[hb,QQn]at hdd;simp only[hb',h10,e1,Qb,seval];exact skip hdd _ _ (by exact h4) (by exact h5) (by exact h6) (by exact h7) (by exact h8) (by exact h9) (by rfl) (by exact m4') (by exact m5') (by exact m6') (by exact m7') (by exact m8') (by rfl) (by rfl) (by rfl)
 ·have e:i=v.slots.length:=by omega
  subst e;simp only[QS hlt,h6,h7,h9,m6,m9,m7,eE,seval];refine QO (l:=[V.sav (o.num,x)]) rfl rfl rfl (by rw[ZG];rfl) ?_;refine QF (site:=1100) (g:=n) (n:=(K v.slots.length).length) (xs:=(K v.slots.length).map V.sav) (ys:=[V.sav (o.num,x)]) (by rfl) (by exact mS) rfl (by rw[QPz]) rfl (JG [(o.num,x)]) (by simp only[QOT,QPA,maxLen];omega) (by simp only[QOT,QPA];omega) ?_;simp only[h8,h9,m9,m8,eE,seval];have hk:List.take ((K v.slots.length).length+1) ((K v.slots.length).map V.sav++[V.sav (o.num,x)])=(K v.slots.length).map V.sav++[V.sav (o.num,x)]:=QPe (by simp);simp[hk,AV.un,AV.unL,Zv,XH]

theorem j77 (v:V)(x:R)(hl:v.raws.length≤1048576):Qj Tryz.prog 77 [v.av,x.av] (Wf v x).av:=by
 rw[show(Wf v x).av=.agg [.int .i64 v.kd,.int .u64 (v.bits:Nat),.str v.text,.list (v.list.map V.av),.list (v.pairs.map V.pav),.list (v.slots.map V.sav),.list (v.raws.map R.av++[x.av])]from by
  rw[Qc];show AV.agg [.int .i64 v.kd,.int .u64 (v.bits:Nat),.str v.text,.list (v.list.map V.av),.list (v.pairs.map V.pav),.list (v.slots.map V.sav),.list ((v.raws++[x]).map R.av)]=_;rw[QQq];rfl]
 rw[Qc v];refine k77.fn (by simp) ?_;simp only[R.av,eE,seval];refine XN rfl ?_;simp only[eE,seval];refine QF (site:=5) (g:=_) (n:=0) (xs:=[]) (ys:=v.raws.map R.av) (by simp only[Qb,seval]<;>rfl) (by simp only[Qb,seval]<;>rfl) rfl rfl rfl (Y8 v.raws) (by simp[maxLen];omega) (by simp;omega) ?_;simp only[QPz,QO1,QPm,eE,seval];refine QO (l:=[x.av]) rfl rfl rfl rfl ?_;refine QF (site:=5) (g:=_) (n:=v.raws.length) (xs:=v.raws.map R.av) (ys:=[x.av]) (by simp only[Qb,seval]<;>rfl) (by simp only[Qb,seval]<;>rfl) rfl (by simp) rfl (Y8 [x]) (by simp[maxLen];omega) (by simp;omega) ?_;simp only[eE,seval];have hk:List.take (v.raws.length+1) (v.raws.map R.av++[x.av])=v.raws.map R.av++[x.av]:=QPe (by simp);simp only[R.av]at hk;simp[hk,AV.un,AV.unL,Zv,XH,R.av]

theorem QsX (g:PG)(v:V)(o:PO)(x:V)(hg:g.ops.length≤maxLen)(hl:v.slots.length≤1048576)(hs:∀s∈v.slots,∃q,XL g s.1=some q)(hun : -1≤o.union)(hol:(QL v o.num).list.length≤1048576):Qj Tryz.prog 134 [Qp g,v.av,Qy o,x.av] (Xg g v o (Q5 ((QL v o.num).list++[x]))).av:=by
 have hge:=P3 v o.num (by omega);have hpu:=B3 g v o (Q5 ((QL v o.num).list++[x])) hg hl hs hun;generalize QL v o.num=z at hge hpu hol ⊢;rw[show(Q5 (z.list++[x])).av=.agg [.int .i64 11,.int .u64 0,.str [],.list (z.list.map V.av++[x.av]),.list [],.list [],.list []]from by
  rw[Qc];show AV.agg [.int .i64 11,.int .u64 0,.str [],.list ((z.list++[x]).map V.av),.list [],.list [],.list []]=_;rw[QQq];rfl]at hpu
 generalize Xg g v o (Q5 (z.list++[x]))=w at hpu ⊢;have hx7:=Qc x;rw[Qc v,Qc z]at hge;rw[Qc v,Qc w]at hpu;simp only[Qp,Qy,PG.cells,PO.cells]at hpu;rw[Qc v,Qc w,hx7];refine QJo.fn (by simp) ?_;simp only[Qp,Qy,PG.cells,PO.cells,eE,seval];refine Qa hge rfl rfl rfl (.inl rfl) ?_;simp only[eE,seval];refine XN rfl ?_;simp only[eE,seval];refine QF (site:=21) (g:=_) (n:=0) (xs:=[]) (ys:=z.list.map V.av) (by simp only[Qb,seval]<;>rfl) (by simp only[Qb,seval]<;>rfl) rfl rfl rfl (Dx z.list) (by simp[maxLen];omega) (by simp;omega) ?_;simp only[QPz,QO1,QPm,eE,seval];refine QO (l:=[x.av]) rfl rfl rfl (by rw[hx7];rfl) ?_;refine MU (site:=21) (g:=_) (n:=z.list.length) (xs:=z.list.map V.av) (ys:=[x.av]) (by simp only[Qb,seval]<;>rfl) (by simp only[Qb,seval]<;>rfl) rfl (by simp) rfl (Dx [x]) (by simp[maxLen];omega) (by simp;omega) ?_;simp only[eE,seval];refine Qa hpu rfl rfl rfl (.inl rfl) ?_;simp only[eE,seval]

def Q1 (P:PL)(c:C):Ob:=.cells [.list (P.progs.map Qp),.list (P.enums.map QV),.str c.d,.int .i64 c.a,.int .i64 c.e,.int .i64 c.dp,.int .i64 c.nd,.int .i64 c.tx]

def Rt (P:PL)(l s:Nat)(m:Qh){α:Type}(f:α→AV)(r:Rd α)(x:AV)(m1:Qh):Prop :=
 match r with
 |.ok (a,d)=>x=.tup [f a,.int .i64 0]∧m1=Am.put m l s (Q1 P d)
 |.error e=>e≠0∧∃a d,x=.tup [f a,.int .i64 (e:Nat)]∧m1=Am.put m l s (Q1 P d)

theorem put_put {m:Qh}{l s:Nat}{o q:Ob}:Am.put (Am.put m l s o) l s q=Am.put m l s q:=by
 induction m generalizing l with
 |nil=>rfl
 |cons fr m ih=>
  cases l with
  |zero=>
   show QG (QG fr s o) s q :: m=QG fr s q :: m;rw[NF]
  |succ l=>exact congrArg (fr :: ·) ih
theorem put_self {m:Qh}{l s:Nat}{o:Ob}(hm:l<m.length)(h:Am.Qd m l s=o):Am.put m l s o=m:=by
 induction m generalizing l with
 |nil=>rfl
 |cons fr m ih=>
  cases l with
  |zero=>
   show QG fr s o :: m=fr :: m;congr 1
   funext i;by_cases e:i=s
   ·subst e;rw[Xe];exact h.symm
   ·rw[Xc _ _ e]
  |succ l=>exact congrArg (fr :: ·) (ih (by simpa using hm) h)

theorem ZM (d:List UInt8)(a e dp nd tx:Int):∀n,AV.shNL n [.str d,.int .i64 a,.int .i64 e,.int .i64 dp,.int .i64 nd,.int .i64 tx]=[.str d,.int .i64 a,.int .i64 e,.int .i64 dp,.int .i64 nd,.int .i64 tx]
 |0=>rfl
 |n+1=>by show AV.shL (AV.shNL n _)=_;rw[ZM d a e dp nd tx n];rfl
theorem sh2 (a b:List AV):∀n,AV.shNL n [.list a,.list b]=[.list a,.list b]
 |0=>rfl
 |n+1=>by show AV.shL (AV.shNL n _)=_;rw[sh2 a b n];rfl
theorem Kr (k:IntKind)(v:Int):∀n,(AV.int k v).shN n=.int k v
 |0=>rfl
 |n+1=>by show(AV.shN n _).sh=_;rw[Kr k v n];rfl
theorem shl (a:List AV):∀n,(AV.list a).shN n=.list a
 |0=>rfl
 |n+1=>by show(AV.shN n _).sh=_;rw[shl a n];rfl
theorem ZA (d:List UInt8)(a e dp nd tx:Int):∀n,AV.unNL n [.str d,.int .i64 a,.int .i64 e,.int .i64 dp,.int .i64 nd,.int .i64 tx]=some [.str d,.int .i64 a,.int .i64 e,.int .i64 dp,.int .i64 nd,.int .i64 tx]
 |0=>rfl
 |n+1=>by
  show(AV.unL _).bind (AV.unNL n)=_;exact ZA d a e dp nd tx n
theorem P4 (k:IntKind)(v:Int):∀n,AV.unNL n [.int k v]=some [.int k v]
 |0=>rfl
 |n+1=>by
  show(AV.unL _).bind (AV.unNL n)=_;exact P4 k v n

def G5:AV→AV
 |.agg l=>.agg (l.map nn0)
 |x=>x
theorem Rep.nz {G:Gh}{x:AV}{v:Value}(h:Rep G x v):Rep G (G5 x) v:=by
 unfold G5;split
 ·cases h with
  |agg h=>exact .agg h.nn0
 ·exact h
theorem RepL.nz {G:Gh}:∀ {l:List AV} {vs:List Value},RepL G l vs→RepL G (l.map G5) vs
 | [],_,h=>by cases h;exact .nil
 |_ :: _,_,h=>by
  cases h with
  |cons h t=>exact .cons (Rep.nz h) (RepL.nz t)
theorem J8 {P:Program}{f:Fr}{m:Qh}{ds:List DF}{K:St→Prop}{Qe:List Am.Item}{d k:Nat}{args:List RA}{ys:List AV}{R:AV→Qh→Prop}(hk:Qu P k ys m R)(hy:(args.map (RA.ev f)).map G5=ys)(h:∀x m',R x m'→m'.length=m.length→QC P Qe ⟨QG f d x,m',ds⟩ K) :
  QC P (⟨some d,.callG (.f k) args,none⟩ :: Qe) ⟨f,m,ds⟩ K :=
 QH ⟨hk.1,fun G w vs hv hm=>hk.2 G w vs (by rw[←hy];exact RepL.nz hv) hm⟩ rfl h

theorem QN (m:Qh)(l s:Nat)(o:Ob):(Am.put m l s o).length=m.length:=by
 induction m generalizing l with
 |nil=>rfl
 |cons fr m ih=>
  cases l with
  |zero=>rfl
  |succ l=>exact congrArg (· + 1) (ih l)

section
variable (P:PL)(c:C)(l s:Nat)(m:Qh)(hm:l<m.length)(hs:Am.Qd m l s=Q1 P c)

include hs in
theorem B4 (n:Int) :
  Qu Tryz.prog 25 [.ptr l s 0,.int .i64 n] m fun x m1=>x=.int .i64 ((c.spend n).2:Nat)∧m1=Am.put m l s (Q1 P (c.spend n).1):=by
 simp only[Q1]at hs;refine k25.go (by simp) ?_;simp only[hs,ZM,eE,seval];refine Qa (c47 c n) rfl rfl rfl (.inl rfl) ?_;generalize c.spend n=r;obtain⟨c',e⟩:=r;simp only[Z6,C.av,Q1,hs,ZM,ZA,QN,eE,seval]

include hs hm in
theorem C0 (hc:CI c):Qu Tryz.prog 142 [.ptr l s 0] m (Rt P l s m (fun n:Nat=>.int .i64 (n:Nat)) (Jd c)):=by
 have hs0:=hs;simp only[Q1]at hs;refine Qdn.go (by simp) ?_;simp only[hs,ZM,eE,seval];refine Qa (Vn c hc.big) rfl rfl rfl (.inl rfl) ?_;have hva:=JF hc;have hln:Jd c=if c.varint.2.2=0 then(if c.varint.2.1.left<(c.varint.1:Int)then .error 4 else .ok (c.varint.1,c.varint.2.1))else .error c.varint.2.2:=rfl
 generalize c.varint=r at hva hln ⊢;obtain⟨u,d,e⟩:=r;dsimp only at hva hln;by_cases he:e=0
 ·subst he;obtain⟨ha,hu⟩:=hva rfl;have hd:=ha.ci hc;have hdl:=hd.bd;rw[QO9 rfl]at hln;have w1:IntKind.u64.wrap d.left=d.left:=by rw[XY];omega
  simp only[X3,C.av,ZM,ZA,eE,seval];refine Qa (DZ d hd.big') rfl rfl rfl (.inl rfl) ?_;by_cases hlt:d.left<(u:Int)
  ·have d1:decide ((u:Int) > d.left)=true:=QQx hlt;rw[QO9 hlt]at hln;rw[hln];simp only[w1,d1,Qb,seval];exact⟨by decide,0,c,rfl,(put_self hm hs0).symm⟩
  ·have d1:decide ((u:Int) > d.left)=false:=QQt hlt;have w2:IntKind.i64.wrap (u:Int)=u:=by rw[QA];omega
   rw[QOS hlt]at hln;rw[hln];simp only[w1,w2,d1,hs,ZM,ZA,QN,eE,seval];exact⟨rfl,rfl⟩
 ·rw[QOS he]at hln;rw[hln];simp only[X3,C.av,Qr he,ZA,eE,seval];exact⟨he,0,c,rfl,(put_self hm hs0).symm⟩

include hs hm in
theorem QsZ (hc:CI c)(w:Int):Qu Tryz.prog 151 [.ptr l s 0,.int .i64 w] m (Rt P l s m R.av (Kp w c)):=by
 have hs0:=hs;have lp:∀o,Am.Qd (Am.put m l s o) l s=o:=fun o=>Ql hm
 have pp:∀o q,Am.put (Am.put m l s o) l s q=Am.put m l s q:=fun o q=>put_put
 simp only[Q1]at hs;refine Qer.go (by simp) ?_;simp only[eE,seval];by_cases h3:w=3
 ·have b3:(w==3)=true:=by simp[h3]
  simp only[b3,Qb,seval];refine QH (C0 P c (l+1) s _ (Nat.succ_lt_succ hm) hs0 hc) (by simp only[QPc,QPG,Qb,seval]) ?_;intro x m1 hx _;cases hr:Jd c with
  |error e=>
   have hrc:Kp w c=.error e:=by unfold Kp;rw[QO9 h3,hr]
   rw[hr]at hx;obtain⟨he,a,c',rfl,rfl⟩:=hx;rw[hrc];simp only[Qr he,QN,eE,seval];exact⟨he,⟨0,w,0,[]⟩,c',rfl,rfl⟩
  |ok p=>
   obtain⟨n,d⟩:=p;obtain⟨a1,a2⟩:=Jl hc hr;have hd:=a1.ci hc;have hrc:Kp w c=if (text d n).2.2=0 then .ok (⟨0,w,0,(text d n).1⟩,(text d n).2.1)else .error (text d n).2.2:=by unfold Kp;rw[QO9 h3,hr]
   rw[hr]at hx;obtain⟨rfl,rfl⟩:=hx;simp only[Q1,lp,ZM,eE,seval];refine Qa (QKc d n hd.inr hd.big') rfl rfl rfl (.inl rfl) ?_;rw[hrc];generalize text d n=q;obtain⟨t,i,e⟩:=q;dsimp only;simp only[HM,C.av,lp,pp,ZA,QN,eE,seval];by_cases he:e=0
   ·subst he;rw[QO9 rfl];exact⟨rfl,rfl⟩
   ·rw[QOS he];exact⟨he,⟨0,w,0,t⟩,i,rfl,rfl⟩
 have b3:(w==3)=false:=by simp[h3]
 by_cases h2:w=2
 ·have b2:(w==2)=true:=by simp[h2]
  simp only[b3,b2,hs,ZM,eE,seval];refine Qa (QsH c hc.big) rfl rfl rfl (.inl rfl) ?_;have hrc:Kp w c=if c.fixed.2.2=0 then .ok (⟨0,w,c.fixed.1,[]⟩,c.fixed.2.1)else .error c.fixed.2.2:=by unfold Kp;rw[QOS h3,QO9 h2]
  rw[hrc];generalize c.fixed=q;obtain⟨t,i,e⟩:=q;dsimp only;simp only[X3,C.av,hs,ZA,P4,QN,eE,seval];by_cases he:e=0
  ·subst he;rw[QO9 rfl];exact⟨rfl,rfl⟩
  ·rw[QOS he];exact⟨he,⟨0,w,t,[]⟩,i,rfl,rfl⟩
 ·have b2:(w==2)=false:=by simp[h2]
  simp only[b3,b2,hs,ZM,eE,seval];refine Qa (Vn c hc.big) rfl rfl rfl (.inl rfl) ?_;have hrc:Kp w c=if c.varint.2.2=0 then .ok (⟨0,w,c.varint.1,[]⟩,c.varint.2.1)else .error c.varint.2.2:=by unfold Kp;rw[QOS h3,QOS h2]
  rw[hrc];generalize c.varint=q;obtain⟨t,i,e⟩:=q;dsimp only;simp only[X3,C.av,hs,ZA,P4,QN,eE,seval];by_cases he:e=0
  ·subst he;rw[QO9 rfl];exact⟨rfl,rfl⟩
  ·rw[QOS he];exact⟨he,⟨0,w,t,[]⟩,i,rfl,rfl⟩

include hs in
theorem Qs0 (n:Nat) :
  Qu Tryz.prog 143 [.ptr l s 0,.int .i64 (n:Nat)] m fun x m1=>x=c.av∧m1=Am.put m l s (Q1 P (part c n)):=by
 simp only[Q1]at hs;refine Qdu.go (by simp) ?_;simp only[hs,ZM,Kr,ZA,P4,QN,part,Q1,C.av,eE,seval]

include hs in
theorem C1 (o:C) :
  Qu Tryz.prog 145 [.ptr l s 0,o.av] m fun x m1=>x=.tup []∧m1=Am.put m l s (Q1 P (XZ o c)):=by
 simp only[Q1]at hs;refine QdA.go (by simp) ?_;simp only[hs,ZM,Kr,ZA,P4,QN,XZ,Q1,C.av,eE,seval]

end

theorem XO (k:Int)(b:Nat)(t:List UInt8):(Qs k b t).av=.agg [.int .i64 k,.int .u64 (b:Nat),.str t,.list [],.list [],.list [],.list []]:=Qc _
def X4 (r:V×Nat):AV:=.tup [r.1.av,.int .i64 (r.2:Nat)]
theorem B5 {k:Int}{b:Nat}(hk:isk k=true)(ht:XV k=false):Zn k k b [] [] [] [] []=ZR k b:=by
 have k7:(k != 7)=true:=by
  unfold XV at ht;rw[QPy,QQp]at ht;simp[ht.1]
 unfold Zn;rw[hk,ht,k7];simp[Wr]

section
variable (n:Int)(s a:List UInt8)(c y k t u:Int)
theorem QKD:Qj Tryz.prog 93 [oc n s a c y k t u] (.int .i64 (wk k)):=P1 ⟨n,s,a,c,y,k,t,u⟩
theorem C2:Qj Tryz.prog 132 [oc n s a c y k t u] (oc n s a 2 y k t u):=by
 refine QJl.fn (by simp) ?_;simp only[oc,eE,seval]
theorem DA:Qj Tryz.prog 81 [oc n s a c y k t u] (.int .i64 (wk k)):=by
 have hS:=C2 n s a c y k t u;have hw:=QJq n s a 2 y k t u;have e:Hi 2 k=wk k:=by unfold Hi pk;simp
 rw[e]at hw;simp only[oc]at hw hS;refine k81.fn (by simp) ?_;simp only[oc,eE,seval];refine Qa hS rfl rfl rfl (.inl rfl) ?_;refine Qa hw rfl rfl rfl (.inl rfl) ?_;simp only[Qb,seval]
end

theorem B6 (b:Nat)(_hb:b<18446744073709551616):IntKind.u64.wrap (BA b)=(Xr 1 b:Int)∧Xr 1 b<18446744073709551616:=by
 unfold Xr;rw[QO9 rfl,XY];omega

theorem P5 {k:Int}(hk:isk k=true)(h:wk k≠3):XV k=false:=by
 unfold wk at h;unfold XV;rw[QPy,QQp,QQp];refine⟨fun e=>?_,fun e=>?_⟩<;>(subst e;exact h (by decide))

section
variable {M:Nat}(P:PL)(hP:P.ok M)
include hP in
theorem QDx (n:Int)(s a:List UInt8)(c y k t u:Int)(f:R)(hb:f.bits<18446744073709551616) :
    Qj Tryz.prog 152 [P.av,oc n s a c y k t u,f.av] (X4 (Q9 P k t f)):=by
  have hw:=QKD n s a c y k t u;have hacc:∀b,_:=fun b=>QJW P hP t b
  have e0:P.av=.agg [.list (P.progs.map Qp),.list (P.enums.map QV)]:=rfl;simp only[oc]at hw;simp only[e0]at hacc;have hfn:∀B:Nat,XV k=false→isk k=true→Qj Tryz.prog 186 [.int .i64 k,.agg [.int .i64 k,.int .u64 (B:Nat),.str [],.list [],.list [],.list [],.list []]] (.bool (ZR k B)):=fun B h1 h2=>by
    have h:=QJL k k B [] [] [] [] [] (QOM _) (QOM _) (QOM _) (QOM _);rw[B5 h2 h1]at h;exact h
  have hnm:∀B:Nat,B<18446744073709551616→Qj Tryz.prog 104 [.agg [.int .i64 k,.int .u64 (B:Nat),.str [],.list [],.list [],.list [],.list []]] (.agg [.int .i64 k,.int .u64 ((Zi k B:Nat):Int),.str [],.list [],.list [],.list [],.list []]):=fun B hB=>by
    have h:=Sl (Qs k B []) hB;rw[GY,XO]at h;exact h
  refine QeE.fn (by simp) ?_;simp only[e0,oc,R.av,eE,seval];refine Qa (Ba k) rfl rfl rfl (.inl rfl) ?_;cases hk:isk k
  · have hs:Q9 P k t f=(Qs 0 0 [],12):=by unfold Q9;rw[QOS (by rw[hk];decide)]
    simp only[hs,X4,XO,splice,QPd,QPN,QPg,QPn,QO1,QOT,QPA,eE,seval]
    try rfl
  simp only[eE,seval];refine Qa hw rfl rfl rfl (.inl rfl) ?_;by_cases h1:f.wire=wk k
  case neg=>
    have hs:Q9 P k t f=(Qs 0 0 [],13):=by unfold Q9;rw[QO9 hk,QOS h1]
    have b1:(f.wire != wk k)=true:=by simp[h1]
    simp only[b1,hs,X4,XO,splice,QPd,QPN,QPg,QPn,QO1,QOT,QPA,eE,seval]
    try rfl
  have b1:(f.wire != wk k)=false:=by simp[h1]
  simp only[b1,eE,seval];by_cases h3:f.wire=3
  · have b3:(f.wire==3)=true:=by simp[h3]
    simp only[b3,eE,seval];by_cases h7:k=7
    · have b7:(k==7)=true:=by simp[h7]
      simp only[b7,eE,seval];refine Qa (Qsd f.data) rfl rfl rfl (.inl rfl) ?_;cases hv:Yz f.data
      · have hs:Q9 P k t f=(Qs 0 0 [],7):=by unfold Q9;rw[QO9 hk,QO9 h1,QO9 h3,QO9 ⟨h7,hv⟩]
        simp only[hs,X4,XO,splice,QPd,QPN,QPg,QPn,QO1,QOT,QPA,eE,seval]
        try rfl
      · have hs:Q9 P k t f=(Qs k 0 f.data,0):=by unfold Q9;rw[QO9 hk,QO9 h1,QO9 h3,QOS (by rw[hv];simp)]
        simp only[hs,X4,XO,splice,QPd,QPN,QPg,QPn,QO0,QO1,QOT,QPA,eE,seval]
        try rfl
    · have b7:(k==7)=false:=by simp[h7]
      have hs:Q9 P k t f=(Qs k 0 f.data,0):=by unfold Q9;rw[QO9 hk,QO9 h1,QO9 h3,QOS (by simp[h7])]
      simp only[b7,hs,X4,XO,splice,QPd,QPN,QPg,QPn,QO0,QO1,QOT,QPA,eE,seval]
      try rfl
  have b3:(f.wire==3)=false:=by simp[h3]
  have htx:=P5 hk (h1▸h3);simp only[b3,splice,QPd,QPN,QPg,QPn,QO0,QO1,QOT,QPA,eE,seval];have hfit:∀B:Nat,B=Xr f.wire f.bits→ZR k B=false→Q9 P k t f=(Qs 0 0 [],6):=by
    intro B e hh;unfold Q9;rw[QO9 hk,QO9 h1,QOS h3,←e,QOS (by rw[hh];decide)]
  have hen:∀B:Nat,B=Xr f.wire f.bits→ZR k B=true→k=9→Jc P.enums t B=false→Q9 P k t f=(Qs 0 0 [],16):=by
    intro B e hh h9 ha;unfold Q9;rw[QO9 hk,QO9 h1,QOS h3,←e,QO9 hh,QO9 ⟨h9,ha⟩]
  have hno:∀B:Nat,B=Xr f.wire f.bits→ZR k B=true→(k=9→Jc P.enums t B=true)→Q9 P k t f=(Qs k (Zi k B) [],0):=by
    intro B e hh ha;unfold Q9;rw[QO9 hk,QO9 h1,QOS h3,←e,QO9 hh,QOS (by rintro⟨h9,hf⟩;rw[ha h9]at hf;cases hf)]
  have hz:=QKl (f.bits:Int) (by omega) (by omega);obtain⟨hzw,hzl⟩:=B6 f.bits hb;by_cases hw1:f.wire=1
  all_goals
    first
      | (have bw:(f.wire==1)=true:=by simp[hw1]
         simp only[bw,eE,seval];refine Qa hz rfl rfl rfl (.inl rfl) ?_;simp only[hzw,splice,QPd,QPN,QPg,QPn,QO0,QO1,QOT,QPA,eE,seval];have eB:Xr 1 f.bits=Xr f.wire f.bits:=by rw[hw1]
         have hB:=hzl;generalize Xr 1 f.bits=B at eB hB)
      | (have bw:(f.wire==1)=false:=by simp[hw1]
         simp only[bw,QPd,QPn,QOT,QPA,eE,seval];obtain⟨B,hBe⟩:∃B,f.bits=B:=⟨_,rfl⟩;rw[hBe];have eB:B=Xr f.wire f.bits:=by unfold Xr;rw[QOS hw1];exact hBe.symm
         have hB:=hb;rw[hBe]at hB)
    refine Qa (hfn _ htx hk) rfl rfl rfl (.inl rfl) ?_;cases hft:ZR k B
    · simp only[hfit B eB hft,X4,XO,splice,QPd,QPN,QPg,QPn,QO1,QOT,QPA,eE,seval]
      try rfl
    simp only[eE,seval];by_cases h9:k=9
    · have b9:(k==9)=true:=by simp[h9]
      simp only[b9,eE,seval];refine Qa (hacc B) rfl rfl rfl (.inl rfl) ?_;cases ha:Jc P.enums t B
      · simp only[hen B eB hft h9 ha,X4,XO,splice,QPd,QPN,QPg,QPn,QO1,QOT,QPA,eE,seval]
        try rfl
      · simp only[eE,seval];refine Qa (hnm _ hB) rfl rfl rfl (.inl rfl) ?_;simp only[hno B eB hft (fun _=>ha),X4,XO,splice,QPd,QPN,QPg,QPn,QO1,QOT,QPA,eE,seval]
    · have b9:(k==9)=false:=by simp[h9]
      simp only[b9,eE,seval];refine Qa (hnm _ hB) rfl rfl rfl (.inl rfl) ?_;simp only[hno B eB hft (fun h=>absurd h h9),X4,XO,splice,QPd,QPN,QPg,QPn,QO1,QOT,QPA,eE,seval]

include hP in
theorem QDy (n:Int)(s a:List UInt8)(c y k t u:Int)(f:R)(hb:f.bits<18446744073709551616)(hd:f.data.length+8≤maxLen) :
    Qj Tryz.prog 136 [P.av,oc n s a c y k t u,f.av] (X4 (Q9 P k t f)):=by
  have hw:=DA n s a c y k t u;have hacc:∀b,_:=fun b=>QJX P hP t b
  have e0:P.av=.agg [.list (P.progs.map Qp),.list (P.enums.map QV)]:=rfl;simp only[oc]at hw;simp only[e0]at hacc;have hfn:∀B:Nat,XV k=false→isk k=true→Qj Tryz.prog 169 [.int .i64 k,.agg [.int .i64 k,.int .u64 (B:Nat),.str [],.list [],.list [],.list [],.list []]] (.bool (ZR k B)):=fun B h1 h2=>by
    have h:=QJ3 k k B [] [] [] [] [] (by decide);rw[B5 h2 h1]at h;exact h
  have hnm:∀B:Nat,B<18446744073709551616→Qj Tryz.prog 86 [.agg [.int .i64 k,.int .u64 (B:Nat),.str [],.list [],.list [],.list [],.list []]] (.agg [.int .i64 k,.int .u64 ((Zi k B:Nat):Int),.str [],.list [],.list [],.list [],.list []]):=fun B hB=>by
    have h:=v86 (Qs k B []) hB;rw[GY,XO]at h;exact h
  refine QIX.fn (by simp) ?_;simp only[e0,oc,R.av,eE,seval];refine Qa (Dk k) rfl rfl rfl (.inl rfl) ?_;cases hk:isk k
  · have hs:Q9 P k t f=(Qs 0 0 [],12):=by unfold Q9;rw[QOS (by rw[hk];decide)]
    simp only[hs,X4,XO,splice,QPd,QPN,QPg,QPn,QO1,QOT,QPA,eE,seval]
    try rfl
  simp only[eE,seval];refine Qa hw rfl rfl rfl (.inl rfl) ?_;by_cases h1:f.wire=wk k
  case neg=>
    have hs:Q9 P k t f=(Qs 0 0 [],13):=by unfold Q9;rw[QO9 hk,QOS h1]
    have b1:(f.wire != wk k)=true:=by simp[h1]
    simp only[b1,hs,X4,XO,splice,QPd,QPN,QPg,QPn,QO1,QOT,QPA,eE,seval]
    try rfl
  have b1:(f.wire != wk k)=false:=by simp[h1]
  simp only[b1,eE,seval];by_cases h3:f.wire=3
  · have b3:(f.wire==3)=true:=by simp[h3]
    simp only[b3,eE,seval];by_cases h7:k=7
    · have b7:(k==7)=true:=by simp[h7]
      simp only[b7,eE,seval];refine Qa (Ck f.data hd) rfl rfl rfl (.inl rfl) ?_;cases hv:Yz f.data
      · have hs:Q9 P k t f=(Qs 0 0 [],7):=by unfold Q9;rw[QO9 hk,QO9 h1,QO9 h3,QO9 ⟨h7,hv⟩]
        simp only[hs,X4,XO,splice,QPd,QPN,QPg,QPn,QO1,QOT,QPA,eE,seval]
        try rfl
      · have hs:Q9 P k t f=(Qs k 0 f.data,0):=by unfold Q9;rw[QO9 hk,QO9 h1,QO9 h3,QOS (by rw[hv];simp)]
        simp only[hs,X4,XO,splice,QPd,QPN,QPg,QPn,QO0,QO1,QOT,QPA,eE,seval]
        try rfl
    · have b7:(k==7)=false:=by simp[h7]
      have hs:Q9 P k t f=(Qs k 0 f.data,0):=by unfold Q9;rw[QO9 hk,QO9 h1,QO9 h3,QOS (by simp[h7])]
      simp only[b7,hs,X4,XO,splice,QPd,QPN,QPg,QPn,QO0,QO1,QOT,QPA,eE,seval]
      try rfl
  have b3:(f.wire==3)=false:=by simp[h3]
  have htx:=P5 hk (h1▸h3);simp only[b3,Qb,seval];have hfit:∀B:Nat,B=Xr f.wire f.bits→ZR k B=false→Q9 P k t f=(Qs 0 0 [],6):=by
    intro B e hh;unfold Q9;rw[QO9 hk,QO9 h1,QOS h3,←e,QOS (by rw[hh];decide)]
  have hen:∀B:Nat,B=Xr f.wire f.bits→ZR k B=true→k=9→Jc P.enums t B=false→Q9 P k t f=(Qs 0 0 [],16):=by
    intro B e hh h9 ha;unfold Q9;rw[QO9 hk,QO9 h1,QOS h3,←e,QO9 hh,QO9 ⟨h9,ha⟩]
  have hno:∀B:Nat,B=Xr f.wire f.bits→ZR k B=true→(k=9→Jc P.enums t B=true)→Q9 P k t f=(Qs k (Zi k B) [],0):=by
    intro B e hh ha;unfold Q9;rw[QO9 hk,QO9 h1,QOS h3,←e,QO9 hh,QOS (by rintro⟨h9,hf⟩;rw[ha h9]at hf;cases hf)]
  have hz:=QKm (f.bits:Int) (by omega) (by omega);obtain⟨hzw,hzl⟩:=B6 f.bits hb;by_cases hw1:f.wire=1
  all_goals
    first
      | (have bw:(f.wire==1)=true:=by simp[hw1]
         simp only[bw,eE,seval];refine Qa hz rfl rfl rfl (.inl rfl) ?_;simp only[hzw,splice,QPd,QPN,QPg,QPn,QO0,QO1,QOT,QPA,eE,seval];have eB:Xr 1 f.bits=Xr f.wire f.bits:=by rw[hw1]
         have hB:=hzl;generalize Xr 1 f.bits=B at eB hB)
      | (have bw:(f.wire==1)=false:=by simp[hw1]
         simp only[bw,splice,QPd,QPN,QPg,QPn,QO0,QO1,QOT,QPA,eE,seval];obtain⟨B,hBe⟩:∃B,f.bits=B:=⟨_,rfl⟩;rw[hBe];have eB:B=Xr f.wire f.bits:=by unfold Xr;rw[QOS hw1];exact hBe.symm
         have hB:=hb;rw[hBe]at hB)
    refine Qa (hfn _ htx hk) rfl rfl rfl (.inl rfl) ?_;cases hft:ZR k B
    · simp only[hfit B eB hft,X4,XO,splice,QPd,QPN,QPg,QPn,QO1,QOT,QPA,eE,seval]
      try rfl
    simp only[eE,seval];by_cases h9:k=9
    · have b9:(k==9)=true:=by simp[h9]
      simp only[b9,eE,seval];refine Qa (hacc B) rfl rfl rfl (.inl rfl) ?_;cases ha:Jc P.enums t B
      · simp only[hen B eB hft h9 ha,X4,XO,splice,QPd,QPN,QPg,QPn,QO1,QOT,QPA,eE,seval]
        try rfl
      · simp only[eE,seval];refine Qa (hnm _ hB) rfl rfl rfl (.inl rfl) ?_;simp only[hno B eB hft (fun _=>ha),X4,XO,splice,QPd,QPN,QPg,QPn,QO1,QOT,QPA,eE,seval]
    · have b9:(k==9)=false:=by simp[h9]
      simp only[b9,eE,seval];refine Qa (hnm _ hB) rfl rfl rfl (.inl rfl) ?_;simp only[hno B eB hft (fun h=>absurd h h9),X4,XO,splice,QPd,QPN,QPg,QPn,QO1,QOT,QPA,eE,seval]

include hP in
theorem Qs1 (o:PO)(f:R)(hb:f.bits<18446744073709551616):Qj Tryz.prog 152 [P.av,Qy o,f.av] (X4 (Q9 P o.kind o.target f)) :=
 QDx P hP o.num o.name o.alias o.card o.key o.kind o.target o.union f hb
include hP in
theorem Sv (o:PO)(f:R)(hb:f.bits<18446744073709551616)(hd:f.data.length+8≤maxLen):Qj Tryz.prog 136 [P.av,Qy o,f.av] (X4 (Q9 P o.kind o.target f)) :=
 QDy P hP o.num o.name o.alias o.card o.key o.kind o.target o.union f hb hd

end

def C3 (g:PG)(v:V)(o:PO)(x:V)(d:C):V×C×Nat :=
  if (Xq v o.num).isSome=true then(Xg g v o (Q5 ((QL v o.num).list++[x])),d,0)
  else if (d.spend 1).2=0 then(Xg g v o (Q5 ((QL v o.num).list++[x])),(d.spend 1).1,0)else(v,(d.spend 1).1,(d.spend 1).2)
def C4 (P:PL)(g:PG)(v:V)(o:PO)(f:R)(d:C):V×C×Nat :=
  if (Q9 P o.kind o.target f).2=16 then(Wf v ⟨o.num,0,f.bits,[]⟩,d,0)
  else if (Q9 P o.kind o.target f).2=0 then(if o.card=4 then C3 g v o (Q9 P o.kind o.target f).1 d else(Xg g v o (Q9 P o.kind o.target f).1,d,0))
  else(v,d,(Q9 P o.kind o.target f).2)
def J0 (P:PL)(g:PG)(v:V)(o:PO)(c:C):V×C×Nat :=
  if (c.spend 1).2=0 then
    (if (KM (wk o.kind) (c.spend 1).1).2.2=0 then C4 P g v o (KM (wk o.kind) (c.spend 1).1).1 (KM (wk o.kind) (c.spend 1).1).2.1
     else(v,(KM (wk o.kind) (c.spend 1).1).2.1,(KM (wk o.kind) (c.spend 1).1).2.2))
  else(v,(c.spend 1).1,(c.spend 1).2)

theorem UQ (P:PL)(g:PG)(v:V)(o:PO)(c:C):WW P g v o c=if (J0 P g v o c).2.2=0 then .ok ((J0 P g v o c).1,(J0 P g v o c).2.1)else .error (J0 P g v o c).2.2:=by
 unfold WW J0 JE;by_cases h1:(c.spend 1).2=0
 case neg=>simp only[QOS h1]
 simp only[QO9 h1];rw[YG];generalize KM (wk o.kind) (c.spend 1).1=r;obtain⟨f,d,e⟩:=r;dsimp only;by_cases h2:e=0
 case neg=>simp only[QOS h2]
 simp only[QO9 h2];unfold C4;by_cases h3:(Q9 P o.kind o.target f).2=16
 ·simp only[QO9 h3];rfl
 simp only[QOS h3];by_cases h4:(Q9 P o.kind o.target f).2=0
 case neg=>simp only[QOS h4]
 simp only[QO9 h4];by_cases h5:o.card=4
 case neg=>simp only[QOS h5];rfl
 simp only[QO9 h5];unfold C3;by_cases h6:(Xq v o.num).isSome=true
 ·simp only[QO9 h6];rfl
 simp only[QOS h6];by_cases h7:(d.spend 1).2=0
 ·simp only[QO9 h7];rfl
 ·simp only[QOS h7]

def HT (P:PL)(M K n:Nat)(rec:Int→V→C→Rd V):Prop :=
 ∀(l s:Nat) (m:Qh) (t:Int) (v:V) (c:C),l<m.length→Am.Qd m l s=Q1 P c→CI c→c.left<n→(0≤t∧t<(P.progs.length:Int))→MW P n (QE P t) v→v.ok M→(v.cnt:Int)+3*c.left≤K→
  Qu Tryz.prog 26 [.ptr l s 0,.int .i64 t,v.av] m (Rt P l s m V.av (rec t v c))

theorem Ze (c:C)(n:Int):(∃d,JE c n=.ok d∧c.spend n=(d,0))∨∃e,e≠0∧JE c n=.error e∧(c.spend n).2=e:=by
 unfold JE;by_cases h:(c.spend n).2=0
 ·rw[QO9 h];exact .inl ⟨_,rfl,by rw[←h]⟩
 ·rw[QOS h];exact .inr ⟨_,h,rfl,rfl⟩

theorem WK (v:V)(n:Int):(QL v n).cnt≤v.cnt:=by
 cases hf:Xq v n with
 |none=>rw[Zo (by rw[hf];simp),Xa];exact Zj v
 |some z=>
  have:=JH (Xn hf).1;rw[(Xn hf).2];exact this

section
variable {M:Nat}(P:PL)(hP:P.ok M)(c:C)(l s:Nat)(m:Qh)(hm:l<m.length)(hs:Am.Qd m l s=Q1 P c)(hc:CI c)(g:PG)(hg:g.ops.length≤maxLen)(v:V)(hv:v.cnt≤1000000)(o:PO)

include hP hm hs hc hg hv in
theorem j95:Qu Tryz.prog 95 [.ptr l s 0,Qp g,v.av,Qy o] m (Rt P l s m V.av (WW P g v o c)):=by
 have hs0:=hs;have lp:∀o,Am.Qd (Am.put m l s o) l s=o:=fun o=>Ql hm
 have pp:∀o q,Am.put (Am.put m l s o) l s q=Am.put m l s q:=fun o q=>put_put
 have hpl:∀o,l+1<(Am.put m l s o).length+1:=fun o=>by rw[QN];omega
 have ls:=Xi v;have lr:=Zy v;have hwo:=P1 o;simp only[Qy,PO.cells]at hwo;rw[Qc v];refine k95.go (by simp) ?_;simp only[Qp,Qy,PG.cells,PO.cells,eE,seval];refine QH (B4 P c (l+1) s _ hs0 1) (by simp only[QPc,QPG,Qb,seval]) ?_;rintro x m1 ⟨rfl,rfl⟩ _;unfold WW;rcases Ze c 1 with⟨c1,h1,h1'⟩|⟨e,he,h1,h1'⟩
 case inr=>
  rw[h1,h1'];simp only[Qr he,QN,eE,seval];exact⟨he,v,_,by rw[Qc v],rfl⟩
 rw[h1,h1'];obtain⟨a1,_⟩:=XW hc (by omega) h1;have hc1:=a1.ci hc;dsimp only;simp only[eE,seval];refine Qa hwo rfl rfl rfl (.inl rfl) ?_;refine QH (QsZ P c1 (l+1) s _ (by exact hpl _) (lp _) hc1 (wk o.kind)) (by simp only[QPc,QPG,Qb,seval]) ?_;intro x m1 hx _;cases hr:Kp (wk o.kind) c1 with
 |error e=>
  rw[hr]at hx;obtain⟨he,a,c',rfl,rfl⟩:=hx;dsimp only;simp only[Qr he,R.av,pp,QN,eE,seval];exact⟨he,v,c',by rw[Qc v],rfl⟩
 |ok p=>
 obtain⟨f,d⟩:=p;rw[hr]at hx;obtain⟨rfl,rfl⟩:=hx;obtain⟨b1,_,b3,b4⟩:=WY hc1 hr;have hd:=b1.ci hc1;have hsc:=Qs1 P hP o f b3;have e0:P.av=.agg [.list (P.progs.map Qp),.list (P.enums.map QV)]:=rfl;dsimp only;generalize Q9 P o.kind o.target f=q at hsc ⊢;obtain⟨x,e⟩:=q;simp only[X4,e0,Qy,PO.cells,R.av,Qc x]at hsc;simp only[R.av,Q1,lp,pp,sh2,eE,seval];refine Qa hsc rfl rfl rfl (.inl rfl) ?_;by_cases h16:e=16
 ·subst h16;rw[QO9 rfl];have ha:=j52 v ⟨o.num,0,f.bits,[]⟩ (by omega);have e16:(((16:Nat):Int)==16)=true:=rfl;rw[Qc v,Qc (Wf v _)]at ha;simp only[R.av]at ha;simp only[Kr,eE,seval];refine Qa ha rfl rfl rfl (.inl rfl) ?_;simp only[QN,eE,seval];exact⟨by rw[Qc (Wf v _)],rfl⟩
 have e16:((e:Int)==16)=false:=by rw[QQp];omega
 rw[QOS h16];by_cases h0:e=0
 case neg=>
  rw[QOS h0];simp only[e16,Qr h0,QN,eE,seval];exact⟨h0,v,d,by rw[Qc v],rfl⟩
 subst h0;rw[QO9 rfl];have hset:=fun y=>CY g v o y hg (by omega)
 rw[Qc v]at hset;simp only[Qp,Qy,PG.cells,PO.cells]at hset;by_cases h4:o.card=4
 case neg=>
  have b4':(o.card != 4)=true:=by simp[h4]
  have hx:=hset x;rw[Qc x,Qc (Xg g v o x)]at hx;rw[QOS h4];simp only[b4',Kr,eE,seval];refine Qa hx rfl rfl rfl (.inl rfl) ?_;simp only[QN,eE,seval];exact⟨by rw[Qc (Xg g v o x)],rfl⟩
 have b4':(o.card != 4)=false:=by simp[h4]
 have hfd:=AF v o.num (by omega);have hlo:=QsS (QL v o.num) x (by have:=WK v o.num;have:=ZU (QL v o.num);omega);have hx:=hset (Q5 ((QL v o.num).list++[x]));rw[QO9 h4];generalize Xg g v o (Q5 ((QL v o.num).list++[x]))=w at hx ⊢;generalize Q5 ((QL v o.num).list++[x])=y at hx hlo;generalize QL v o.num=z at hfd hlo;rw[Qc v,Qc z]at hfd;rw[Qc z,Qc x,Qc y]at hlo;rw[Qc y,Qc w]at hx;simp only[b4',Kr,eE,seval];refine Qa hfd rfl rfl rfl (.inl rfl) ?_;cases hf:(Xq v o.num).isSome
 ·simp only[QOX,eE,seval];refine QH (B4 P d (l+1) s _ (lp _) 1) (by simp only[QPc,QPG,Qb,seval]) ?_;rintro x m1 ⟨rfl,rfl⟩ _;rcases Ze d 1 with⟨c2,h2,h2'⟩|⟨e,he,h2,h2'⟩
  case inr=>
   rw[h2,h2'];simp only[Qr he,pp,QN,eE,seval];exact⟨he,v,_,by rw[Qc v],rfl⟩
  rw[h2,h2'];dsimp only;simp only[pp,eE,seval];refine Qa hlo rfl rfl rfl (.inl rfl) ?_;refine Qa hx rfl rfl rfl (.inl rfl) ?_;simp only[QN,eE,seval];exact⟨by rw[Qc w],rfl⟩
 ·simp only[eE,seval];refine Qa hlo rfl rfl rfl (.inl rfl) ?_;refine Qa hx rfl rfl rfl (.inl rfl) ?_;simp only[QN,eE,seval];exact⟨by rw[Qc w],rfl⟩

variable {K n:Nat}{rec:Int→V→C→Rd V}(hrec:HT P M K n rec)

include hrec hm hs hc in
theorem Qs2 {t:Int}(ht:0≤t∧t<(P.progs.length:Int))(b:V)(k:Int)(hk0:0≤k)(hcn:c.left≤n)(hbm:1≤n→MW P n (QE P t) b)(hbo:b.ok M)(hb:(b.cnt:Int)+3*c.left≤K) :
  Qu Tryz.prog 149 [.ptr l s 0,.int .i64 t,b.av,.int .i64 k] m (Rt P l s m V.av (Je rec t b k c)):=by
 have hs0:=hs;have lp:∀o,Am.Qd (Am.put m l s o) l s=o:=fun o=>Ql hm
 have pp:∀o q,Am.put (Am.put m l s o) l s q=Am.put m l s q:=fun o q=>put_put
 have hpl:∀o,l+1<(Am.put m l s o).length+1:=fun o=>by rw[QN];omega
 have hrec':=fun(fr:Nat→Ob) (o:Ob) (i:C) (h:o=Q1 P i) (h1:CI i) (h2:i.left<n) (h3:1≤n) (h4:(b.cnt:Int)+3*i.left≤K)=>hrec (l+1) s (fr :: Am.put m l s o) t b i (hpl _) (by rw[←h];exact lp _) h1 h2 ht (hbm h3) hbo h4
 rw[Qc b];rw[Qc b]at hrec';refine QF8.go (by simp) ?_;simp only[eE,seval];refine QH (C0 P c (l+1) s _ (Nat.succ_lt_succ hm) hs0 hc) (by simp only[QPc,QPG,Qb,seval]) ?_;intro x m1 hx _;unfold Je;cases hr:Jd c with
 |error e=>
  rw[hr]at hx;obtain⟨he,a,c',rfl,rfl⟩:=hx;dsimp only;simp only[Qr he,QN,eE,seval];exact⟨he,b,c',by rw[Qc b],rfl⟩
 |ok p=>
 obtain⟨q,d⟩:=p;obtain⟨a1,a2⟩:=Jl hc hr;have hd:=a1.ci hc;have hl1:=a1.lt hc;have hdb:=hd.bd;rw[hr]at hx;obtain⟨rfl,rfl⟩:=hx;have hen:=HN hd a2;have cen:=QKe d q hd.big';dsimp only;generalize enter d q=r at hen cen ⊢;obtain⟨i,e⟩:=r;dsimp only at hen;simp only[Z6,C.av]at cen;simp only[Q1,lp,ZM,ZA,eE,seval];refine Qa cen rfl rfl rfl (.inl rfl) ?_;by_cases he:e=0
 case neg=>
  rw[QOS he];simp only[Qr he,lp,pp,ZA,QN,eE,seval];exact⟨he,b,i,by rw[Qc b],rfl⟩
 subst he;rw[QO9 rfl];obtain⟨e1,e2,e3⟩:=hen rfl;simp only[lp,pp,ZA,eE,seval];refine QH (B4 P i (l+1) s _ (lp _) k) (by simp only[QPc,QPG,Qb,seval]) ?_;rintro x m1 ⟨rfl,rfl⟩ _;rcases Ze i k with⟨j,h2,h2'⟩|⟨e,he,h2,h2'⟩
 case inr=>
  rw[h2,h2'];dsimp only;simp only[Qr he,pp,QN,eE,seval];exact⟨he,b,_,by rw[Qc b],rfl⟩
 rw[h2,h2'];obtain⟨s1,s2⟩:=XW e2 hk0 h2;have hls:=(s1.left e2).2.2;have hj:=s1.ci e2;have hjb:=hj.bd;dsimp only;simp only[pp,eE,seval];refine QH (hrec' _ _ j rfl hj (by omega) (by omega) (by omega)) (by simp only[QPc,QPG,Qb,seval]) ?_;intro x m1 hx _;cases hr2:rec t b j with
 |error e=>
  rw[hr2]at hx;obtain⟨he,w,c',rfl,rfl⟩:=hx;dsimp only;simp only[Qr he,Qc w,pp,QN,eE,seval];exact⟨he,b,c',by rw[Qc b],rfl⟩
 |ok p=>
 obtain⟨w,j2⟩:=p;rw[hr2]at hx;obtain⟨rfl,rfl⟩:=hx;have clv:=QKg d j2;dsimp only;generalize J6 d j2=y at clv ⊢;simp only[C.av]at clv;simp only[Qc w,Q1,lp,pp,ZM,eE,seval];refine Qa clv rfl rfl rfl (.inl rfl) ?_;simp only[lp,pp,ZA,QN,eE,seval];exact⟨by rw[Qc w],rfl⟩

end

def xv (r:V×C×Nat):AV:=.tup [r.1.av,r.2.1.av,.int .i64 (r.2.2:Nat)]

theorem j83 {M:Nat}(P:PL)(hP:P.ok M)(g:PG)(v:V)(o:PO){c:C}(hc:CI c)(hg:g.ops.length≤maxLen)(hv:v.cnt≤1000000)(hs:∀s∈v.slots,∃q,XL g s.1=some q)(hun : -1≤o.union):Qj Tryz.prog 83 [P.av,Qp g,v.av,Qy o,c.av] (xv (J0 P g v o c)):=by
 have ls:=Xi v;have lr:=Zy v;have hoc:=WK v o.num;have lo:=ZU (QL v o.num);have hsp:=DY c 1;have hsa:=fun d (h:JE c 1=.ok d)=>XW hc (by omega) h
 have hwi:=DA o.num o.name o.alias o.card o.key o.kind o.target o.union;have hge:=P3 v o.num (by omega);have e0:P.av=.agg [.list (P.progs.map Qp),.list (P.enums.map QV)]:=rfl;unfold J0;unfold JE at hsa;generalize c.spend 1=q1 at hsp hsa ⊢;obtain⟨c1,e1⟩:=q1;dsimp only at hsa;simp only[Z6,C.av]at hsp;simp only[oc]at hwi;rw[Qc v]at hge;rw[Qc (QL v o.num)]at hge;dsimp only;by_cases he1:e1=0
 case neg=>
  rw[QOS he1,e0,Qc v];refine k83.fn (by simp) ?_;simp only[Qp,Qy,PG.cells,PO.cells,C.av,eE,seval];refine Qa hsp rfl rfl rfl (.inl rfl) ?_;simp only[Qr he1,xv,Qc v,C.av,eE,seval]
 subst he1;have hc1:=(hsa c1 (by rw[QO9 rfl])).1.ci hc;have hct:=Ss hc1 (wk o.kind);have hxr:=YG (wk o.kind) c1;rw[QO9 rfl];generalize KM (wk o.kind) c1=q2 at hct hxr ⊢;obtain⟨f,d,e2⟩:=q2;dsimp only at hxr;simp only[Hq,C.av]at hct;dsimp only;by_cases he2:e2=0
 case neg=>
  rw[QOS he2,e0,Qc v];refine k83.fn (by simp) ?_;simp only[Qp,Qy,PG.cells,PO.cells,C.av,eE,seval];refine Qa hsp rfl rfl rfl (.inl rfl) ?_;simp only[eE,seval];refine Qa hwi rfl rfl rfl (.inl rfl) ?_;simp only[eE,seval];refine Qa hct rfl rfl rfl (.inl rfl) ?_;simp only[R.av,Qr he2,xv,Qc v,C.av,eE,seval]
 subst he2;rw[QO9 rfl]at hxr ⊢;obtain⟨b1,_,b3,b4⟩:=WY hc1 hxr;have hd:=b1.ci hc1;have hsc:=Sv P hP o f b3 (by simp only[maxLen];omega);have hsp2:=DY d 1;have hpu:=fun x=>B3 g v o x hg (by omega) hs hun
 have hwt:=fun x=>QsX g v o x hg (by omega) hs hun (by omega)
 have has:=j77 v ⟨o.num,0,f.bits,[]⟩ (by omega);unfold C4;generalize Q9 P o.kind o.target f=q3 at hsc ⊢;obtain⟨x,e⟩:=q3;simp only[X4,e0,Qy,PO.cells,R.av,Qc x]at hsc;dsimp only;rw[Qc v]at hpu hwt has;simp only[R.av]at has;simp only[Qp,Qy,PG.cells,PO.cells]at hpu hwt;rw[e0,Qc v];refine k83.fn (by simp) ?_;simp only[Qp,Qy,PG.cells,PO.cells,C.av,eE,seval];refine Qa hsp rfl rfl rfl (.inl rfl) ?_;simp only[eE,seval];refine Qa hwi rfl rfl rfl (.inl rfl) ?_;simp only[eE,seval];refine Qa hct rfl rfl rfl (.inl rfl) ?_;simp only[R.av,eE,seval];refine Qa hsc rfl rfl rfl (.inl rfl) ?_;by_cases h16:e=16
 ·subst h16;rw[QO9 rfl];generalize Wf v ⟨o.num,0,f.bits,[]⟩=w at has ⊢;rw[Qc w]at has;simp only[eE,seval];refine Qa has rfl rfl rfl (.inl rfl) ?_;simp only[xv,Qc w,C.av,eE,seval]
 have b16:((e:Int)==16)=false:=by simp;omega
 rw[QOS h16];by_cases he:e=0
 case neg=>
  rw[QOS he];simp only[b16,Qr he,xv,Qc v,C.av,eE,seval]
 subst he;rw[QO9 rfl];by_cases h4:o.card=4
 case neg=>
  have b4:(o.card != 4)=true:=by simp[h4]
  have hp:=hpu x;rw[QOS h4];generalize Xg g v o x=w at hp ⊢;rw[Qc x,Qc w]at hp;simp only[b4,eE,seval];refine Qa hp rfl rfl rfl (.inl rfl) ?_;simp only[xv,Qc w,C.av,eE,seval]
 have b4':(o.card != 4)=false:=by simp[h4]
 have hw:=hwt x;rw[QO9 h4];unfold C3;generalize Xg g v o (Q5 ((QL v o.num).list++[x]))=w at hw ⊢;rw[Qc x,Qc w]at hw;simp only[b4',eE,seval];refine Qa hge rfl rfl rfl (.inl rfl) ?_;cases hf:(Xq v o.num).isSome
 ·simp only[QOX,if_false];simp only[Z6,C.av]at hsp2;generalize d.spend 1=q5 at hsp2 ⊢;obtain⟨d1,e5⟩:=q5;dsimp only at hsp2 ⊢;simp only[eE,seval];refine Qa hsp2 rfl rfl rfl (.inl rfl) ?_;by_cases he5:e5=0
  case neg=>
   rw[QOS he5];simp only[Qr he5,xv,Qc v,C.av,eE,seval]
  subst he5;rw[QO9 rfl];simp only[eE,seval];refine Qa hw rfl rfl rfl (.inl rfl) ?_;simp only[xv,Qc w,C.av,eE,seval]
 ·simp only[eE,seval];refine Qa hw rfl rfl rfl (.inl rfl) ?_;simp only[xv,Qc w,C.av,eE,seval]

def Rm (r:Rd V)(x:AV):Prop:=match r with
 |.ok (w,d)=>x=xv (w,d,0)
 |.error e=>e≠0∧∃w d,x=xv (w,d,e)
def HU (P:PL)(M K n:Nat)(rec:Int→V→C→Rd V):Prop :=
 ∀(t:Int) (v:V) (c:C),CI c→c.left<n→(0≤t∧t<(P.progs.length:Int))→MW P n (QE P t) v→v.ok M→(v.cnt:Int)+3*c.left≤K→
  H7 Tryz.prog 22 [P.av,.int .i64 t,v.av,c.av] (Rm (rec t v c))
def KN (v:V)(c:C)(r:Rd V):V×C×Nat:=match r with
 |.ok (w,d)=>(w,d,0)
 |.error e=>(v,c,e)
theorem JM (v:V)(c:C)(w:V)(d:C):KN v c (.ok (w,d))=(w,d,0):=rfl
theorem X0 (v:V)(c:C)(e:Nat):KN v c (.error e)=(v,c,e):=rfl

theorem DB {c:C}{n:Nat}{d:C}(h:Jd c=.ok (n,d)):Zz c=(n,d,0):=by unfold Zz;rw[h]
theorem DC {c:C}{e:Nat}(h:Jd c=.error e):Zz c=(0,c,e):=by unfold Zz;rw[h]

def Yt (rec:Int→V→C→Rd V):Prop:=∀(t:Int) (v:V) (c:C) (e:Nat),rec t v c=.error e→e≠0
theorem C5 {c:C}{n:Int}{e:Nat}(h:JE c n=.error e):e≠0:=by
 unfold JE at h;split at h
 ·cases h
 ·rename_i h1;cases h;exact h1
theorem C6 {w:Int}{c:C}{e:Nat}(h:Kp w c=.error e):e≠0:=by
 rw[YG]at h;split at h
 ·cases h
 ·rename_i h1;cases h;exact h1
section
variable {rec:Int→V→C→Rd V}(hre:Yt rec)
include hre
theorem Yk {t:Int}{b:V}{k:Int}{c:C}{e:Nat}(h:Je rec t b k c=.error e):e≠0:=by
 unfold Je at h;split at h
 ·rename_i h1;cases h;exact Yj h1
 ·split at h
  ·split at h
   ·rename_i h1;cases h;exact C5 h1
   ·split at h
    ·rename_i h1;cases h;exact hre _ _ _ _ h1
    ·cases h
  ·rename_i h1;cases h;exact h1
theorem L8 {g:PG}{v:V}{o:PO}{c:C}{e:Nat}(h:Ju rec g v o c=.error e):e≠0:=by
 unfold Ju at h;split at h<;>split at h
 ·rename_i h1;cases h;exact Yk hre h1
 ·cases h
 ·rename_i h1;cases h;exact Yk hre h1
 ·cases h
end

section
variable {M K n:Nat}{rec:Int→V→C→Rd V}(P:PL)(hrec:HU P M K n rec)(o:PO){c:C}(hc:CI c)(hcn:c.left≤n)

include hrec hc hcn in
theorem Qs3 (ht:0≤o.target∧o.target<(P.progs.length:Int))(b:V)(k:Int)(hk0:0≤k)(hbm:1≤n→MW P n (QE P o.target) b)(hbo:b.ok M)(hb:(b.cnt:Int)+3*c.left≤K) :
  Qj Tryz.prog 133 [P.av,Qy o,b.av,.int .i64 k,c.av] (xv (KN b c (Je rec o.target b k c))):=by
 have hle:=CZ hc;have e0:P.av=.agg [.list (P.progs.map Qp),.list (P.enums.map QV)]:=rfl;unfold Je;rw[e0,Qc b];cases hr:Jd c with
 |error e=>
  rw[DC hr]at hle;have he:=Yj hr;simp only[C.av]at hle;refine Qrh.fn (by simp) ?_;simp only[Qy,PO.cells,C.av,eE,seval];refine Qa hle rfl rfl rfl (.inl rfl) ?_;simp only[Qr he,X0,xv,Qc b,C.av,eE,seval]
 |ok p=>
 obtain⟨q,d⟩:=p;obtain⟨a1,a2⟩:=Jl hc hr;have hd:=a1.ci hc;have hl1:=a1.lt hc;have hdb:=hd.bd;rw[DB hr]at hle;have hen:=HN hd a2;have cen:=QKf d q;dsimp only at hle ⊢;generalize enter d q=r at hen cen ⊢;obtain⟨i,e⟩:=r;dsimp only at hen;simp only[Z6,C.av]at cen;simp only[C.av]at hle;refine Qrh.fn (by simp) ?_;simp only[Qy,PO.cells,C.av,eE,seval];refine Qa hle rfl rfl rfl (.inl rfl) ?_;simp only[eE,seval];refine Qa cen rfl rfl rfl (.inl rfl) ?_;by_cases he:e=0
 case neg=>
  rw[QOS he];simp only[Qr he,X0,xv,Qc b,C.av,eE,seval]
 subst he;rw[QO9 rfl];obtain⟨e1,e2,e3⟩:=hen rfl;have hsp:=DY i k;simp only[Z6,C.av]at hsp;simp only[eE,seval];refine Qa hsp rfl rfl rfl (.inl rfl) ?_;rcases Ze i k with⟨j,h2,h2'⟩|⟨e,he,h2,h2'⟩
 case inr=>
  rw[h2,h2'];simp only[Qr he,X0,xv,Qc b,C.av,eE,seval]
 rw[h2,h2'];obtain⟨s1,s2⟩:=XW e2 hk0 h2;have hls:=(s1.left e2).2.2;have hj:=s1.ci e2;have hjb:=hj.bd;have hm:=hrec o.target b j hj (by omega) ht (hbm (by omega)) hbo (by omega);rw[e0,Qc b]at hm;simp only[C.av]at hm;dsimp only;simp only[eE,seval];refine JQ hm rfl rfl (fun x hx=>?_) (fun x hx=>?_)
 ·cases hr2:rec o.target b j with
  |error e=>
   rw[hr2]at hx;obtain⟨_,w,d2,rfl⟩:=hx;simp only[xv,Qc w,C.av];exact⟨rfl,.inl rfl⟩
  |ok p=>
   obtain⟨w,d2⟩:=p;rw[hr2]at hx;cases hx;simp only[xv,Qc w,C.av];exact⟨rfl,.inl rfl⟩
 cases hr2:rec o.target b j with
 |error e=>
  rw[hr2]at hx;obtain⟨he,w,d2,rfl⟩:=hx;simp only[Qr he,X0,xv,Qc w,Qc b,C.av,eE,seval]
 |ok p=>
  obtain⟨w,j2⟩:=p;rw[hr2]at hx;cases hx;have clv:=QKh d j2;dsimp only;generalize J6 d j2=y at clv ⊢;simp only[C.av]at clv;simp only[JM,xv,Qc w,C.av,eE,seval];refine Qa clv rfl rfl rfl (.inl rfl) ?_;simp only[eE,seval]

variable (g:PG)(hg:g.ops.length≤maxLen)(v:V)(hv:(v.cnt:Int)+3*c.left≤K)(hK:K≤1000000)(hvo:v.ok M)(hun : -1≤o.union)(hre:Yt rec)(hb1:(1:Int)+3*c.left≤K)

include hrec hc hcn hg hv hK hvo hun hre hb1 in
theorem j82 (ho:OpK P g o)(h10:o.kind=10)(h5:o.card≠5)(hvm:MW P (n+1) g v) :
  Qj Tryz.prog 82 [P.av,Qp g,v.av,Qy o,c.av] (xv (KN v c (Ju rec g v o c))):=by
 have ls:=Xi v;have hcb:=hc.bd;have ht:=ho.uo.tgt h10;have hge:=P3 v o.num (by omega);have hoc:=WK v o.num;have lo:=ZU (QL v o.num);have hol:=W2 (n:=o.num) hvo;have hsl:∀s∈v.slots,∃q,XL g s.1=some q:=fun s hs=>let ⟨q,h,_⟩:=hvm.1 s hs;⟨q,h⟩
 have hin:=fun(b:V) (k:Int) (h0:0≤k) (h1:1≤n→MW P n (QE P o.target) b) (h2:b.ok M) (h3:(b.cnt:Int)+3*c.left≤K)=>Qs3 P hrec o hc hcn ht b k h0 h1 h2 h3
 have hpu:=fun x=>B3 g v o x hg (by omega) hsl hun
 have hwt:=fun x=>QsX g v o x hg (by omega) hsl hun (by omega)
 have e0:P.av=.agg [.list (P.progs.map Qp),.list (P.enums.map QV)]:=rfl;have hom:o.card≠4→(Xq v o.num).isSome=true→MW P n (QE P o.target) (QL v o.num):=by
  intro h4 h;obtain⟨z,hz⟩:=QO4.1 h;have h2:=W3 hvm ho.self hz;unfold FW at h2;rw[QOS h4,QOS h5]at h2;rw[(Xn hz).2];exact h2 h10
 unfold Ju;generalize QL v o.num=z at hge hoc hol hom hwt lo ⊢;rw[Qc v]at hpu hwt;rw[Qc v,Qc z]at hge;rw[e0]at hin;simp only[Qp,Qy,PG.cells,PO.cells,C.av]at hpu hwt hin;rw[e0,Qc v];refine k82.fn (by simp) ?_;simp only[Qp,Qy,PG.cells,PO.cells,C.av,eE,seval];refine Qa hge rfl rfl rfl (.inl rfl) ?_;by_cases h4:o.card=4
 ·have b4:(o.card==4)=true:=by simp[h4]
  have b4':(o.card != 4)=false:=by simp[h4]
  rw[QO9 h4];cases hf:(Xq v o.num).isSome
  case false=>
   have hkk:(if (false:Bool)=true then(1:Int)else 2)=2:=rfl;have h1:=hin (Qs 10 0 []) 2 (by decide) (fun hn=>XB hn) (XA rfl (by decide) (QOM _)) (by rw[Xa];omega);rw[hkk];rw[show(Qs 10 0 []).av=.agg [.int .i64 10,.int .u64 0,.str [],.list [],.list [],.list [],.list []]from Qc _]at h1;simp only[b4,b4',eE,seval];cases hr:Je rec o.target (Qs 10 0 []) 2 c with
   |error e=>
    have he:=Yk hre hr;rw[hr,X0]at h1;simp only[xv,C.av]at h1;rw[show(Qs 10 0 []).av=.agg [.int .i64 10,.int .u64 0,.str [],.list [],.list [],.list [],.list []]from Qc _]at h1;refine Qa h1 rfl rfl rfl (.inl rfl) ?_;simp only[Qr he,X0,xv,Qc v,C.av,eE,seval]
   |ok p=>
    obtain⟨y,d⟩:=p;have h2:=hwt y;rw[hr,JM]at h1;dsimp only;generalize Xg g v o (Q5 (z.list++[y]))=w at h2 ⊢;rw[Qc y,Qc w]at h2;simp only[xv,Qc y,C.av]at h1;refine Qa h1 rfl rfl rfl (.inl rfl) ?_;simp only[b4,eE,seval];refine Qa h2 rfl rfl rfl (.inl rfl) ?_;simp only[JM,xv,Qc w,C.av,eE,seval]

  case true=>
   have hkk:(if (true:Bool)=true then(1:Int)else 2)=1:=rfl;have h1:=hin (Qs 10 0 []) 1 (by decide) (fun hn=>XB hn) (XA rfl (by decide) (QOM _)) (by rw[Xa];omega);rw[hkk];rw[show(Qs 10 0 []).av=.agg [.int .i64 10,.int .u64 0,.str [],.list [],.list [],.list [],.list []]from Qc _]at h1;simp only[b4,b4',eE,seval];cases hr:Je rec o.target (Qs 10 0 []) 1 c with
   |error e=>
    have he:=Yk hre hr;rw[hr,X0]at h1;simp only[xv,C.av]at h1;rw[show(Qs 10 0 []).av=.agg [.int .i64 10,.int .u64 0,.str [],.list [],.list [],.list [],.list []]from Qc _]at h1;refine Qa h1 rfl rfl rfl (.inl rfl) ?_;simp only[Qr he,X0,xv,Qc v,C.av,eE,seval]
   |ok p=>
    obtain⟨y,d⟩:=p;have h2:=hwt y;rw[hr,JM]at h1;dsimp only;generalize Xg g v o (Q5 (z.list++[y]))=w at h2 ⊢;rw[Qc y,Qc w]at h2;simp only[xv,Qc y,C.av]at h1;refine Qa h1 rfl rfl rfl (.inl rfl) ?_;simp only[b4,eE,seval];refine Qa h2 rfl rfl rfl (.inl rfl) ?_;simp only[JM,xv,Qc w,C.av,eE,seval]
 ·have b4:(o.card==4)=false:=by simp[h4]
  have b4':(o.card != 4)=true:=by simp[h4]
  rw[QOS h4];cases hf:(Xq v o.num).isSome
  case false=>
   have hkk:(if (false:Bool)=true then z else Qs 10 0 [])=Qs 10 0 []:=rfl;have h1:=hin (Qs 10 0 []) 1 (by decide) (fun hn=>XB hn) (XA rfl (by decide) (QOM _)) (by rw[Xa];omega);rw[hkk];simp only[b4,b4',eE,seval];cases hr:Je rec o.target (Qs 10 0 []) 1 c with
   |error e=>
    have he:=Yk hre hr;rw[hr,X0]at h1;simp only[xv,Qc (Qs 10 0 []),C.av]at h1;refine Qa h1 rfl rfl rfl (.inl rfl) ?_;simp only[Qr he,X0,xv,Qc v,C.av,eE,seval]
   |ok p=>
    obtain⟨y,d⟩:=p;have h2:=hpu y;rw[hr,JM]at h1;dsimp only;generalize Xg g v o y=w at h2 ⊢;rw[Qc y,Qc w]at h2;simp only[xv,Qc (Qs 10 0 []),Qc y,C.av]at h1;refine Qa h1 rfl rfl rfl (.inl rfl) ?_;simp only[b4,eE,seval];refine Qa h2 rfl rfl rfl (.inl rfl) ?_;simp only[JM,xv,Qc w,C.av,eE,seval]

  case true=>
   have hkk:(if (true:Bool)=true then z else Qs 10 0 [])=z:=rfl;have h1:=hin (z) 1 (by decide) (fun _=>hom h4 hf) (hol) (by omega);rw[hkk];simp only[b4,b4',eE,seval];cases hr:Je rec o.target (z) 1 c with
   |error e=>
    have he:=Yk hre hr;rw[hr,X0]at h1;simp only[xv,Qc (z),C.av]at h1;refine Qa h1 rfl rfl rfl (.inl rfl) ?_;simp only[Qr he,X0,xv,Qc v,C.av,eE,seval]
   |ok p=>
    obtain⟨y,d⟩:=p;have h2:=hpu y;rw[hr,JM]at h1;dsimp only;generalize Xg g v o y=w at h2 ⊢;rw[Qc y,Qc w]at h2;simp only[xv,Qc (z),Qc y,C.av]at h1;refine Qa h1 rfl rfl rfl (.inl rfl) ?_;simp only[b4,eE,seval];refine Qa h2 rfl rfl rfl (.inl rfl) ?_;simp only[JM,xv,Qc w,C.av,eE,seval]

end
end Go.Proofs.YtfgchfdkiomfpaaGreat.Va

namespace Go.Proofs.YtfgchfdkiomfpaaGreat.Va
open Go Am Rc Bt Br Up So

theorem UR {P:Program}{K:St→Prop}{Qe:List Am.Item}{f:Fr}{m:Qh}{ds:List DF}{d:Nat}{sz bytes el:Nat}{s r:RA}{site g n site' g' n':Nat}{fr:Nat→Ob}{xs ys:List AV}(hs:s.ev f=.vec 0 site g 0 n false)(hl:fr site=.vec g sz xs)(ht:Zk site el=true)(hn:n=xs.length)
  (hr:r.ev f=.vec 0 site' g' 0 n' false) (hr2:fr site'=.vec g' sz ys) (hn':n'=ys.length) (hz:ys.all (fun e=>e.cells.length==sz)=true) (hm:n+ys.length≤maxLen) (hb:(n+ys.length)*bytes≤140737488355328)
  (h:QC P Qe ⟨QG f d (.vec 0 site (g+1) 0 (n+ys.length) false),QG fr site (.vec (g+1) sz (xs++ys)) :: m,ds⟩ K):QC P (⟨some d,.app sz bytes el s r,none⟩ :: Qe) ⟨f,fr :: m,ds⟩ K:=by
 refine⟨0,site,g,n,xs,ys,hs,hl,ht,by omega,?_,hz,hm,hb,?_⟩
 ·show QY (fr :: m) (r.ev f)=some ys;rw[hr];exact MG hr2 hn'
 ·subst hn;rw[QQi];exact h

theorem L9 (l O:List R)(i:Nat)(x:R)(hx:l[i]? = some x)(hO:O.length≤maxLen)(hs:X5 (fun x y:R=>decide (x.num<y.num)) O)(fr:Nat→Ob)(f:Fr)(h0:f 0=.list (l.map R.av))(h3:f 3=.list (O.map R.av))(h4:f 4=.int .i64 (i:Nat))(h5:f 5=.int .i64 (O.length:Nat))(Q:Exit→St→Prop)
  (q:∀(t:Nat) (f:Fr),t≤O.length→(∀j u,t≤j→O[j]? = some u→decide (x.num<u.num)=true)→(∀j u,j<t→O[j]? = some u→decide (x.num<u.num)=false)→f 0=.list (l.map R.av)→f 3=.list (O.map R.av)→f 4=.int .i64 (i:Nat)→f 5=.int .i64 (t:Nat)→Q (.exit 2) (⟨f,[fr],[]⟩:St)) :
  QJ Tryz.prog (.loop ST) ⟨f,[fr],[]⟩ Q:=by
 let I:Nat→St→Prop:=fun k st=>∃f t,st=⟨f,[fr],[]⟩∧k=t∧t≤O.length∧(∀j u,t≤j→O[j]? = some u→decide (x.num<u.num)=true)∧f 0=.list (l.map R.av)∧f 3=.list (O.map R.av)∧f 4=.int .i64 (i:Nat)∧f 5=.int .i64 (t:Nat)
 refine Qg I _ ⟨f,O.length,rfl,rfl,QOE _,(by intro j u hj hu;rw[QP3 hj]at hu;cases hu),h0,h3,h4,h5⟩ ?_;clear h0 h3 h4 h5;rintro t st ⟨f,_,rfl,rfl,ht,hv,h0,h3,h4,h5⟩;have hxa:=CC hx;simp only[h5,Qb,seval];cases t with
 |zero=>
  have d1:decide (((0:Nat):Int) > 0)=false:=by simp
  simp only[Qb,seval];exact q 0 _ (QOM _) hv (fun j u hj=>by omega) (by exact h0) (by exact h3) (by exact h4) (by exact h5)
 |succ r=>
  obtain⟨u,hu⟩:∃u,O[r]? = some u:=⟨O[r]'(by omega),QOH (by omega)⟩;have hua:=CC hu;have d1:decide (((r+1:Nat):Int) > 0)=true:=by simp only[QP1];omega
  have e2:IntKind.i64.wrap (((r+1:Nat):Int)-1)=((r:Nat):Int):=by
   simp only[maxLen]at hO;rw[QA];omega
  simp only[d1,e2,Qm,QP7,Qf,hxa,hua,h0,h3,h4,h5,eE,seval];cases hcx:decide (u.num > x.num)
  ·simp only[Qb,seval];refine q (r+1) _ ht hv (fun j u' hj hu'=>?_) (by exact h0) (by exact h3) (by exact h4) (by exact h5);have:=KC hs CB (show j≤r by omega) hu' hu;exact CB.nt x u u' hcx this
  ·simp only[e2,h5,Qb,seval];exact⟨r,by omega,_,r,rfl,rfl,by omega,(by
    intro j v hj hv';rcases Nat.lt_or_eq_of_le hj with h|h
    ·exact hv j v h hv'
    ·subst h;rw[hu]at hv';cases hv';exact hcx),(by exact h0),(by exact h3),(by exact h4),(by rfl)⟩

def RwI (l:List R)(k:Nat)(st:St):Prop :=
 ∃f fr i,st=⟨f,[fr],[]⟩∧k=l.length-i∧i≤l.length∧f 0=.list (l.map R.av)∧f 3=.list ((ZT (l.take i)).map R.av)∧f 4=.int .i64 (i:Nat)∧Qi (fr 37)=true∧Qi (fr 42)=true

set_option maxHeartbeats 1000000 in
theorem v44 (l:List R)(hn:l.length≤1048576):Qj Tryz.prog 44 [.list (l.map R.av)] (.list ((ZT l).map R.av)):=by
 refine k44.fn (by simp) ?_;simp only[Qb,seval];refine Hy (by simp only[Qb,seval]) ?_;simp only[Qb,seval];refine Qg (RwI l) _ ⟨_,_,0,rfl,rfl,QOM _,(by rfl),rfl,(by rfl),rfl,rfl⟩ ?_;rintro _ st ⟨f,fr,i,rfl,rfl,hil,h0,h3,h4,SN,r42⟩;simp only[QPz,h0,h4,Qb,seval];by_cases hlt:i<l.length
 ·obtain⟨x,hi⟩:∃x,l[i]? = some x:=⟨l[i],QOH hlt⟩;have hxa:=CC hi;have e1:=Qx i _ hlt (by simp only[maxLen];omega);have hp:(ZT (l.take i)).Perm (l.take i):=QW _;have hO:(ZT (l.take i)).length=i:=by rw[hp.length_eq,QPB];omega
  clear hp;have hstep:ZT (l.take (i+1))=mg (fun x y:R=>decide (x.num<y.num)) (ZT (l.take i)) [x]:=by
   rw[QQr,hi,Option.toList_some];exact(Kd CB (l.take i) [x]).symm
  have hsrt:X5 (fun x y:R=>decide (x.num<y.num)) (ZT (l.take i)):=XX CB _;generalize ZT (l.take i)=O at *;simp only[Qt hlt,QPz,h3,Qb,seval];refine L9 l O i x hi (by simp only[maxLen];omega) hsrt fr _ (by exact h0) (by exact h3) (by exact h4) (by rfl) _ (fun t f ht hv hlow h0 h3 h4 h5=>?_);have hfin:(O.take t).map R.av++([x.av]++(O.drop t).map R.av)=(ZT (l.take (i+1))).map R.av:=by
   have:=K0 (lt:=fun x y:R=>decide (x.num<y.num)) (y:=x) (X1:=O.take t) (X2:=O.drop t) (fun u hu=>by
    obtain⟨j,hj⟩:=QQI hu;rw[QPj]at hj;split at hj
    ·rename_i hjt;exact hlow j u hjt hj
    ·cases hj) (fun u hu=>by
    obtain⟨j,hj⟩:=QQI hu;rw[QPk]at hj;exact hv _ u (by omega) hj)
   rw[QPV]at this;rw[hstep,this];simp
  have hle:(t≤O.length)=True:=eq_true ht;have hdt:∀l':List AV,l'.length=O.length→(l'.drop t).take (O.length-t)=l'.drop t:=fun l' h=>QPe (by rw[QPl];omega)
  have hd1:((O.drop t).map R.av).length=i-t:=by rw[QPz,QPl];omega
  have hd2:((O.take t).map R.av).length=t:=by rw[QPz,QPB];omega
  have hT:∀j,i+1≤j→List.take j ((O.take t).map R.av++([x.av]++(O.drop t).map R.av))=(ZT (l.take (i+1))).map R.av:=fun j hj=>by
   rw[QPe (by simp only[QPi,QOT,QPA,hd1,hd2];omega),hfin]
  simp only[Qm,QP7,Qf,hxa,h0,h4,eE,seval];refine YR (l:=[.int .i64 x.num,.int .i64 x.wire,.int .u64 (x.bits:Nat),.str x.data]) rfl rfl (by decide) rfl rfl SN ?_;simp only[nn0,QPc,QPG,QPz,Jh,Xh,QQh,Qm,QP7,hle,QOE,or_true,Y8,hdt _ (QPz ..),h3,h5,Qb,seval];refine QF (site:=37) (g:=Xu (fr 37)) (n:=1) (xs:=[x.av]) (ys:=(O.drop t).map R.av) (by simp only[Qb,seval]) (by simp only[R.av,Qb,seval]) rfl rfl (by simp only[List.map_drop,Qb,seval]) (Y8 _) (by rw[hd1];simp only[maxLen];omega) (by rw[hd1];omega) ?_;simp only[Qb,seval];refine XN (by simp only[Qb,seval];exact r42) ?_;simp only[QPz,Jh,Jq,Xh,QQh,Qm,QP7,QOM,QOE,hle,true_or,QPD,QPn,←List.map_take,h3,h5,Qb,seval];refine QF (site:=42) (g:=_) (n:=0) (xs:=[]) (ys:=(O.take t).map R.av) (by simp only[Qb,seval]<;>rfl) (by simp only[Qb,seval]) rfl rfl (by simp only[Qb,seval]) (Y8 _) (by rw[hd2];simp only[maxLen];omega) (by rw[hd2];omega) ?_;simp only[Qb,seval];refine UR (site:=42) (g:=_) (n:=0+((O.take t).map R.av).length) (xs:=(O.take t).map R.av) (ys:=[x.av]++(O.drop t).map R.av) (by simp only[Qb,seval]<;>rfl) (by simp only[Qb,seval]) rfl (by omega) (by simp only[Qb,seval]<;>rfl) (by simp only[Qb,seval]) (by simp only[QPi,QOT,QPA,QPz]<;>omega) (Y8 (x :: O.drop t)) (by simp only[QPi,QOT,QPA,hd1,hd2,maxLen];omega) (by simp only[QPi,QOT,QPA,hd1,hd2];omega) ?_;simp only[Qb,seval];refine KV (site:=42) (g:=_) (sz:=4) (n:=_) (xs:=(O.take t).map R.av++([x.av]++(O.drop t).map R.av)) (by simp only[Qb,seval]<;>rfl) (by simp only[Qb,seval]) (by simp only[QPi,QOT,QPA,hd1,hd2];omega) ?_;rw[hT];rotate_left
  ·simp only[hd1,hd2];omega
  simp only[e1,h4,Qb,seval];exact⟨l.length-(i+1),by omega,_,_,i+1,rfl,rfl,by omega,(by exact h0),(by rfl),(by rfl),rfl,rfl⟩
 ·have hli:l.take i=l:=QPe (by omega);rw[hli]at h3;simp only[QS hlt,h3,Qb,seval]

theorem Qs4 (k:Int)(a b:V)(_ha:a.bits<18446744073709551616)(_hb:b.bits<18446744073709551616):decide (UH k a.bits a.text b.bits b.text<0)=kl k a b:=by
 unfold UH kl;split
 ·exact AB _ _
 ·rw[Fm];unfold KL;split
  ·rw[decide_eq_decide,XY,XY,QA,QA];omega
  ·rfl

section
variable {P:PL}{k:Int}(hk:Xo k)(ps:List (V×V))(hn:ps.length≤1048576)(h1:∀p∈ps,p.1.one P k (-1)=0)(hb:∀p∈ps,p.1.bits<18446744073709551616)

include hk in
theorem HV {p q:V×V}(hp:p.1.one P k (-1)=0)(hq:q.1.one P k (-1)=0):Qj Tryz.prog 41 [p.1.av,q.1.av] (.int .i64 (UH k p.1.bits p.1.text q.1.bits q.1.text)):=by
 have h:=v41 k hk p.1.bits q.1.bits p.1.text q.1.text;rw[←(Jt hp).1,←(Jt hq).1]at h;exact h

theorem P6 (hk:Xo k)(hn:ps.length≤1048576)(h1:∀p∈ps,p.1.one P k (-1)=0)(hb:∀p∈ps,p.1.bits<18446744073709551616)(hu:ps.Pairwise fun q p=>Q0 q.1 p.1=false)(O:List (V×V))(i:Nat)(x:V×V)(hx:ps[i]? = some x)(fr:Nat→Ob)(f:Fr)(h0:f 0=.list (ps.map V.pav))(h3:f 3=.list (O.map V.pav))(h4:f 4=.int .i64 (i:Nat))(h5:f 5=.bool true)(h6:f 6=.int .i64 ((i+1:Nat):Int))(Q:Exit→St→Prop)
  (q:∀f:Fr,f 0=.list (ps.map V.pav)→f 3=.list (O.map V.pav)→f 4=.int .i64 (i:Nat)→f 5=.bool true→Q (.exit 2) (⟨f,[fr],[]⟩:St)) :
  QJ Tryz.prog (.loop Cf) ⟨f,[fr],[]⟩ Q:=by
 let I:Nat→St→Prop:=fun n st=>∃f j,st=⟨f,[fr],[]⟩∧n=ps.length-j∧i<j∧f 0=.list (ps.map V.pav)∧f 3=.list (O.map V.pav)∧f 4=.int .i64 (i:Nat)∧f 5=.bool true∧f 6=.int .i64 (j:Nat)
 refine Qg I _ ⟨f,i+1,rfl,rfl,by omega,h0,h3,h4,h5,h6⟩ ?_;clear h0 h3 h4 h5 h6;rintro _ st ⟨f,j,rfl,rfl,hij,h0,h3,h4,h5,h6⟩;simp only[QPz,h0,h6,Qb,seval];by_cases hlt:j<ps.length
 ·obtain⟨y,hj⟩:∃y,ps[j]? = some y:=⟨ps[j],QOH hlt⟩;have hgx:=Ke hx;have hgy:=Ke hj;have e1:=Qx j _ hlt (by simp only[maxLen];omega);have hxm:=QOR hx;have hym:=QOR hj;have c1:=HV hk (h1 x hxm) (h1 y hym);have hne:UH k x.1.bits x.1.text y.1.bits y.1.text≠0:=by
   have h:=Vj hk (h1 x hxm) (h1 y hym) (hb x hxm) (hb y hym);rw[QQE]at hu;have:=hu i j (QOG.1 hx).1 hlt hij;rw[(QOG.1 hx).2,(QOG.1 hj).2]at this;rw[this]at h
   simpa using h
  have d1:(UH k x.1.bits x.1.text y.1.bits y.1.text != 0)=true:=by simp[hne]
  rw[Qc,Qc]at c1;simp only[Qt hlt,Qm,QP7,Qf,hgx,hgy,QPd,QPN,QPn,h0,h4,h5,h6,eE,seval];refine Qa c1 rfl rfl rfl (.inl rfl) ?_;simp only[d1,h6,e1,Qb,seval];exact⟨ps.length-(j+1),by omega,_,j+1,rfl,rfl,by omega,(by exact h0),(by exact h3),(by exact h4),(by rfl),(by rfl)⟩
 ·simp only[QS hlt,Qb,seval];exact q _ (by exact h0) (by exact h3) (by exact h4) (by exact h5)

theorem G6 (hk:Xo k)(O:List (V×V))(hO:O.length≤1048576)(hO1:∀p∈O,p.1.one P k (-1)=0)(hOb:∀p∈O,p.1.bits<18446744073709551616)(i:Nat)(x:V×V)(hx:ps[i]? = some x)(hx1:x.1.one P k (-1)=0)(hxb:x.1.bits<18446744073709551616)(fr:Nat→Ob)(f:Fr)(h0:f 0=.list (ps.map V.pav))(h3:f 3=.list (O.map V.pav))(h4:f 4=.int .i64 (i:Nat))(h7:f 7=.int .i64 0)(Q:Exit→St→Prop)
  (q:∀(t:Nat) (f:Fr),t≤O.length→(∀j u,j<t→O[j]? = some u→kl k u.1 x.1=true)→(∀u,O[t]? = some u→kl k u.1 x.1=false)→f 0=.list (ps.map V.pav)→f 3=.list (O.map V.pav)→f 4=.int .i64 (i:Nat)→f 7=.int .i64 (t:Nat)→Q (.exit 4) (⟨f,[fr],[]⟩:St)) :
  QJ Tryz.prog (.loop SU) ⟨f,[fr],[]⟩ Q:=by
 let I:Nat→St→Prop:=fun n st=>∃f t,st=⟨f,[fr],[]⟩∧n=O.length-t∧t≤O.length∧(∀j u,j<t→O[j]? = some u→kl k u.1 x.1=true)∧f 0=.list (ps.map V.pav)∧f 3=.list (O.map V.pav)∧f 4=.int .i64 (i:Nat)∧f 7=.int .i64 (t:Nat)
 refine Qg I _ ⟨f,0,rfl,rfl,QOM _,(by intro j u hj;omega),h0,h3,h4,h7⟩ ?_;clear h0 h3 h4 h7;rintro _ st ⟨f,t,rfl,rfl,ht,hv,h0,h3,h4,h7⟩;simp only[QPz,h3,h7,Qb,seval];by_cases hlt:t<O.length
 ·obtain⟨u,hu⟩:∃u,O[t]? = some u:=⟨O[t],QOH hlt⟩;have hgx:=Ke hx;have hgu:=Ke hu;have hum:=QOR hu;have e1:=Qx t _ hlt (by simp only[maxLen];omega);have c1:=HV hk (hO1 u hum) hx1;have hc:=Qs4 k u.1 x.1 (hOb u hum) hxb;rw[Qc,Qc]at c1;simp only[Qt hlt,Qm,QP7,Qf,hgx,hgu,QPd,QPN,QPn,h0,h3,h4,h7,eE,seval];refine Qa c1 rfl rfl rfl (.inl rfl) ?_;cases hl:kl k u.1 x.1
  ·rw[hl]at hc;simp only[hc,Qb,seval];exact q t _ (by omega) hv (fun u' hu'=>by rw[hu]at hu';cases hu';exact hl) (by exact h0) (by exact h3) (by exact h4) (by exact h7)
  ·rw[hl]at hc;simp only[hc,h7,e1,Qb,seval];exact⟨O.length-(t+1),by omega,_,t+1,rfl,rfl,by omega,(by
    intro j u' hj hu';rcases Nat.lt_or_eq_of_le (show j≤t by omega)with h|h
    ·exact hv j u' h hu'
    ·subst h;rw[hu]at hu';cases hu';exact hl),(by exact h0),(by exact h3),(by exact h4),(by rfl)⟩
 ·simp only[QS hlt,Qb,seval];exact q t _ ht hv (fun u hu=>by rw[QP3 (by omega)]at hu;cases hu) (by exact h0) (by exact h3) (by exact h4) (by exact h7)

end

theorem G7 {k:Int}{P:PL}{a b:V}(ha:a.one P k (-1)=0)(hb:b.one P k (-1)=0)(ba:a.bits<18446744073709551616)(bb:b.bits<18446744073709551616)(h1:kl k a b=false)(h2:Q0 a b=false):kl k b a=true:=by
 obtain⟨_,a1,a2⟩:=Jt ha;obtain⟨_,b1,b2⟩:=Jt hb;cases hc:kl k b a with
 |true=>rfl
 |false=>
  exfalso;unfold kl at h1 hc;unfold Q0 at h2;split at h1
  ·rename_i ht;rw[QO9 ht]at hc;have e:=UG h1 hc;have e1:=a1 ht;have e2:=b1 ht;rw[e,show a.bits=b.bits by omega]at h2;simp at h2
  ·rename_i ht;rw[QOS ht]at hc;have ht:XV k=false:=by simpa using ht
   rw[a2 ht,b2 ht]at h2;split at h1
   ·rename_i hs;rw[QO9 hs]at hc;simp only[QQw]at h1 hc;rw[QA,QA]at h1 hc;rw[show a.bits=b.bits by omega]at h2;simp at h2
   ·rename_i hs;rw[QOS hs]at hc;simp only[QQw]at h1 hc;rw[show a.bits=b.bits by omega]at h2;simp at h2

def PwI (k:Int)(ps:List (V×V))(n:Nat)(st:St):Prop :=
 ∃f fr i,st=⟨f,[fr],[]⟩∧n=ps.length-i∧i≤ps.length∧f 0=.list (ps.map V.pav)∧f 3=.list ((QT k (ps.take i)).map V.pav)∧f 4=.int .i64 (i:Nat)∧Qi (fr 63)=true∧Qi (fr 68)=true

set_option maxHeartbeats 1000000 in
theorem v85 {P:PL}{k:Int}(hk:Xo k)(ps:List (V×V))(hn:ps.length≤1048576)(h1:∀p∈ps,p.1.one P k (-1)=0)(hb:∀p∈ps,p.1.bits<18446744073709551616)(hu:ps.Pairwise fun q p=>Q0 q.1 p.1=false):Qj Tryz.prog 85 [.list (ps.map V.pav)] (.list ((QT k ps).map V.pav)):=by
 refine k85.fn (by simp) ?_;simp only[Qb,seval];refine Hy (by simp only[Qb,seval]) ?_;simp only[Qb,seval];refine Qg (PwI k ps) _ ⟨_,_,0,rfl,rfl,QOM _,(by rfl),rfl,(by rfl),rfl,rfl⟩ ?_;rintro _ st ⟨f,fr,i,rfl,rfl,hil,h0,h3,h4,N2,N3⟩;simp only[QPz,h0,h4,Qb,seval];by_cases hlt:i<ps.length
 ·obtain⟨x,hi⟩:∃x,ps[i]? = some x:=⟨ps[i],QOH hlt⟩;have hxm:=QOR hi;have hxa:=Ke hi;have e1:=Qx i _ hlt (by simp only[maxLen];omega);have hperm:(QT k (ps.take i)).Perm (ps.take i):=QW _;have hO:(QT k (ps.take i)).length=i:=by rw[hperm.length_eq,QPB];omega
  have hstep:QT k (ps.take (i+1))=mg (fun x y:V×V=>kl k x.1 y.1) (QT k (ps.take i)) [x]:=by
   rw[QQr,hi,Option.toList_some];exact(Kd (ZD k) (ps.take i) [x]).symm
  have hsrt:X5 (fun x y:V×V=>kl k x.1 y.1) (QT k (ps.take i)):=XX (ZD k) _;have hOm:∀p∈QT k (ps.take i),p∈ps:=fun p hp=>QPt (hperm.mem_iff.1 hp)
  have hOk:∀p∈QT k (ps.take i),Q0 p.1 x.1=false:=by
   intro p hp;obtain⟨j,hj⟩:=QOP.1 (hperm.mem_iff.1 hp);have hjl:=(QOG.1 hj).1;rw[QPB]at hjl;rw[QPj,QO9 (by omega)]at hj;rw[QQE]at hu;have:=hu j i (by omega) hlt (by omega);rw[(QOG.1 hj).2,(QOG.1 hi).2]at this;exact this
  generalize QT k (ps.take i)=O at *;simp only[Qt hlt,e1,h4,Qb,seval];refine P6 ps hk hn h1 hb hu O i x hi fr _ (by exact h0) (by exact h3) (by exact h4) (by rfl) (by rfl) _ (fun f h0 h3 h4 h5=>?_);simp only[h5,Qb,seval];refine G6 (P:=P) ps hk O (by omega) (fun p hp=>h1 p (hOm p hp)) (fun p hp=>hb p (hOm p hp)) i x hi (h1 x hxm) (hb x hxm) fr _ (by exact h0) (by exact h3) (by exact h4) (by rfl) _ (fun t f ht hlow hup h0 h3 h4 h7=>?_);have hfin:(O.take t).map V.pav++([V.pav x]++(O.drop t).map V.pav)=(QT k (ps.take (i+1))).map V.pav:=by
   have:=K0 (lt:=fun x y:V×V=>kl k x.1 y.1) (y:=x) (X1:=O.take t) (X2:=O.drop t) (fun u hu=>by
    obtain⟨j,hj⟩:=QQI hu;rw[QPj]at hj;split at hj
    ·rename_i hjt;exact(ZD k).as (hlow j u hjt hj)
    ·cases hj) (fun u hu'=>by
    obtain⟨j,hj⟩:=QQI hu';rw[QPk]at hj;have hum:=QOR hj;refine G7 (h1 u (hOm u hum)) (h1 x hxm) (hb u (hOm u hum)) (hb x hxm) ?_ (hOk u hum);obtain⟨w,hw⟩:∃w,O[t]? = some w:=⟨O[t]'(by have:=(QOG.1 hj).1;omega),QOH _⟩;have h2:=KC hsrt (ZD k) (Nat.le_add_right t j) hw hj;exact(ZD k).nt u w x h2 (hup w hw))
   rw[QPV]at this;rw[hstep,this];simp
  have hle:(t≤O.length)=True:=eq_true ht;have hdt:∀l':List AV,l'.length=O.length→(l'.drop t).take (O.length-t)=l'.drop t:=fun l' h=>QPe (by rw[QPl];omega)
  have hd1:((O.drop t).map V.pav).length=i-t:=by rw[QPz,QPl];omega
  have hd2:((O.take t).map V.pav).length=t:=by rw[QPz,QPB];omega
  have hT:∀j,i+1≤j→List.take j ((O.take t).map V.pav++([V.pav x]++(O.drop t).map V.pav))=(QT k (ps.take (i+1))).map V.pav:=fun j hj=>by
   rw[QPe (by simp only[QPi,QOT,QPA,hd1,hd2];omega),hfin]
  simp only[Qm,QP7,Qf,hxa,QPd,QPn,h0,h4,eE,seval];refine YR (l:=[.int .i64 x.1.kd,.int .u64 (x.1.bits:Nat),.str x.1.text,.list (x.1.list.map V.av),.list (x.1.pairs.map V.pav),.list (x.1.slots.map V.sav),.list (x.1.raws.map R.av),.int .i64 x.2.kd,.int .u64 (x.2.bits:Nat),.str x.2.text,.list (x.2.list.map V.av),.list (x.2.pairs.map V.pav),.list (x.2.slots.map V.sav),.list (x.2.raws.map R.av)]) rfl rfl (by decide) rfl rfl N2 ?_;simp only[nn0,QPc,QPG,QPz,Jh,Xh,QQh,Qm,QP7,hle,QOE,or_true,XQ,hdt _ (QPz ..),h3,h7,Qb,seval];refine QF (site:=63) (g:=Xu (fr 63)) (n:=1) (xs:=[V.pav x]) (ys:=(O.drop t).map V.pav) (by simp only[Qb,seval]) (by simp only[Q4,Qb,seval]) rfl rfl (by simp only[List.map_drop,Qb,seval]) (XQ _) (by rw[hd1];simp only[maxLen];omega) (by rw[hd1];omega) ?_;simp only[Qb,seval];refine XN (by simp only[Qb,seval];exact N3) ?_;simp only[QPz,Jh,Jq,Xh,QQh,Qm,QP7,QOM,QOE,hle,true_or,QPD,QPn,←List.map_take,h3,h7,Qb,seval];refine QF (site:=68) (g:=_) (n:=0) (xs:=[]) (ys:=(O.take t).map V.pav) (by simp only[Qb,seval]<;>rfl) (by simp only[Qb,seval]) rfl rfl (by simp only[Qb,seval]) (XQ _) (by rw[hd2];simp only[maxLen];omega) (by rw[hd2];omega) ?_;simp only[Qb,seval];refine UR (site:=68) (g:=_) (n:=0+((O.take t).map V.pav).length) (xs:=(O.take t).map V.pav) (ys:=[V.pav x]++(O.drop t).map V.pav) (by simp only[Qb,seval]<;>rfl) (by simp only[Qb,seval]) rfl (by omega) (by simp only[Qb,seval]<;>rfl) (by simp only[Qb,seval]) (by simp only[QPi,QOT,QPA,QPz]<;>omega) (XQ (x :: O.drop t)) (by simp only[QPi,QOT,QPA,hd1,hd2,maxLen];omega) (by simp only[QPi,QOT,QPA,hd1,hd2];omega) ?_;simp only[Qb,seval];refine KV (site:=68) (g:=_) (sz:=14) (n:=_) (xs:=(O.take t).map V.pav++([V.pav x]++(O.drop t).map V.pav)) (by simp only[Qb,seval]<;>rfl) (by simp only[Qb,seval]) (by simp only[QPi,QOT,QPA,hd1,hd2];omega) ?_;rw[hT];rotate_left
  ·simp only[hd1,hd2];omega
  simp only[e1,h4,Qb,seval];exact⟨ps.length-(i+1),by omega,_,_,i+1,rfl,rfl,by omega,(by exact h0),(by rfl),(by rfl),rfl,rfl⟩
 ·have hli:ps.take i=ps:=QPe (by omega);rw[hli]at h3;simp only[QS hlt,h3,Qb,seval]

def dl:List (V×V)→List (V×V)
 | []=>[]
 | [x]=>[x]
 |x :: y :: l=>if Q0 x.1 y.1=true then dl (y :: l)else x :: dl (y :: l)
def JW (T:List (V×V)):Nat→List (V×V)
 |0=>[]
 |i+1=>JW T i++(match T[i]?,T[i+1]? with
  |some x,some y=>if Q0 x.1 y.1=true then []else [x]
  |some x,none=>[x]
  |none,_=>[])
theorem B7 (T:List (V×V)):∀i,i≤T.length→dl T=JW T i++dl (T.drop i)
 |0,_=>rfl
 |i+1,h=>by
  rw[B7 T i (by omega),JW,QPo (by omega:i<T.length),QOH (by omega:i<T.length),QOZ];congr 1
  by_cases hl:i+1<T.length
  ·rw[QPo hl,QOH hl];dsimp only;rw[dl];split<;>rfl
  ·rw[QPh (by omega),QP3 (by omega)];rfl
theorem Qaa (T:List (V×V)):JW T T.length=dl T:=by
 rw[B7 T T.length (QOE _),List.drop_length];show _=_++[];rw[QPI]
theorem Vu (T:List (V×V)):∀i,(JW T i).length≤i
 |0=>QOE _
 |i+1=>by
  have:=Vu T i;rw[JW,QPi];have h:(match T[i]?,T[i+1]? with
   |some x,some y=>if Q0 x.1 y.1=true then []else [x]
   |some x,none=>[x]
   |none,_=>([]:List (V×V))).length≤1:=by
   split
   ·split<;>simp
   ·simp
   ·simp
  omega

theorem P7 {k:Int}{a b c:V}(h:Q0 a b=true):kl k a c=kl k b c∧kl k c a=kl k c b:=by
 unfold Q0 at h;simp only[QO2,QO5]at h;unfold kl;rw[h.1,h.2];exact⟨rfl,rfl⟩
theorem B8 {k:Int}{a b:V×V}(h:kl k a.1 b.1=true):Q0 a.1 b.1=false:=by
 cases he:Q0 a.1 b.1 with
 |false=>rfl
 |true=>
  rw[(P7 (k:=k) he).1]at h;have:kl k b.1 b.1=false:=(ZD k).irr b;rw[this]at h;cases h

theorem Vv {k:Int}:∀ {a b:List (V×V)},(a.Pairwise fun x y=>kl k x.1 y.1=true)→(b.Pairwise fun x y=>kl k x.1 y.1=true)→(∀x,x∈a↔x∈b)→a=b
 | [],[],_,_,_=>rfl
 | [],y :: b,_,_,h=>by have:=(h y).2 (by simp);cases this
 |x :: a,[],_,_,h=>by have:=(h x).1 (by simp);cases this
 |x :: a,y :: b,ha,hb,h=>by
  obtain⟨a1,a2⟩:=QQe.1 ha;obtain⟨b1,b2⟩:=QQe.1 hb;have irr:∀z:V×V,kl k z.1 z.1=true→False:=fun z hz=>by rw[(ZD k).irr z]at hz;cases hz
  have e:x=y:=by
   rcases QP0.1 ((h x).1 (by simp))with e|e
   ·exact e
   ·rcases QP0.1 ((h y).2 (by simp))with e'|e'
    ·exact e'.symm
    ·exact(irr x ((ZD k).tr x y x (a1 y e') (b1 x e))).elim
  subst e;congr 1
  refine Vv a2 b2 fun z=>?_
  have hz:=h z;simp only[QP0]at hz
  constructor
  ·intro hm;rcases hz.1 (.inr hm)with e|e
   ·subst e;exact(irr z (a1 z hm)).elim
   ·exact e
  ·intro hm;rcases hz.2 (.inr hm)with e|e
   ·subst e;exact(irr z (b1 z hm)).elim
   ·exact e

theorem D6 {k:Int}:∀ {l:List (V×V)},(l.Pairwise fun x y=>kl k x.1 y.1=true)→dl l=l
 | [],_=>rfl
 | [x],_=>rfl
 |x :: y :: l,h=>by
  obtain⟨h1,h2⟩:=QQe.1 h;rw[dl,B8 (h1 y (by simp)),QOS (by simp),D6 h2]
theorem P8 {k:Int}{x:V×V}{R:List (V×V)}:∀ {L:List (V×V)},(L.Pairwise fun x y=>kl k x.1 y.1=true)→(∀u∈L,kl k x.1 u.1=false)→dl (L++x :: R)=L.filter (fun q=>!Q0 q.1 x.1)++dl (x :: R)
 | [],_,_=>rfl
 | [u],_,_=>by
  show dl (u :: x :: R)=_;rw[dl,QQg];cases Q0 u.1 x.1<;>rfl
 |u :: v :: L,h,hx=>by
  obtain⟨h1,h2⟩:=QQe.1 h;have huv:=h1 v (by simp);have hux:Q0 u.1 x.1=false:=by
   cases he:Q0 u.1 x.1 with
   |false=>rfl
   |true=>
    have:=hx v (by simp);rw[←(P7 (k:=k) he).1,huv]at this;cases this
  show dl (u :: v :: (L++x :: R))=_;rw[dl,B8 huv,QOS (by simp),QQg,hux];show u :: dl (v :: L++x :: R)=_;rw[P8 h2 fun w hw=>hx w (QOU _ hw)];rfl

theorem D7 {k:Int}{x:V×V}:∀ {O:List (V×V)},X5 (fun x y:V×V=>kl k x.1 y.1) O→∃L R,O=L++R∧(∀u∈L,kl k x.1 u.1=false)∧∀u∈R,kl k x.1 u.1=true
 | [],_=>⟨[],[],rfl,(fun _ h=>(nomatch h)),(fun _ h=>(nomatch h))⟩
 |u :: O,h=>by
  obtain⟨h1,h2⟩:=QQe.1 h;cases hx:kl k x.1 u.1 with
  |true=>
   refine⟨[],u :: O,rfl,(fun _ h=>(nomatch h)),fun w hw=>?_⟩;rcases QP0.1 hw with rfl|hw
   ·exact hx
   ·cases hc:kl k x.1 w.1 with
    |true=>rfl
    |false=>
     have:=(ZD k).nt x w u hc (h1 w hw);rw[hx]at this;cases this
  |false=>
   obtain⟨L,R,e,hl,hr⟩:=D7 (x:=x) h2;refine⟨u :: L,R,by rw[e];rfl,fun w hw=>?_,hr⟩;rcases QP0.1 hw with rfl|hw
   ·exact hx
   ·exact hl w hw

section
variable {P:PL}{k:Int}
def KF (P:PL)(k:Int)(l:List (V×V)):Prop:=∀p∈l,p.1.one P k (-1)=0∧p.1.bits<18446744073709551616

theorem D8 {l:List (V×V)}(h1:KF P k l)(hs:X5 (fun x y:V×V=>kl k x.1 y.1) l)(hu:l.Pairwise fun q p=>Q0 q.1 p.1=false):l.Pairwise fun x y=>kl k x.1 y.1=true:=by
 unfold X5 at hs;rw[QQE]at *;intro i j hi hj hij;obtain⟨a1,a2⟩:=h1 _ (QPx hi);obtain⟨b1,b2⟩:=h1 _ (QPx hj);exact G7 b1 a1 b2 a2 (hs i j hi hj hij) (by rw[K2];exact hu i j hi hj hij)

theorem Vw {A:List (V×V)}{x:V×V}(hA:KF P k A)(hx:x.1.one P k (-1)=0∧x.1.bits<18446744073709551616)(hu:A.Pairwise fun q p=>Q0 q.1 p.1=false):dl (QT k (A++[x]))=Xy k A x:=by
 have hO:(QT k A).Perm A:=QW _;have hOs:X5 (fun x y:V×V=>kl k x.1 y.1) (QT k A):=XX (ZD k) _;have hT:QT k (A++[x])=mg (fun x y:V×V=>kl k x.1 y.1) (QT k A) [x]:=(Kd (ZD k) A [x]).symm;have hOf:KF P k (QT k A):=fun p hp=>hA p (hO.mem_iff.1 hp)
 have hOu:(QT k A).Pairwise fun q p=>Q0 q.1 p.1=false:=(hO.pairwise_iff fun {a b} h=>by rw[K2];exact h).2 hu
 have hst:=D8 hOf hOs hOu;obtain⟨L,R,e,hl,hr⟩:=D7 (k:=k) (x:=x) hOs;rw[hT,e,K0 hl hr];rw[e]at hst;obtain⟨hL,hR,hLR⟩:=QQf.1 hst;have hxR:(x :: R).Pairwise fun x y=>kl k x.1 y.1=true:=QQe.2 ⟨hr,hR⟩
 rw[P8 hL hl,D6 hxR];have hmem:∀w,w∈A↔w∈L∨w∈R:=fun w=>by rw[←hO.mem_iff,e,QPX]
 have hpm:∀w,w∈Xy k A x↔(w∈A∧Q0 w.1 x.1=false)∨w=x:=by
  intro w;have hp:(Xy k A x).Perm _:=QW _;rw[hp.mem_iff,QPX,QQc,QQC];simp
 refine Vv (k:=k) ?_ ?_ ?_
 ·rw[QQf];refine⟨hL.filter _,hxR,fun u hu' w hw=>?_⟩;obtain⟨u1,u2⟩:=QQc.1 hu';have u2:Q0 u.1 x.1=false:=by simpa using u2
  rcases QP0.1 hw with rfl|hw
  ·obtain⟨f1,f2⟩:=hA u ((hmem u).2 (.inl u1));exact G7 hx.1 f1 hx.2 f2 (hl u u1) (by rw[K2];exact u2)
  ·exact hLR u u1 w hw
 ·refine D8 (P:=P) (fun p hp=>?_) (XX (ZD k) _) (Vs hu);rcases(hpm p).1 hp with⟨h,_⟩|rfl
  ·exact hA p h
  ·exact hx
 ·intro w;rw[QPX,QQc,QP0,hpm,hmem]
  constructor
  ·rintro(⟨h1,h2⟩|h1|h1)
   ·exact .inl ⟨.inl h1,by simpa using h2⟩
   ·exact .inr h1
   ·exact .inl ⟨.inr h1,by rw[K2];exact B8 (hr w h1)⟩
  ·rintro(⟨h1|h1,h2⟩|h1)
   ·exact .inl ⟨h1,by simpa using h2⟩
   ·exact .inr (.inr h1)
   ·exact .inr (.inl h1)
end

def PqI (T:List (V×V))(k:Nat)(st:St):Prop :=
 ∃f fr i g h,st=⟨f,[fr],[]⟩∧k=T.length-i∧i≤T.length∧f 3=.vec 0 1000 g 0 T.length false∧f 4=.vec 0 4 h 0 (JW T i).length false∧f 11=.vec 0 1000 g 0 T.length false∧f 12=.int .i64 (T.length:Nat)∧f 13=.int .i64 (i:Nat)∧fr 1000=.vec g 14 (T.map V.pav)∧fr 4=.vec h 14 ((JW T i).map V.pav)∧∀s∈[6],(fr s).isRow=false

theorem AG {P:PL}{k:Int}(hk:Xo k)(ps:List (V×V))(hn:ps.length≤1048576)(h1:∀p∈ps,p.1.one P k (-1)=0)(hb:∀p∈ps,p.1.bits<18446744073709551616):Qj Tryz.prog 103 [.list (ps.map V.pav)] (.list ((dl (QT k ps)).map V.pav)):=by
 have cl:=fun fr hr=>QsN (ps.map V.pav) fr [] (XQ ps) (by rw[QPz];exact hn) hr
 have ez:∀x∈ps.map V.pav,Ez (eP P k) 14 x:=by
  intro x hx;obtain⟨p,hp,rfl⟩:=QPY.1 hx;exact ezP (h1 p hp) (hb p hp)
 have cs:=fun g (m:Qh) (hl:Am.Qd m 0 1000=.vec g 14 (ps.map V.pav))=>Tz.CV Tg.PV (by decide) (QsO (P:=P) hk) 0 1000 g (ps.map V.pav) m hl ez (by rw[QPz];omega)
 simp only[BT,QPz]at cs;have hperm:(QT k ps).Perm ps:=QW _;have hlen:(QT k ps).length=ps.length:=hperm.length_eq;have h1T:∀p∈QT k ps,p.1.one P k (-1)=0:=fun p hp=>h1 p (hperm.mem_iff.1 hp)
 have hbT:∀p∈QT k ps,p.1.bits<18446744073709551616:=fun p hp=>hb p (hperm.mem_iff.1 hp)
 generalize QT k ps=T at *;have hdn:=Qaa T;have hdl:=Vu T;rw[←hdn];refine QhX.fn (by simp) ?_;simp only[Qb,seval];refine QU (cl _ rfl) (by simp only[QPc,QPG,Qb,seval]) ?_;simp only[QPz,Qb,seval];refine QU (cs _ _ (by simp only[eE,seval]<;>rfl)) (by simp only[QPc,QPG,Qb,seval]) ?_;simp only[eE,seval];refine JP (by simp only[Qb,seval]) (by simp only[Qb,seval]) ?_;simp only[eE,seval];refine Qg (PqI T) _ ⟨_,_,0,_,_,rfl,rfl,QOM _,(by rw[hlen];exact(by rfl)),(by rfl),(by rw[hlen];exact(by rfl)),(by rw[hlen];exact(by rfl)),(by rfl),(by rfl),(by rfl),by simp<;>rfl⟩ ?_;rintro _ st ⟨f0,fr0,i,g,h,rfl,rfl,hil,h30,h40,h110,h120,h130,mR0,m40,r6⟩;refine Q7 (a:=_) [6] r6 ?_;intro f fr hf hm hn6;have h3:f 3=.vec 0 1000 g 0 T.length false:=by rw[hf,h30]<;>rfl
 have h4:f 4=.vec 0 4 h 0 (JW T i).length false:=by rw[hf,h40]<;>rfl
 have h11:f 11=.vec 0 1000 g 0 T.length false:=by rw[hf,h110]<;>rfl
 have h12:f 12=.int .i64 (T.length:Nat):=by rw[hf,h120]<;>rfl
 have h13:f 13=.int .i64 (i:Nat):=by rw[hf,h130]<;>rfl
 have mR:fr 1000=.vec g 14 (T.map V.pav):=by rw[hm 1000 (by decide),mR0]<;>rfl
 have m4:fr 4=.vec h 14 ((JW T i).map V.pav):=by rw[hm 4 (by decide),m40]<;>rfl
 have n6:=hn6 6 (by decide);clear hf hm hn6 h30 h40 h110 h120 h130 mR0 m40 r6;simp only[h12,h13,Qb,seval];by_cases hlt:i<T.length
 ·obtain⟨x,hi⟩:∃x,T[i]? = some x:=⟨T[i],QOH hlt⟩;have hg:=Ke hi;have e1:=Qx i _ hlt (by simp only[maxLen];omega);have ia:∀(fr:Nat→Ob) (j:Nat),fr 1000=.vec g 14 (T.map V.pav)→j<T.length→Qf [fr] 14 none (.vec 0 1000 g 0 T.length false) ((j:Nat):Int)=some (.vptr 0 1000 g j 0):=fun fr j h hj=>Si h hj
  have la:∀(fr:Nat→Ob),fr 1000=.vec g 14 (T.map V.pav)→Q3 [fr] (some 14) (.vptr 0 1000 g i 0)=some (.agg [.int .i64 x.1.kd,.int .u64 (x.1.bits:Nat),.str x.1.text,.list (x.1.list.map V.av),.list (x.1.pairs.map V.pav),.list (x.1.slots.map V.sav),.list (x.1.raws.map R.av),.int .i64 x.2.kd,.int .u64 (x.2.bits:Nat),.str x.2.text,.list (x.2.list.map V.av),.list (x.2.pairs.map V.pav),.list (x.2.slots.map V.sav),.list (x.2.raws.map R.av)]):=fun fr h=>BS h hg (by simp)
  have hdi:=hdl i;have keep:JW T (i+1)=JW T i++[x]→∀(f':Fr) (fr':Nat→Ob) (h':Nat),f' 3=.vec 0 1000 g 0 T.length false→f' 4=.vec 0 4 h' 0 ((JW T i).length+1) false→f' 11=.vec 0 1000 g 0 T.length false→f' 12=.int .i64 (T.length:Nat)→f' 13=.int .i64 ((i+1:Nat):Int)→fr' 1000=.vec g 14 (T.map V.pav)→fr' 4=.vec h' 14 ((JW T i).map V.pav++[V.pav x])→(∀s∈[6],(fr' s).isRow=false)→∃k,k<T.length-i∧PqI T k ⟨f',[fr'],[]⟩:=by
   intro hk' f' fr' h' a3 a4 a11 a12 a13 b1 b4 b6;exact⟨T.length-(i+1),by omega,f',fr',i+1,g,h',rfl,rfl,by omega,a3,by rw[a4,hk',QPi];rfl,a11,a12,a13,b1,by rw[b4,hk',QQq];rfl,b6⟩
  have hst:JW T (i+1)=JW T i++(match T[i]?,T[i+1]? with
   |some x,some y=>if Q0 x.1 y.1=true then []else [x]
   |some x,none=>[x]
   |none,_=>[]):=rfl
  rw[hi]at hst;have hti:((JW T i).map V.pav).length=(JW T i).length:=QPz ..;simp only[Qt hlt,ia,la,mR,hlt,n6,h3,h11,h13,e1,eE,seval];by_cases hl:i+1=T.length
  ·have d1:(((i+1:Nat):Int)==(T.length:Int))=true:=by simp;omega
   rw[QP3 (by omega)]at hst;simp only[d1,h4,eE,seval];refine QO (l:=[V.pav x]) rfl rfl rfl (by rw[Q4];rfl) ?_;refine QF (site:=4) (g:=h) (n:=(JW T i).length) (xs:=(JW T i).map V.pav) (ys:=[V.pav x]) (by rfl) (by exact m4) rfl hti.symm rfl (XQ [x]) (by simp only[QOT,QPA,maxLen];omega) (by simp only[QOT,QPA];omega) ?_;simp only[h13,e1,Qb,seval];exact keep hst _ _ (h+1) (by exact h3) (by rfl) (by exact h11) (by exact h12) (by rfl) (by exact mR) (by rfl) (by simp<;>rfl)
  ·have d1:(((i+1:Nat):Int)==(T.length:Int))=false:=by simp;omega
   have hlt1:i+1<T.length:=by omega
   obtain⟨y,hj⟩:∃y,T[i+1]? = some y:=⟨T[i+1],QOH hlt1⟩;have hgj:=Ke hj;have lc:∀(fr:Nat→Ob),fr 1000=.vec g 14 (T.map V.pav)→Q3 [fr] (some 7) (.vptr 0 1000 g (i+1) 0)=some (.agg [.int .i64 y.1.kd,.int .u64 (y.1.bits:Nat),.str y.1.text,.list (y.1.list.map V.av),.list (y.1.pairs.map V.pav),.list (y.1.slots.map V.sav),.list (y.1.raws.map R.av)]):=fun fr h=>by
    rw[BS h hgj (by simp)];rfl
   have hx1:=h1T x (QOR hi);have hy1:=h1T y (QOR hj);rw[hj]at hst;dsimp only at hst;have hq:=Qsx k hk x.1.bits y.1.bits x.1.text y.1.text;rw[←(Jt hx1).1,←(Jt hy1).1,Vi hk hx1 hy1 (hbT x (QOR hi)) (hbT y (QOR hj)),Qc,Qc]at hq;simp only[d1,ia,lc,mR,hlt1,Wk,QPm,QPd,QPN,QPn,h3,e1,eE,seval];refine Qa hq rfl rfl rfl (.inl rfl) ?_;cases hne:Q0 x.1 y.1
   ·skip
    rw[hne,QOS (by simp)]at hst;simp only[h4,eE,seval];refine QO (l:=[V.pav x]) rfl rfl rfl (by rw[Q4];rfl) ?_;refine QF (site:=4) (g:=h) (n:=(JW T i).length) (xs:=(JW T i).map V.pav) (ys:=[V.pav x]) (by rfl) (by exact m4) rfl hti.symm rfl (XQ [x]) (by simp only[QOT,QPA,maxLen];omega) (by simp only[QOT,QPA];omega) ?_;simp only[h13,e1,Qb,seval];exact keep hst _ _ (h+1) (by exact h3) (by rfl) (by exact h11) (by exact h12) (by rfl) (by exact mR) (by rfl) (by simp<;>rfl)
   ·rw[hne,QO9 rfl,QPI]at hst;simp only[h13,e1,Qb,seval];exact⟨T.length-(i+1),by omega,_,_,i+1,g,h,rfl,rfl,by omega,(by exact h3),(by rw[hst];exact(by exact h4)),(by exact h11),(by exact h12),(by rfl),(by exact mR),(by rw[hst];exact(by exact m4)),by simp<;>rfl⟩
 ·have e:i=T.length:=by omega
  subst e;simp only[QS hlt,h4,eE,seval];simp[AV.un,Zv,XH,m4];rw[QPe (by rw[QPz];exact QOE _)]

open Vp Cp

theorem Qs5 {k:Int}:Qy ⟨0,[],[],0,0,k,-1,0⟩=.agg [.int .i64 0,.str [],.str [],.int .i64 0,.int .i64 0,.int .i64 k,.int .i64 (-1),.int .i64 0]:=rfl

section
variable {M K n:Nat}(P:PL)(hP:P.ok M)(c:C)(l s:Nat)(m:Qh)(hm:l<m.length)(hs:Am.Qd m l s=Q1 P c)(hc:CI c){rec:Int→V→C→Rd V}(hrec:HT P M K n rec)(hcn:c.left≤n)(hb1:(1:Int)+3*c.left≤K)

include hP hm hs hc hrec hcn hb1 in
theorem QKE (o:PO)(w:Int)(ht:o.kind=10→0≤o.target∧o.target<(P.progs.length:Int)) :
  Qu Tryz.prog 144 [.ptr l s 0,Qy o,.int .i64 w] m (Rt P l s m V.av (ZE P rec o.kind o.target w c)):=by
 have hs0:=hs;have lp:∀o,Am.Qd (Am.put m l s o) l s=o:=fun o=>Ql hm
 have pp:∀o q,Am.put (Am.put m l s o) l s q=Am.put m l s q:=fun o q=>put_put
 have hwo:=P1 o;simp only[Qy,PO.cells]at hwo;refine QF5.go (by simp) ?_;simp only[Qy,PO.cells,eE,seval];refine Qa hwo rfl rfl rfl (.inl rfl) ?_;unfold ZE;by_cases hw:w=wk o.kind
 case neg=>
  have b1:(w != wk o.kind)=true:=by simp[hw]
  rw[QOS hw];simp only[b1,eE,seval];exact⟨by decide,Qs 0 0 [],c,(by rw[XO];rfl),(put_self hm hs0).symm⟩
 have b1:(w != wk o.kind)=false:=by simp[hw]
 rw[QO9 hw];by_cases hk:o.kind=10
 ·have b2:(o.kind==10)=true:=by simp[hk]
  rw[QO9 hk];simp only[b1,b2,Kr,eE,seval];refine J8 (Qs2 P c (l+1) s _ (by simp only[QOT];omega) hs0 hc hrec (ht hk) (Qs 10 0 []) 0 (Int.le_refl 0) hcn (fun hn=>XB hn) (XA rfl (by decide) (QOM _)) (by rw[Xa];omega)) (by rw[XO];first|rfl|simp only[QPc,QPG,G5,nn0,eE,seval]) ?_;intro x m1 hx _;cases hr:Je rec o.target (Qs 10 0 []) 0 c with
  |error e=>
   rw[hr]at hx;obtain⟨he,y,c',rfl,rfl⟩:=hx;simp only[Qc y,QN,eE,seval];exact⟨he,y,c',by rw[Qc y],rfl⟩
  |ok p=>
   obtain⟨y,d⟩:=p;rw[hr]at hx;obtain⟨rfl,rfl⟩:=hx;simp only[Qc y,QN,eE,seval];exact⟨by rw[Qc y],rfl⟩
 ·have b2:(o.kind==10)=false:=by simp[hk]
  rw[QOS hk];simp only[b1,b2,Kr,eE,seval];refine QH (QsZ P c (l+1) s _ (by simp only[QOT];omega) hs0 hc w) (by simp only[QPc,QPG,Qb,seval]) ?_;intro x m1 hx _;cases hr:Kp w c with
  |error e=>
   rw[hr]at hx;obtain⟨he,y,c',rfl,rfl⟩:=hx;dsimp only;simp only[Qr he,R.av,QN,eE,seval];exact⟨he,Qs 0 0 [],c',(by rw[XO];rfl),rfl⟩
  |ok p=>
   obtain⟨f,d⟩:=p;rw[hr]at hx;obtain⟨rfl,rfl⟩:=hx;obtain⟨_,_,b3,b4⟩:=WY hc hr;have hsc:=Qs1 P hP o f b3;have e0:P.av=.agg [.list (P.progs.map Qp),.list (P.enums.map QV)]:=rfl;dsimp only;generalize Q9 P o.kind o.target f=q at hsc ⊢;obtain⟨x,e⟩:=q;simp only[X4,e0,Qy,PO.cells,R.av,Qc x]at hsc;simp only[R.av,Q1,lp,sh2,eE,seval];refine Qa hsc rfl rfl rfl (.inl rfl) ?_;simp only[QN,eE,seval];by_cases he:e=0
   ·subst he;rw[QO9 rfl];exact⟨by rw[Qc x];rfl,rfl⟩
   ·rw[QOS he];exact⟨he,x,d,by rw[Qc x],rfl⟩

variable (g:PG)(hg:g.ops.length≤maxLen)(v:V)(hv:(v.cnt:Int)+3*c.left≤K)(hK:K≤1000000)(hvo:v.ok M)(o:PO)

include hm hs hc hrec hcn hb1 hg hv hK hvo in
theorem j94 (ho:OpK P g o)(h10:o.kind=10)(h5:o.card≠5)(hvm:MW P (n+1) g v) :
  Qu Tryz.prog 94 [.ptr l s 0,Qp g,v.av,Qy o] m (Rt P l s m V.av (Ju rec g v o c)):=by
 have hs0:=hs;have lp:∀o,Am.Qd (Am.put m l s o) l s=o:=fun o=>Ql hm
 have pp:∀o q,Am.put (Am.put m l s o) l s q=Am.put m l s q:=fun o q=>put_put
 have ls:=Xi v;have hcb:=hc.bd;have ht:=ho.uo.tgt h10;have hfd:=AF v o.num (by omega);have hoc:=WK v o.num;have hol:=W2 (n:=o.num) hvo;have hin:=fun(fr:Nat→Ob) (b:V) (k:Int) (h0:0≤k) (h1:1≤n→MW P n (QE P o.target) b) (h2:b.ok M) (h3:(b.cnt:Int)+3*c.left≤K)=>Qs2 P c (l+1) s (fr :: m) (by simp only[QOT];omega) hs0 hc hrec ht b k h0 hcn h1 h2 h3
 have hset:=fun y=>CY g v o y hg (by omega)
 have hlo:=fun x=>QsS (QL v o.num) x (by have:=ZU (QL v o.num);omega)
 have hon:∀h:(Xq v o.num).isSome=false,QL v o.num=Qs 0 0 []:=fun h=>Zo (by rw[h];simp)
 have hom:o.card≠4→(Xq v o.num).isSome=true→MW P n (QE P o.target) (QL v o.num):=by
  intro h4 h;obtain⟨z,hz⟩:=QO4.1 h;have h2:=W3 hvm ho.self hz;unfold FW at h2;rw[QOS h4,QOS h5]at h2;rw[(Xn hz).2];exact h2 h10
 rw[Qc v]at hset;simp only[Qp,Qy,PG.cells,PO.cells]at hset;unfold Ju;generalize QL v o.num=z at hfd hlo hoc hol hon hom ⊢;rw[Qc v,Qc z]at hfd;rw[Qc z]at hlo;rw[Qc v];refine k94.go (by simp) ?_;simp only[Qp,Qy,PG.cells,PO.cells,eE,seval];refine Qa hfd rfl rfl rfl (.inl rfl) ?_;by_cases h4:o.card=4
 ·have b4':(o.card==4)=true:=by simp[h4]
  rw[QO9 h4];cases hf:(Xq v o.num).isSome
  case false=>
   have hkk:(if (false:Bool)=true then(1:Int)else 2)=2:=rfl;rw[hkk];simp only[b4',Kr,eE,seval];refine J8 (hin _ (Qs 10 0 []) 2 (by decide) (fun hn=>XB hn) (XA rfl (by decide) (QOM _)) (by rw[Xa];omega)) (by rw[XO];first|rfl|simp only[QPc,QPG,G5,nn0,eE,seval]) ?_;intro x m1 hx _;cases hr:Je rec o.target (Qs 10 0 []) 2 c with
   |error e=>
    rw[hr]at hx;obtain⟨he,y,c',rfl,rfl⟩:=hx;dsimp only;simp only[Qr he,Qc y,QN,eE,seval];exact⟨he,v,c',by rw[Qc v],rfl⟩
   |ok p=>
    obtain⟨y,d⟩:=p;rw[hr]at hx;obtain⟨rfl,rfl⟩:=hx;have h1:=hlo y;have h2:=hset (Q5 (z.list++[y]));dsimp only;generalize Xg g v o (Q5 (z.list++[y]))=w at h2 ⊢;generalize Q5 (z.list++[y])=u at h1 h2;rw[Qc y,Qc u]at h1;rw[Qc u,Qc w]at h2;simp only[Qc y,eE,seval];refine Qa h1 rfl rfl rfl (.inl rfl) ?_;refine Qa h2 rfl rfl rfl (.inl rfl) ?_;simp only[QN,eE,seval];exact⟨by rw[Qc w],rfl⟩

  case true=>
   have hkk:(if (true:Bool)=true then(1:Int)else 2)=1:=rfl;rw[hkk];simp only[b4',Kr,eE,seval];refine J8 (hin _ (Qs 10 0 []) 1 (by decide) (fun hn=>XB hn) (XA rfl (by decide) (QOM _)) (by rw[Xa];omega)) (by rw[XO];first|rfl|simp only[QPc,QPG,G5,nn0,eE,seval]) ?_;intro x m1 hx _;cases hr:Je rec o.target (Qs 10 0 []) 1 c with
   |error e=>
    rw[hr]at hx;obtain⟨he,y,c',rfl,rfl⟩:=hx;dsimp only;simp only[Qr he,Qc y,QN,eE,seval];exact⟨he,v,c',by rw[Qc v],rfl⟩
   |ok p=>
    obtain⟨y,d⟩:=p;rw[hr]at hx;obtain⟨rfl,rfl⟩:=hx;have h1:=hlo y;have h2:=hset (Q5 (z.list++[y]));dsimp only;generalize Xg g v o (Q5 (z.list++[y]))=w at h2 ⊢;generalize Q5 (z.list++[y])=u at h1 h2;rw[Qc y,Qc u]at h1;rw[Qc u,Qc w]at h2;simp only[Qc y,eE,seval];refine Qa h1 rfl rfl rfl (.inl rfl) ?_;refine Qa h2 rfl rfl rfl (.inl rfl) ?_;simp only[QN,eE,seval];exact⟨by rw[Qc w],rfl⟩
 ·have b4':(o.card==4)=false:=by simp[h4]
  rw[QOS h4];cases hf:(Xq v o.num).isSome
  case false=>
   have hkk:(if (false:Bool)=true then z else Qs 10 0 [])=Qs 10 0 []:=rfl;rw[hkk];simp only[b4',Kr,eE,seval];refine J8 (hin _ (Qs 10 0 []) 1 (by decide) (fun hn=>XB hn) (XA rfl (by decide) (QOM _)) (by rw[Xa];omega)) (by rw[Qc (Qs 10 0 [])];first|rfl|simp only[QPc,QPG,G5,nn0,eE,seval]) ?_;intro x m1 hx _;cases hr:Je rec o.target (Qs 10 0 []) 1 c with
   |error e=>
    rw[hr]at hx;obtain⟨he,y,c',rfl,rfl⟩:=hx;dsimp only;simp only[Qr he,Qc y,QN,eE,seval];exact⟨he,v,c',by rw[Qc v],rfl⟩
   |ok p=>
    obtain⟨y,d⟩:=p;rw[hr]at hx;obtain⟨rfl,rfl⟩:=hx;have h2:=hset y;dsimp only;generalize Xg g v o y=w at h2 ⊢;rw[Qc y,Qc w]at h2;simp only[Qc y,eE,seval];refine Qa h2 rfl rfl rfl (.inl rfl) ?_;simp only[QN,eE,seval];exact⟨by rw[Qc w],rfl⟩

  case true=>
   have hkk:(if (true:Bool)=true then z else Qs 10 0 [])=z:=rfl;rw[hkk];simp only[b4',Kr,eE,seval];refine J8 (hin _ (z) 1 (by decide) (fun _=>hom h4 hf) (hol) (by omega)) (by rw[Qc (z)];first|rfl|simp only[QPc,QPG,G5,nn0,eE,seval]) ?_;intro x m1 hx _;cases hr:Je rec o.target (z) 1 c with
   |error e=>
    rw[hr]at hx;obtain⟨he,y,c',rfl,rfl⟩:=hx;dsimp only;simp only[Qr he,Qc y,QN,eE,seval];exact⟨he,v,c',by rw[Qc v],rfl⟩
   |ok p=>
    obtain⟨y,d⟩:=p;rw[hr]at hx;obtain⟨rfl,rfl⟩:=hx;have h2:=hset y;dsimp only;generalize Xg g v o y=w at h2 ⊢;rw[Qc y,Qc w]at h2;simp only[Qc y,eE,seval];refine Qa h2 rfl rfl rfl (.inl rfl) ?_;simp only[QN,eE,seval];exact⟨by rw[Qc w],rfl⟩

end

def XR (c:C):List AV:=[.str c.d,.int .i64 c.a,.int .i64 c.e,.int .i64 c.dp,.int .i64 c.nd,.int .i64 c.tx]

section
variable {M K n:Nat}(hM:3000≤M)(hK:K≤1000000)(P:PL)(hP:P.ok M)(l s:Nat)(m:Qh)(hm:l<m.length)(g:PG)(hg:g.ops.length≤maxLen)(o:PO)(ho:OpK P g o)(h5:o.card≠5)

structure PkF (g:PG)(o:PO)(d:C)(l s:Nat)(f:Fr)(fr:Nat→Ob)(v:V):Prop where
 f0:f 0=.ptr (l+1) s 0
 f5:f 5=.ptr 0 5 0
 f6:f 6=.ptr 0 6 0
 f7:f 7=.ptr 0 7 0
 f8:f 8=.ptr 0 8 0
 f12:f 12=.ptr 0 12 0
 m5:fr 5=.cells g.cells
 m6:fr 6=.cells (vc v)
 m7:fr 7=.cells o.cells
 m8:fr 8=.cells XG
 m12:fr 12=.cells (XR d)

include hM hK hP hm hg ho h5 in
theorem Vx (d:C)(R0:Rd V)(k:Nat)(v:V)(c:C)(f:Fr)(fr:Nat→Ob)(hf:PkF g o d l s f fr v)(hc:CI c)(hk:c.left≤k)(hR:K6 P g o k v c=R0)(hvm:MW P (n+1) g v)(hvo:v.ok M)(hb:(v.cnt:Int)+3*c.left≤K)(Q:Exit→St→Prop)
  (hx:∀f fr v c,PkF g o d l s f fr v→R0=.ok (v,c)→Q (.exit 0) ⟨f,fr :: Am.put m l s (Q1 P c),[]⟩)
  (he:∀f fr v (e:Nat) c,f 8=.ptr 0 8 0→fr 8=.cells (vc v)→f 9=.int .i64 (e:Nat)→R0=.error e→e≠0→Q .ret ⟨f,fr :: Am.put m l s (Q1 P c),[]⟩) :
  QJ Tryz.prog (.loop SP) ⟨f,fr :: Am.put m l s (Q1 P c),[]⟩ Q:=by
 have lp:∀o,Am.Qd (Am.put m l s o) l s=o:=fun o=>Ql hm
 have pp:∀o q,Am.put (Am.put m l s o) l s q=Am.put m l s q:=fun o q=>put_put
 have hpl:∀o,l+1<(Am.put m l s o).length+1:=fun o=>by rw[QN];omega
 let I:Nat→St→Prop:=fun k st=>∃f fr v c,st=⟨f,fr :: Am.put m l s (Q1 P c),[]⟩∧PkF g o d l s f fr v∧CI c∧c.left≤k∧K6 P g o k v c=R0∧MW P (n+1) g v∧v.ok M∧(v.cnt:Int)+3*c.left≤K
 refine Qg I k ⟨f,fr,v,c,rfl,hf,hc,hk,hR,hvm,hvo,hb⟩ ?_;clear hf hc hk hR hvm hvo hb;rintro k st ⟨f,fr,v,c,rfl,hf,hc,hk,hR,hvm,hvo,hb⟩;have hcb:=hc.bd;obtain⟨h0,h5',h6,h7,h8,h12,m5',m6',m7',m8',m12'⟩:=hf;have m5:=m5';have m6:=m6';have m7:=m7';have m8:=m8';simp only[PG.cells]at m5;simp only[vc]at m6;simp only[PO.cells]at m7;simp only[XG]at m8;simp only[Q1,lp,h0,ZM,eE,seval];refine Qa (DZ c hc.big') rfl rfl rfl (.inl rfl) ?_;by_cases hlt:0<c.left
 case neg=>
  have d1:decide (c.left > 0)=false:=QQt hlt;have hR':R0=.ok (v,c):=by
   rw[←hR];cases k with
   |zero=>rfl
   |succ k=>rw[K6,QOS hlt]
  simp only[d1,Qb,seval];exact hx _ _ v c ⟨(by exact h0),(by exact h5'),(by exact h6),(by exact h7),(by exact h8),(by exact h12),m5',m6',m7',m8',m12'⟩ hR'
 have d1:decide (c.left > 0)=true:=QQx hlt;obtain⟨k,rfl⟩:∃j,k=j+1:=⟨k-1,by omega⟩;rw[K6,QO9 hlt]at hR;have hon:=j95 P hP c (l+1) s (fr :: Am.put m l s (Q1 P c)) (by exact hpl _) (by exact lp _) hc g hg v (by omega) o;rw[Qc v]at hon;simp only[Qp,Qy,PG.cells,PO.cells,Q1]at hon;simp only[d1,h0,h5',h6,h7,m5,m6,m7,eE,seval];refine QH hon (by simp only[QPc,QPG,Qb,seval]<;>rfl) ?_;intro x m1 hx1 _;cases hr:WW P g v o c with
 |error e=>
  rw[hr]at hx1 hR;obtain⟨he',w,c',rfl,rfl⟩:=hx1;simp only[Qc w,Qr he',h6,h8,m6,m8,pp,eE,seval];exact he _ _ w e c' (by exact h8) (by rfl) (by rfl) hR.symm he'
 |ok p=>
  obtain⟨w,d1⟩:=p;rw[hr]at hx1 hR;obtain⟨rfl,rfl⟩:=hx1;obtain⟨r1,r2,r3,r4⟩:=U8 hM hK ho hc hvm hvo hb h5 hr;have hl:=r1.lt hc;dsimp only at hR;simp only[Qc w,h6,m6,pp,eE,seval];exact⟨k,by omega,_,_,w,d1,rfl,⟨(by exact h0),(by exact h5'),(by exact h6),(by exact h7),(by exact h8),(by exact h12),(by exact m5'),(by rfl),(by exact m7'),(by exact m8'),(by exact m12')⟩,r1.ci hc,by omega,hR,r2,r3,by omega⟩

variable (c:C)(hs:Am.Qd m l s=Q1 P c)(hc:CI c)(v:V)(hvm:MW P (n+1) g v)(hvo:v.ok M)(hb:(v.cnt:Int)+3*c.left≤K)

include hM hK hP hm hg ho h5 hs hc hvm hvo hb in
theorem j92 (h4:o.card=4) :
  Qu Tryz.prog 92 [.ptr l s 0,Qp g,v.av,Qy o] m (Rt P l s m V.av (Yg P g v o c)):=by
 have hs0:=hs;have lp:∀o,Am.Qd (Am.put m l s o) l s=o:=fun o=>Ql hm
 have pp:∀o q,Am.put (Am.put m l s o) l s q=Am.put m l s q:=fun o q=>put_put
 have hpl:∀o,l+1<(Am.put m l s o).length+1:=fun o=>by rw[QN];omega
 have ls:=Xi v;have hcb:=hc.bd;have hwo:=P1 o;have hfd:=AF v o.num (by omega);have hset:=CY g v o (Q5 []) hg (by omega);have hok:=Jo (g:=g) (x:=Q5 []) hvo ho.wf (WI (fun y hy=>(nomatch hy)) (QOM _)) (by omega);have hmw:=Jp (x:=Q5 []) hvm ho.self (by unfold FW;rw[QO9 h4];exact fun y hy=>(nomatch hy));have hct:=JJ g v o (Q5 []);rw[Kh]at hct;simp only[Zc]at hct;unfold Yg;rw[show(Q5 []).av=.agg [.int .i64 11,.int .u64 0,.str [],.list [],.list [],.list [],.list []]from Qc _]at hset;generalize Xg g v o (Q5 [])=w at hset hok hmw hct ⊢;rw[Qc v,Qc w]at hset;generalize QL v o.num=z at hfd;rw[Qc v,Qc z]at hfd;simp only[Qp,Qy,PG.cells,PO.cells]at hset hwo;rw[Qc v];refine k92.go (by simp) ?_;simp only[Qp,Qy,PG.cells,PO.cells,eE,seval];refine QH (C0 P c (l+1) s _ (by simp only[QOT];omega) hs0 hc) (by simp only[QPc,QPG,Qb,seval]) ?_;intro x m1 hx _;cases hr:Jd c with
 |error e=>
  rw[hr]at hx;obtain⟨he,a,c',rfl,rfl⟩:=hx;dsimp only;simp only[Qr he,QN,eE,seval];exact⟨he,v,c',by rw[Qc v],rfl⟩
 |ok p=>
 obtain⟨q,d⟩:=p;obtain⟨a1,a2⟩:=Jl hc hr;have hd:=a1.ci hc;have hl1:=a1.lt hc;have hdb:=hd.bd;rw[hr]at hx;obtain⟨rfl,rfl⟩:=hx;obtain⟨_,p2,p3⟩:=Kq hd a2;dsimp only;simp only[eE,seval];refine QH (Qs0 P d (l+1) s _ (by exact lp _) q) (by simp only[QPc,QPG,Qb,seval]) ?_;rintro x m1 ⟨rfl,rfl⟩ _;have hby:=QJ9 (part d q) p2.big';have hya:=Dw p2;generalize part d q=i at hby hya p2 p3 ⊢;generalize Zd i=r at hby hya ⊢;obtain⟨b,j,e⟩:=r;dsimp only at hya;simp only[UK,C.av]at hby;simp only[C.av,Q1,lp,pp,ZM,ZA,eE,seval];refine Qa hby rfl rfl rfl (.inl rfl) ?_;by_cases he:e=0
 case neg=>
  rw[QOS he];simp only[Qr he,ZA,QN,eE,seval];exact⟨he,v,i,by rw[Qc v],rfl⟩
 subst he;obtain⟨y1,y2,y3⟩:=hya rfl;have hj:=y1.ci p2;have hlj:=y1.lt p2;have hjb:=hj.bd;have w1:IntKind.i64.wrap b=b:=by rw[QA];omega
 rw[QO9 rfl];simp only[w1,lp,pp,ZM,ZA,eE,seval];refine Qa hwo rfl rfl rfl (.inl rfl) ?_;by_cases hw:b=wk o.kind
 case neg=>
  have b1:(b != wk o.kind)=true:=by simp[hw]
  rw[QOS hw];simp only[b1,QN,eE,seval];exact⟨by decide,v,j,by rw[Qc v];rfl,rfl⟩
 have b1:(b != wk o.kind)=false:=by simp[hw]
 rw[QO9 hw];simp only[b1,Kr,eE,seval];refine Qa hfd rfl rfl rfl (.inl rfl) ?_
 -- XZ the loop
 cases hf:(Xq v o.num).isSome
 case false=>
  simp only[QOX,eE,seval];refine QH (B4 P j (l+1) s _ (by exact lp _) 1) (by simp only[QPc,QPG,Qb,seval]) ?_;rintro x m1 ⟨rfl,rfl⟩ _;rcases Ze j 1 with⟨j2,h2,h2'⟩|⟨e,he,h2,h2'⟩
  case inr=>
   rw[h2,h2'];dsimp only;simp only[Qr he,pp,QN,eE,seval];exact⟨he,v,_,by rw[Qc v],rfl⟩
  rw[h2,h2'];obtain⟨s1,_⟩:=XW hj (by omega) h2;have hj2:=s1.ci hj;have hls:=(s1.left hj).2.2;have hj2b:=hj2.bd;dsimp only;simp only[pp,eE,seval];refine Qa hset rfl rfl rfl (.inl rfl) ?_;simp only[eE,seval];unfold Wg;refine Vx (n:=n) hM hK P hP l s m hm g hg o ho h5 d _ j2.left.toNat w j2 _ _ ⟨(by rfl),(by rfl),(by rfl),(by rfl),(by rfl),(by rfl),(by rfl),(by rfl),(by rfl),(by rfl),(by rfl)⟩ hj2 (by omega) rfl hmw hok (by omega) _ (fun f fr v' c' hf' hR'=>?_) (fun f fr v' e c' h8 m8 h9 hR' he=>?_)
  ·obtain⟨h0,h5',h6,h7,h8,h12,m5,m6,m7,m8,m12⟩:=hf';rw[hR'];dsimp only;simp only[vc]at m6;simp only[XG]at m8;simp only[XR]at m12;simp only[h0,h12,m12,ZM,eE,seval];refine QH (C1 P c' (l+1) s _ (by exact lp _) d) (by simp only[QPc,QPG,C.av,Qb,seval]) ?_;rintro x m1 ⟨rfl,rfl⟩ _;simp only[h6,h8,m6,m8,pp,QN,eE,seval];exact⟨by rw[Qc v'],rfl⟩
  ·rw[hR'];dsimp only;simp only[vc]at m8;simp only[h8,m8,h9,QN,eE,seval];exact⟨he,v',c',by rw[Qc v'],rfl⟩
 case true=>
  simp only[eE,seval];unfold Wg;refine Vx (n:=n) hM hK P hP l s m hm g hg o ho h5 d _ j.left.toNat v j _ _ ⟨(by rfl),(by rfl),(by rfl),(by rfl),(by rfl),(by rfl),(by rfl),(by rfl),(by rfl),(by rfl),(by rfl)⟩ hj (by omega) rfl hvm hvo (by omega) _ (fun f fr v' c' hf' hR'=>?_) (fun f fr v' e c' h8 m8 h9 hR' he=>?_)
  ·obtain⟨h0,h5',h6,h7,h8,h12,m5,m6,m7,m8,m12⟩:=hf';rw[hR'];dsimp only;simp only[vc]at m6;simp only[XG]at m8;simp only[XR]at m12;simp only[h0,h12,m12,ZM,eE,seval];refine QH (C1 P c' (l+1) s _ (by exact lp _) d) (by simp only[QPc,QPG,C.av,Qb,seval]) ?_;rintro x m1 ⟨rfl,rfl⟩ _;simp only[h6,h8,m6,m8,pp,QN,eE,seval];exact⟨by rw[Qc v'],rfl⟩
  ·rw[hR'];dsimp only;simp only[vc]at m8;simp only[h8,m8,h9,QN,eE,seval];exact⟨he,v',c',by rw[Qc v'],rfl⟩

end

def Z0 (P:PL)(g:PG)(o:PO):Nat→V→C→V×C×Nat
 |0,v,c=>(v,c,0)
 |k+1,v,c=>if 0<c.left then(if (J0 P g v o c).2.2=0 then Z0 P g o k (J0 P g v o c).1 (J0 P g v o c).2.1 else J0 P g v o c)else(v,c,0)
theorem Hr (P:PL)(g:PG)(o:PO):∀(k:Nat) (v:V) (c:C),K6 P g o k v c=if (Z0 P g o k v c).2.2=0 then .ok ((Z0 P g o k v c).1,(Z0 P g o k v c).2.1)else .error (Z0 P g o k v c).2.2
 |0,v,c=>rfl
 |k+1,v,c=>by
  rw[K6,Z0,UQ];by_cases h:0<c.left
  ·rw[QO9 h,QO9 h];by_cases h1:(J0 P g v o c).2.2=0
   ·rw[QO9 h1,QO9 h1];exact Hr P g o k _ _
   ·rw[QOS h1,QOS h1,QOS h1]
  ·rw[QOS h,QOS h];rfl
def KH (P:PL)(g:PG)(v:V)(o:PO)(c d i:C):V×C×Nat :=
 if (Z0 P g o i.left.toNat v i).2.2=0 then((Z0 P g o i.left.toNat v i).1,XZ d (Z0 P g o i.left.toNat v i).2.1,0)
 else((Z0 P g o i.left.toNat v i).1,c,(Z0 P g o i.left.toNat v i).2.2)
theorem Uf (P:PL)(g:PG)(v:V)(o:PO)(c d i:C):Wg P g v o d i=if (KH P g v o c d i).2.2=0 then .ok ((KH P g v o c d i).1,(KH P g v o c d i).2.1)else .error (KH P g v o c d i).2.2:=by
 unfold Wg KH;rw[Hr];generalize Z0 P g o i.left.toNat v i=r;by_cases h:r.2.2=0
 ·simp only[QO9 h,if_true]
 ·simp only[QOS h]
def WF (P:PL)(g:PG)(v:V)(o:PO)(c:C):V×C×Nat :=
 match Jd c with
 |.error e=>(v,c,e)
 |.ok (n,d)=>
  if (Zd (part d n)).2.2=0 then
   if (Zd (part d n)).1=wk o.kind then
    if (Xq v o.num).isSome=true then KH P g v o c d (Zd (part d n)).2.1
    else if ((Zd (part d n)).2.1.spend 1).2=0 then KH P g (Xg g v o (Q5 [])) o c d ((Zd (part d n)).2.1.spend 1).1
    else(v,c,((Zd (part d n)).2.1.spend 1).2)
   else(v,c,13)
  else(v,c,(Zd (part d n)).2.2)
theorem Ns (P:PL)(g:PG)(v:V)(o:PO)(c:C):Yg P g v o c=if (WF P g v o c).2.2=0 then .ok ((WF P g v o c).1,(WF P g v o c).2.1)else .error (WF P g v o c).2.2:=by
 unfold Yg WF;cases hr:Jd c with
 |error e=>
  have he:=Yj hr;simp only[QOS he]
 |ok p=>
  obtain⟨n,d⟩:=p;dsimp only;by_cases h1:(Zd (part d n)).2.2=0
  case neg=>simp only[QOS h1]
  simp only[QO9 h1];by_cases h2:(Zd (part d n)).1=wk o.kind
  case neg=>simp only[QOS h2];rfl
  simp only[QO9 h2];by_cases h3:(Xq v o.num).isSome=true
  ·simp only[QO9 h3];exact Uf P g v o c d _
  simp only[QOS h3];unfold JE;by_cases h4:((Zd (part d n)).2.1.spend 1).2=0
  ·simp only[QO9 h4];exact Uf P g _ o c d _
  ·simp only[QOS h4]

def YH:List AV:=[.str [],.int .i64 0,.int .i64 0,.int .i64 0,.int .i64 0,.int .i64 0]
def QX (P:PL):List AV:=[.list (P.progs.map Qp),.list (P.enums.map QV)]

section
variable {M K n:Nat}(hM:3000≤M)(hK:K≤1000000)(P:PL)(hP:P.ok M)(g:PG)(hg:g.ops.length≤maxLen)(o:PO)(ho:OpK P g o)(h5:o.card≠5)(hun : -1≤o.union)

structure PxF (P:PL)(g:PG)(o:PO)(c0 d:C)(f:Fr)(fr:Nat→Ob)(v:V)(c:C):Prop where
 f5:f 5=.ptr 0 5 0
 f6:f 6=.ptr 0 6 0
 f7:f 7=.ptr 0 7 0
 f8:f 8=.ptr 0 8 0
 f9:f 9=.ptr 0 9 0
 f10:f 10=.ptr 0 10 0
 f11:f 11=.ptr 0 11 0
 f14:f 14=.ptr 0 14 0
 f17:f 17=.ptr 0 17 0
 m5:fr 5=.cells (QX P)
 m6:fr 6=.cells g.cells
 m7:fr 7=.cells (vc v)
 m8:fr 8=.cells o.cells
 m9:fr 9=.cells (XR c0)
 m10:fr 10=.cells XG
 m11:fr 11=.cells YH
 m14:fr 14=.cells (XR d)
 m17:fr 17=.cells (XR c)

include hM hK hP hg ho h5 hun in
theorem Vy (c0 d:C)(R0:V×C×Nat)(k:Nat)(v:V)(c:C)(f:Fr)(fr:Nat→Ob)(hf:PxF P g o c0 d f fr v c)(hc:CI c)(hk:c.left≤k)(hR:Z0 P g o k v c=R0)(hvm:MW P (n+1) g v)(hvo:v.ok M)(hb:(v.cnt:Int)+3*c.left≤K)(Q:Exit→St→Prop)
  (hx:∀f fr v c,PxF P g o c0 d f fr v c→R0=(v,c,0)→Q (.exit 0) ⟨f,[fr],[]⟩)
  (he:∀f fr v (e:Nat) c,f 10=.ptr 0 10 0→f 11=.ptr 0 11 0→fr 10=.cells (vc v)→fr 11=.cells (XR c0)→f 12=.int .i64 (e:Nat)→R0=(v,c,e)→e≠0→Q .ret ⟨f,[fr],[]⟩) :
  QJ Tryz.prog (.loop TB) ⟨f,[fr],[]⟩ Q:=by
 let I:Nat→St→Prop:=fun k st=>∃f fr v c,st=⟨f,[fr],[]⟩∧PxF P g o c0 d f fr v c∧CI c∧c.left≤k∧Z0 P g o k v c=R0∧MW P (n+1) g v∧v.ok M∧(v.cnt:Int)+3*c.left≤K
 refine Qg I k ⟨f,fr,v,c,rfl,hf,hc,hk,hR,hvm,hvo,hb⟩ ?_;clear hf hc hk hR hvm hvo hb;rintro k st ⟨f,fr,v,c,rfl,hf,hc,hk,hR,hvm,hvo,hb⟩;have hcb:=hc.bd;have hsl:∀s∈v.slots,∃q,XL g s.1=some q:=fun s hs=>let ⟨q,h,_⟩:=hvm.1 s hs;⟨q,h⟩
 obtain⟨h5',h6,h7,h8,h9,h10,h11,h14,h17,m5',m6',m7',m8',m9',m10',m11',m14',m17'⟩:=hf;have m5:=m5';have m6:=m6';have m7:=m7';have m8:=m8';have m9:=m9';have m10:=m10';have m11:=m11';have m17:=m17';simp only[QX]at m5;simp only[PG.cells]at m6;simp only[vc]at m7;simp only[PO.cells]at m8;simp only[XR]at m9 m17;simp only[XG]at m10;simp only[YH]at m11;simp only[h17,m17,eE,seval];refine Qa (Vm c) rfl rfl rfl (.inl rfl) ?_;by_cases hlt:0<c.left
 case neg=>
  have d1:decide (c.left > 0)=false:=QQt hlt;have hR':R0=(v,c,0):=by
   rw[←hR];cases k with
   |zero=>rfl
   |succ k=>rw[Z0,QOS hlt]
  simp only[d1,Qb,seval];exact hx _ _ v c ⟨(by exact h5'),(by exact h6),(by exact h7),(by exact h8),(by exact h9),(by exact h10),(by exact h11),(by exact h14),(by exact h17),m5',m6',m7',m8',m9',m10',m11',m14',m17'⟩ hR'
 have d1:decide (c.left > 0)=true:=QQx hlt;obtain⟨k,rfl⟩:∃j,k=j+1:=⟨k-1,by omega⟩;rw[Z0,QO9 hlt]at hR;have hon:=j83 P hP g v o hc hg (by omega) hsl hun;have hxr:=UQ P g v o c;generalize J0 P g v o c=r at hon hxr hR;obtain⟨w,c1,e⟩:=r;dsimp only at hR hxr;rw[show P.av=.agg (QX P)from rfl,Qc v]at hon;simp only[QX,Qp,Qy,PG.cells,PO.cells,C.av,xv,Qc w]at hon;simp only[d1,h5',h6,h7,h8,h17,m5,m6,m7,m8,m17,eE,seval];refine Qa hon rfl rfl rfl (.inl rfl) ?_;by_cases he':e=0
 case neg=>
  rw[QOS he']at hR;simp only[Qr he',h7,h9,h10,h11,h17,m7,m9,m10,m11,m17,eE,seval];exact he _ _ w e c1 (by exact h10) (by exact h11) (by rfl) (by rfl) (by rfl) hR.symm he'
 subst he';rw[QO9 rfl]at hR hxr;obtain⟨r1,r2,r3,r4⟩:=U8 hM hK ho hc hvm hvo hb h5 hxr;have hl:=r1.lt hc;simp only[h7,h17,m7,m17,eE,seval];exact⟨k,by omega,_,_,w,c1,rfl,⟨(by exact h5'),(by exact h6),(by exact h7),(by exact h8),(by exact h9),(by exact h10),(by exact h11),(by exact h14),(by exact h17),(by exact m5'),(by exact m6'),(by rfl),(by exact m8'),(by exact m9'),(by exact m10'),(by exact m11'),(by exact m14'),(by rfl)⟩,r1.ci hc,by omega,hR,r2,r3,by omega⟩

include hM hK hP hg ho h5 hun in
theorem j80 (h4:o.card=4){c:C}(hc:CI c)(v:V)(hvm:MW P (n+1) g v)(hvo:v.ok M)(hb:(v.cnt:Int)+3*c.left≤K) :
  Qj Tryz.prog 80 [P.av,Qp g,v.av,Qy o,c.av] (xv (WF P g v o c)):=by
 have ls:=Xi v;have hcb:=hc.bd;have hwo:=DA o.num o.name o.alias o.card o.key o.kind o.target o.union;have hge:=P3 v o.num (by omega);have hle:=CZ hc;have hsl:∀s∈v.slots,∃q,XL g s.1=some q:=fun s hs=>let ⟨q,h,_⟩:=hvm.1 s hs;⟨q,h⟩
 have hpu:=B3 g v o (Q5 []) hg (by omega) hsl hun;have hok:=Jo (g:=g) (x:=Q5 []) hvo ho.wf (WI (fun y hy=>(nomatch hy)) (QOM _)) (by omega);have hmw:=Jp (x:=Q5 []) hvm ho.self (by unfold FW;rw[QO9 h4];exact fun y hy=>(nomatch hy));have hct:=JJ g v o (Q5 []);rw[Kh]at hct;simp only[Zc]at hct;unfold WF;rw[show(Q5 []).av=.agg [.int .i64 11,.int .u64 0,.str [],.list [],.list [],.list [],.list []]from Qc _]at hpu;generalize Xg g v o (Q5 [])=w at hpu hok hmw hct ⊢;rw[Qc v,Qc w]at hpu;generalize QL v o.num=z at hge;rw[Qc v,Qc z]at hge;simp only[oc]at hwo;simp only[Qp,Qy,PG.cells,PO.cells]at hpu;rw[show P.av=.agg (QX P)from rfl,Qc v];cases hr:Jd c with
 |error e=>
  rw[DC hr]at hle;have he:=Yj hr;simp only[C.av]at hle;refine k80.fn (by simp) ?_;simp only[QX,Qp,Qy,PG.cells,PO.cells,C.av,eE,seval];refine Qa hle rfl rfl rfl (.inl rfl) ?_;simp only[Qr he,xv,Qc v,C.av,eE,seval]
 |ok p=>
 obtain⟨q,d⟩:=p;obtain⟨a1,a2⟩:=Jl hc hr;have hd:=a1.ci hc;have hl1:=a1.lt hc;have hdb:=hd.bd;rw[DB hr]at hle;obtain⟨_,p2,p3⟩:=Kq hd a2;have hpt:=QsU (c:=d) q;have hby:=QKa (part d q);have hya:=Dw p2;dsimp only at hle ⊢;generalize part d q=i at hpt hby hya p2 p3 ⊢;generalize Zd i=r at hby hya ⊢;obtain⟨b,j,e⟩:=r;dsimp only at hya;simp only[UK,C.av]at hby;simp only[C.av]at hle hpt;refine k80.fn (by simp) ?_;simp only[QX,Qp,Qy,PG.cells,PO.cells,C.av,eE,seval];refine Qa hle rfl rfl rfl (.inl rfl) ?_;simp only[eE,seval];refine Qa hpt rfl rfl rfl (.inl rfl) ?_;refine Qa hby rfl rfl rfl (.inl rfl) ?_;by_cases he:e=0
 case neg=>
  rw[QOS he];simp only[Qr he,xv,Qc v,C.av,eE,seval]
 subst he;obtain⟨y1,y2,y3⟩:=hya rfl;have hj:=y1.ci p2;have hlj:=y1.lt p2;have hjb:=hj.bd;have w1:IntKind.i64.wrap b=b:=by rw[QA];omega
 rw[QO9 rfl];simp only[w1,eE,seval];refine Qa hwo rfl rfl rfl (.inl rfl) ?_;by_cases hw:b=wk o.kind
 case neg=>
  have b1:(b != wk o.kind)=true:=by simp[hw]
  rw[QOS hw];simp only[b1,xv,Qc v,C.av,eE,seval]<;>rfl
 have b1:(b != wk o.kind)=false:=by simp[hw]
 rw[QO9 hw];simp only[b1,eE,seval];refine Qa hge rfl rfl rfl (.inl rfl) ?_;have hbh:=fun c'=>Su d c'
 cases hf:(Xq v o.num).isSome
 case false=>
  simp only[QOX,eE,seval];have hsp:=DY j 1;have hsa:=fun d (h:JE j 1=.ok d)=>XW hj (by omega) h
  unfold JE at hsa;generalize j.spend 1=q1 at hsp hsa ⊢;obtain⟨j2,e5⟩:=q1;dsimp only at hsa;simp only[Z6,C.av]at hsp;dsimp only;refine Qa hsp rfl rfl rfl (.inl rfl) ?_;by_cases he5:e5=0
  case neg=>
   rw[QOS he5];simp only[Qr he5,xv,Qc v,C.av,eE,seval]
  subst he5;obtain⟨s1,_⟩:=hsa j2 (by rw[QO9 rfl]);have hj2:=s1.ci hj;have hls:=(s1.left hj).2.2;have hj2b:=hj2.bd;rw[QO9 rfl];simp only[eE,seval];refine Qa hpu rfl rfl rfl (.inl rfl) ?_;simp only[eE,seval];unfold KH;refine Vy (n:=n) hM hK P hP g hg o ho h5 hun c d _ j2.left.toNat w j2 _ _ ⟨(by rfl),(by rfl),(by rfl),(by rfl),(by rfl),(by rfl),(by rfl),(by rfl),(by rfl),(by rfl),(by rfl),(by rfl),(by rfl),(by rfl),(by rfl),(by rfl),(by rfl),(by rfl)⟩ hj2 (by omega) rfl hmw hok (by omega) _ (fun f fr v' c' hf' hR'=>?_) (fun f fr v' e c' h10 h11 m10 m11 h12 hR' he=>?_)
  ·obtain⟨h5',h6,h7,h8,h9,h10,h11,h14,h17,m5,m6,m7,m8,m9,m10,m11,m14,m17⟩:=hf';have hb2:=hbh c';rw[hR'];dsimp only;generalize XZ d c'=y at hb2 ⊢;simp only[C.av]at hb2;simp only[vc]at m7;simp only[XG]at m10;simp only[YH]at m11;simp only[XR]at m14 m17;simp only[h7,h14,h17,m7,m14,m17,eE,seval];refine Qa hb2 rfl rfl rfl (.inl rfl) ?_;simp only[h10,h11,m10,m11,xv,Qc v',C.av,eE,seval]
  ·rw[hR'];dsimp only;rw[QOS he];simp only[vc]at m10;simp only[XR]at m11;simp only[h10,h11,h12,m10,m11,xv,Qc v',C.av,eE,seval]
 case true=>
  simp only[eE,seval];unfold KH;refine Vy (n:=n) hM hK P hP g hg o ho h5 hun c d _ j.left.toNat v j _ _ ⟨(by rfl),(by rfl),(by rfl),(by rfl),(by rfl),(by rfl),(by rfl),(by rfl),(by rfl),(by rfl),(by rfl),(by rfl),(by rfl),(by rfl),(by rfl),(by rfl),(by rfl),(by rfl)⟩ hj (by omega) rfl hvm hvo (by omega) _ (fun f fr v' c' hf' hR'=>?_) (fun f fr v' e c' h10 h11 m10 m11 h12 hR' he=>?_)
  ·obtain⟨h5',h6,h7,h8,h9,h10,h11,h14,h17,m5,m6,m7,m8,m9,m10,m11,m14,m17⟩:=hf';have hb2:=hbh c';rw[hR'];dsimp only;generalize XZ d c'=y at hb2 ⊢;simp only[C.av]at hb2;simp only[vc]at m7;simp only[XG]at m10;simp only[YH]at m11;simp only[XR]at m14 m17;simp only[h7,h14,h17,m7,m14,m17,eE,seval];refine Qa hb2 rfl rfl rfl (.inl rfl) ?_;simp only[h10,h11,m10,m11,xv,Qc v',C.av,eE,seval]
  ·rw[hR'];dsimp only;rw[QOS he];simp only[vc]at m10;simp only[XR]at m11;simp only[h10,h11,h12,m10,m11,xv,Qc v',C.av,eE,seval]

end

def Re (h:V→V×V)(r:Rd V)(y:AV):Prop:=match r with
 |.ok (u,d)=>y=.tup [V.pav (h u),d.av,.int .i64 0]
 |.error e=>e≠0∧∃(u:V×V) (d:C),y=.tup [V.pav u,d.av,.int .i64 (e:Nat)]

section
variable {M K n:Nat}{rec:Int→V→C→Rd V}(P:PL)(hP:P.ok M)(o:PO)(x:V×V)(w:Int){c:C}(hc:CI c)

include hP hc in
theorem QDz (hk10:o.key≠10) :
  H7 Tryz.prog 127 [P.av,Qy o,V.pav x,.int .i64 1,.int .i64 w,c.av] (Re (fun u=>(u,x.2)) (ZE P rec o.key (-1) w c)):=by
 have hsg:=C2 o.num o.name o.alias o.card o.key o.kind o.target o.union;have hwi:=DA 0 [] [] 2 0 o.key (-1) (-1);have hct:=Ss hc w;have hxr:=YG w c;have hex:∀(e:Nat) (u:V×V) (d:C),e≠0→Re (fun u=>(u,x.2)) (.error e) (.tup [V.pav u,d.av,.int .i64 (e:Nat)]):=fun e u d h=>⟨h,u,d,rfl⟩
 simp only[oc]at hsg hwi;unfold ZE;rw[QOS hk10,show P.av=.agg (QX P)from rfl,Q4 x];by_cases hw:w=wk o.key
 case neg=>
  have b1:(w != wk o.key)=true:=by simp[hw]
  have h:=hex 13 x c (by decide);rw[Q4 x]at h;simp only[C.av]at h;rw[QOS hw];refine HA.rl (by simp) ?_;simp only[QX,Qy,PO.cells,C.av,eE,seval];refine Qa hsg rfl rfl rfl (.inl rfl) ?_;simp only[eE,seval];refine Qa hwi rfl rfl rfl (.inl rfl) ?_;simp only[b1,eE,seval];exact h
 have b1:(w != wk o.key)=false:=by simp[hw]
 rw[QO9 hw];cases hr:Kp w c with
 |error e=>
  have he:=C6 hr;have h:=hex e x c he;rw[hr]at hxr;generalize KM w c=q at hct hxr;obtain⟨f,d,e'⟩:=q;dsimp only at hxr;split at hxr
  ·cases hxr
  cases hxr;rw[Q4 x]at h;simp only[C.av]at h;simp only[Hq,R.av,C.av]at hct;refine HA.rl (by simp) ?_;simp only[QX,Qy,PO.cells,C.av,eE,seval];refine Qa hsg rfl rfl rfl (.inl rfl) ?_;simp only[eE,seval];refine Qa hwi rfl rfl rfl (.inl rfl) ?_;simp only[b1,eE,seval];refine Qa hct rfl rfl rfl (.inl rfl) ?_;simp only[Qr he,eE,seval];exact h
 |ok p=>
 obtain⟨f,d⟩:=p;obtain⟨b1',_,b3,b4⟩:=WY hc hr;rw[hr]at hxr;generalize KM w c=q at hct hxr;obtain⟨f',d',e'⟩:=q;dsimp only at hxr;split at hxr
 case isFalse=>cases hxr
 rename_i he';cases hxr;have he'':e'=0:=he';subst he'';have hsc:=Sv P hP ⟨0,[],[],2,0,o.key,-1,-1⟩ f b3 (by simp only[maxLen];omega);dsimp only at hsc ⊢;generalize Q9 P o.key (-1) f=q at hsc ⊢;obtain⟨u,e⟩:=q;have h:Re (fun u=>(u,x.2)) (if e=0 then .ok (u,d)else .error e) (.tup [V.pav (u,x.2),d.av,.int .i64 (e:Nat)]):=by
  by_cases he:e=0
  ·subst he;rw[QO9 rfl];exact rfl
  ·rw[QOS he];exact hex e (u,x.2) d he
 rw[Q4 (u,x.2)]at h;simp only[C.av]at h;rw[show P.av=.agg (QX P)from rfl]at hsc;simp only[X4,QX,Qy,PO.cells,R.av,Qc u]at hsc;simp only[Hq,R.av,C.av]at hct;refine HA.rl (by simp) ?_;simp only[QX,Qy,PO.cells,C.av,eE,seval];refine Qa hsg rfl rfl rfl (.inl rfl) ?_;simp only[eE,seval];refine Qa hwi rfl rfl rfl (.inl rfl) ?_;simp only[b1,eE,seval];refine Qa hct rfl rfl rfl (.inl rfl) ?_;simp only[eE,seval];refine Qa hsc rfl rfl rfl (.inl rfl) ?_;simp only[eE,seval];exact h

include hP hc in
theorem QDA (hrec:HU P M K n rec)(hre:Yt rec)(hcn:c.left≤n)(hb1:(1:Int)+3*c.left≤K)(ht:o.kind=10→0≤o.target∧o.target<(P.progs.length:Int)) :
  H7 Tryz.prog 127 [P.av,Qy o,V.pav x,.int .i64 2,.int .i64 w,c.av] (Re (fun u=>(x.1,u)) (ZE P rec o.kind o.target w c)):=by
 have hsg:=C2 o.num o.name o.alias o.card o.key o.kind o.target o.union;have hwi:=DA o.num o.name o.alias 2 o.key o.kind o.target o.union;have hct:=Ss hc w;have hxr:=YG w c;have hex:∀(e:Nat) (u:V×V) (d:C),e≠0→Re (fun u=>(x.1,u)) (.error e) (.tup [V.pav u,d.av,.int .i64 (e:Nat)]):=fun e u d h=>⟨h,u,d,rfl⟩
 simp only[oc]at hsg hwi;unfold ZE;rw[show P.av=.agg (QX P)from rfl,Q4 x];by_cases hw:w=wk o.kind
 case neg=>
  have b1:(w != wk o.kind)=true:=by simp[hw]
  have h:=hex 13 x c (by decide);rw[Q4 x]at h;simp only[C.av]at h;rw[QOS hw];refine HA.rl (by simp) ?_;simp only[QX,Qy,PO.cells,C.av,eE,seval];refine Qa hsg rfl rfl rfl (.inl rfl) ?_;simp only[eE,seval];refine Qa hwi rfl rfl rfl (.inl rfl) ?_;simp only[b1,eE,seval];exact h
 have b1:(w != wk o.kind)=false:=by simp[hw]
 rw[QO9 hw];by_cases hk:o.kind=10
 ·have bk:(o.kind==10)=true:=by simp[hk]
  have hel:=QsV o;have hin:=Qs3 P hrec o hc hcn (ht hk) (Qs 10 0 []) 0 (Int.le_refl 0) (fun hn=>XB hn) (XA rfl (by decide) (QOM _)) (by rw[Xa];omega);rw[hk,show(Qs 10 0 []).av=.agg [.int .i64 10,.int .u64 0,.str [],.list [],.list [],.list [],.list []]from Qc _]at hel;rw[QO9 hk];have h:Re (fun u=>(x.1,u)) (Je rec o.target (Qs 10 0 []) 0 c) (.tup [V.pav (x.1,(KN (Qs 10 0 []) c (Je rec o.target (Qs 10 0 []) 0 c)).1),(KN (Qs 10 0 []) c (Je rec o.target (Qs 10 0 []) 0 c)).2.1.av,.int .i64 ((KN (Qs 10 0 []) c (Je rec o.target (Qs 10 0 []) 0 c)).2.2:Nat)]):=by
   cases hr:Je rec o.target (Qs 10 0 []) 0 c with
   |error e=>exact hex e _ _ (Yk hre hr)
   |ok p=>exact rfl
  generalize hq:KN (Qs 10 0 []) c (Je rec o.target (Qs 10 0 []) 0 c)=q at hin h;clear hq;obtain⟨u,d,e⟩:=q;rw[Q4]at h;rw[show(Qs 10 0 []).av=.agg [.int .i64 10,.int .u64 0,.str [],.list [],.list [],.list [],.list []]from Qc _,show P.av=.agg (QX P)from rfl]at hin;simp only[C.av]at h;simp only[QX,Qy,PO.cells,C.av,xv,Qc u]at hin;simp only[Qy,PO.cells]at hel;refine HA.rl (by simp) ?_;simp only[QX,Qy,PO.cells,C.av,eE,seval];refine Qa hsg rfl rfl rfl (.inl rfl) ?_;simp only[eE,seval];refine Qa hwi rfl rfl rfl (.inl rfl) ?_;simp only[b1,bk,eE,seval];refine Qa hel rfl rfl rfl (.inl rfl) ?_;simp only[eE,seval];refine Qa hin rfl rfl rfl (.inl rfl) ?_;simp only[eE,seval];exact h
 have bk:(o.kind==10)=false:=by simp[hk]
 rw[QOS hk];cases hr:Kp w c with
 |error e=>
  have he:=C6 hr;have h:=hex e x c he;rw[hr]at hxr;generalize KM w c=q at hct hxr;obtain⟨f,d,e'⟩:=q;dsimp only at hxr;split at hxr
  ·cases hxr
  cases hxr;rw[Q4 x]at h;simp only[C.av]at h;simp only[Hq,R.av,C.av]at hct;refine HA.rl (by simp) ?_;simp only[QX,Qy,PO.cells,C.av,eE,seval];refine Qa hsg rfl rfl rfl (.inl rfl) ?_;simp only[eE,seval];refine Qa hwi rfl rfl rfl (.inl rfl) ?_;simp only[b1,bk,eE,seval];refine Qa hct rfl rfl rfl (.inl rfl) ?_;simp only[Qr he,eE,seval];exact h
 |ok p=>
 obtain⟨f,d⟩:=p;obtain⟨b1',_,b3,b4⟩:=WY hc hr;rw[hr]at hxr;generalize KM w c=q at hct hxr;obtain⟨f',d',e'⟩:=q;dsimp only at hxr;split at hxr
 case isFalse=>cases hxr
 rename_i he';cases hxr;have he'':e'=0:=he';subst he'';have hsc:=Sv P hP ⟨o.num,o.name,o.alias,2,o.key,o.kind,o.target,o.union⟩ f b3 (by simp only[maxLen];omega);dsimp only at hsc ⊢;generalize Q9 P o.kind o.target f=q at hsc ⊢;obtain⟨u,e⟩:=q;have h:Re (fun u=>(x.1,u)) (if e=0 then .ok (u,d)else .error e) (.tup [V.pav (x.1,u),d.av,.int .i64 (e:Nat)]):=by
  by_cases he:e=0
  ·subst he;rw[QO9 rfl];exact rfl
  ·rw[QOS he];exact hex e (x.1,u) d he
 rw[Q4 (x.1,u)]at h;simp only[C.av]at h;rw[show P.av=.agg (QX P)from rfl]at hsc;simp only[X4,QX,Qy,PO.cells,R.av,Qc u]at hsc;simp only[Hq,R.av,C.av]at hct;refine HA.rl (by simp) ?_;simp only[QX,Qy,PO.cells,C.av,eE,seval];refine Qa hsg rfl rfl rfl (.inl rfl) ?_;simp only[eE,seval];refine Qa hwi rfl rfl rfl (.inl rfl) ?_;simp only[b1,bk,eE,seval];refine Qa hct rfl rfl rfl (.inl rfl) ?_;simp only[eE,seval];refine Qa hsc rfl rfl rfl (.inl rfl) ?_;simp only[eE,seval];exact h

end
end Go.Proofs.YtfgchfdkiomfpaaGreat.Va

namespace Go.Proofs.YtfgchfdkiomfpaaGreat.Va
open Go Am Rc Bt Br Up So

def Zq (ps:List (V×V)):Nat→List (V×V)
 |0=>[]
 |i+1=>match ps[i]? with
  |some x=>if (ps.drop (i+1)).all (fun y=>!Q0 x.1 y.1)=true then Zq ps i++[x]else Zq ps i
  |none=>Zq ps i
theorem C7 {ps:List (V×V)}{i:Nat}{x:V×V}(hx:ps[i]? = some x)(h:(ps.drop (i+1)).all (fun y=>!Q0 x.1 y.1)=true):Zq ps (i+1)=Zq ps i++[x]:=by
 rw[Zq,hx];dsimp only;rw[QO9 h]
theorem AH {ps:List (V×V)}{i:Nat}{x:V×V}(hx:ps[i]? = some x)(h:(ps.drop (i+1)).all (fun y=>!Q0 x.1 y.1)=false):Zq ps (i+1)=Zq ps i:=by
 rw[Zq,hx];dsimp only;rw[QOS (by rw[h];simp)]
theorem Vz (ps:List (V×V)):∀i,(Zq ps i).length≤i
 |0=>QOE _
 |i+1=>by
  have:=Vz ps i;rw[Zq];split
  ·split
   ·rw[QPi,QOT,QPA];omega
   ·omega
  ·omega
theorem DD {ps:List (V×V)}{p:V×V}:∀ {i},p∈Zq ps i→∃j,j<i∧ps[j]? = some p∧(ps.drop (j+1)).all (fun y=>!Q0 p.1 y.1)=true
 |0,h=>by cases h
 |i+1,h=>by
  have rc:p∈Zq ps i→∃j,j<i+1∧ps[j]? = some p∧(ps.drop (j+1)).all (fun y=>!Q0 p.1 y.1)=true:=fun h=>by
   obtain⟨j,h1,h2⟩:=DD h;exact⟨j,by omega,h2⟩
  rw[Zq]at h;split at h
  ·rename_i x hx;split at h
   ·rename_i hl;rcases QPX.1 h with h|h
    ·exact rc h
    ·rw[QQC]at h;subst h;exact⟨i,by omega,hx,hl⟩
   ·exact rc h
  ·exact rc h
theorem B9 {A:List (V×V)}{x:V×V}(hA:A.Pairwise fun q p=>Q0 q.1 p.1=false):Zq (A++[x]) (A++[x]).length=A.filter (fun q=>!Q0 q.1 x.1)++[x]:=by
 have h:∀i,i≤A.length→Zq (A++[x]) i=(A.take i).filter (fun q=>!Q0 q.1 x.1):=by
  intro i
  induction i with
  |zero=>intro _;simp[Zq]
  |succ i ih=>
   intro hi;have ih:=ih (by omega);obtain⟨a,ha⟩:∃a,A[i]? = some a:=⟨A[i],QOH (by omega)⟩;have ha':(A++[x])[i]? = some a:=by rw[QP4 (by omega)];exact ha
   have hall:((A++[x]).drop (i+1)).all (fun y=>!Q0 a.1 y.1)=!Q0 a.1 x.1:=by
    rw[List.drop_append_of_le_length (by omega),QPW];have h1:(A.drop (i+1)).all (fun y=>!Q0 a.1 y.1)=true:=by
     rw[QOQ];intro y hy;obtain⟨j,hj⟩:=QQI hy;rw[QPk]at hj;have hp:=QQE.1 hA i (i+1+j) (by omega) (QOG.1 hj).1 (by omega);rw[(QOG.1 ha).2,(QOG.1 hj).2]at hp;rw[hp];rfl
    rw[h1];simp
   rw[QQr,ha,Option.toList_some,List.filter_append];cases hk:Q0 a.1 x.1 with
   |true=>
    rw[hk]at hall;rw[AH ha' hall,ih,QQg,hk];simp
   |false=>
    rw[hk]at hall;rw[C7 ha' hall,ih,QQg,hk];simp
 have e:(A++[x]).length=A.length+1:=by simp
 have hx:(A++[x])[A.length]? = some x:=by simp
 rw[e,C7 hx (by rw[QPh (by rw[e];omega)];rfl),h _ (QOE _),QQi]

section
variable {P:PL}{k:Int}(ps:List (V×V))

theorem C8 (hk:Xo k)(hn:ps.length≤1048576)(h1:∀p∈ps,p.1.one P k (-1)=0)(hb:∀p∈ps,p.1.bits<18446744073709551616)(O:List (V×V))(i:Nat)(x:V×V)(hx:ps[i]? = some x)(fr:Nat→Ob)(f:Fr)(h0:f 0=.list (ps.map V.pav))(h3:f 3=.list (O.map V.pav))(h4:f 4=.int .i64 (i:Nat))(h5:f 5=.bool true)(h6:f 6=.int .i64 ((i+1:Nat):Int))(Q:Exit→St→Prop)
  (q:∀f:Fr,f 0=.list (ps.map V.pav)→f 3=.list (O.map V.pav)→f 4=.int .i64 (i:Nat)→f 5=.bool ((ps.drop (i+1)).all fun y=>!Q0 x.1 y.1)→Q (.exit 2) (⟨f,[fr],[]⟩:St)) :
  QJ Tryz.prog (.loop Cf) ⟨f,[fr],[]⟩ Q:=by
 let I:Nat→St→Prop:=fun n st=>∃f j b,st=⟨f,[fr],[]⟩∧n=ps.length-j∧i<j∧(b&&(ps.drop j).all fun y=>!Q0 x.1 y.1)=((ps.drop (i+1)).all fun y=>!Q0 x.1 y.1)∧f 0=.list (ps.map V.pav)∧f 3=.list (O.map V.pav)∧f 4=.int .i64 (i:Nat)∧f 5=.bool b∧f 6=.int .i64 (j:Nat)
 refine Qg I _ ⟨f,i+1,true,rfl,rfl,by omega,QQk _,h0,h3,h4,h5,h6⟩ ?_;clear h0 h3 h4 h5 h6;rintro _ st ⟨f,j,b,rfl,rfl,hij,hbb,h0,h3,h4,h5,h6⟩;simp only[QPz,h0,h6,Qb,seval];by_cases hlt:j<ps.length
 ·obtain⟨y,hj⟩:∃y,ps[j]? = some y:=⟨ps[j],QOH hlt⟩;have hgx:=Ke hx;have hgy:=Ke hj;have e1:=Qx j _ hlt (by simp only[maxLen];omega);have hxm:=QOR hx;have hym:=QOR hj;have c1:=HV hk (h1 x hxm) (h1 y hym);have d1:(UH k x.1.bits x.1.text y.1.bits y.1.text != 0)=!Q0 x.1 y.1:=by
   have h:=Vj hk (h1 x hxm) (h1 y hym) (hb x hxm) (hb y hym);rw[bne,h]
  have hdr:ps.drop j=y :: ps.drop (j+1):=by
   rw[QPo hlt,(QOG.1 hj).2]
  rw[hdr,QPQ,←QPq]at hbb;rw[Qc,Qc]at c1;cases b
  ·simp only[Qt hlt,h5,h6,e1,Qb,seval];exact⟨ps.length-(j+1),by omega,_,j+1,false,rfl,rfl,by omega,hbb,(by exact h0),(by exact h3),(by exact h4),(by rfl),(by rfl)⟩
  ·simp only[Qt hlt,Qm,QP7,Qf,hgx,hgy,QPd,QPN,QPn,h0,h4,h5,h6,eE,seval];refine Qa c1 rfl rfl rfl (.inl rfl) ?_;simp only[d1,h6,e1,Qb,seval];exact⟨ps.length-(j+1),by omega,_,j+1,!Q0 x.1 y.1,rfl,rfl,by omega,hbb,(by exact h0),(by exact h3),(by exact h4),(by rfl),(by rfl)⟩
 ·rw[QPh (by omega:ps.length≤j),QPR,QPS]at hbb;simp only[QS hlt,Qb,seval];exact q _ (by exact h0) (by exact h3) (by exact h4) (by rw[←hbb];exact(by exact h5))

end

def PwJ (k:Int)(ps:List (V×V))(n:Nat)(st:St):Prop :=
 ∃f fr i,st=⟨f,[fr],[]⟩∧n=ps.length-i∧i≤ps.length∧f 0=.list (ps.map V.pav)∧f 3=.list ((QT k (Zq ps i)).map V.pav)∧f 4=.int .i64 (i:Nat)∧Qi (fr 63)=true∧Qi (fr 68)=true

set_option maxHeartbeats 1000000 in
theorem Qs6 {P:PL}{k:Int}(hk:Xo k)(ps:List (V×V))(hn:ps.length≤1048576)(h1:∀p∈ps,p.1.one P k (-1)=0)(hb:∀p∈ps,p.1.bits<18446744073709551616):Qj Tryz.prog 85 [.list (ps.map V.pav)] (.list ((QT k (Zq ps ps.length)).map V.pav)):=by
 refine k85.fn (by simp) ?_;simp only[Qb,seval];refine Hy (by simp only[Qb,seval]) ?_;simp only[Qb,seval];refine Qg (PwJ k ps) _ ⟨_,_,0,rfl,rfl,QOM _,(by rfl),rfl,(by rfl),rfl,rfl⟩ ?_;rintro _ st ⟨f,fr,i,rfl,rfl,hil,h0,h3,h4,N2,N3⟩;simp only[QPz,h0,h4,Qb,seval];by_cases hlt:i<ps.length
 ·obtain⟨x,hi⟩:∃x,ps[i]? = some x:=⟨ps[i],QOH hlt⟩;have hxm:=QOR hi;have hxa:=Ke hi;have e1:=Qx i _ hlt (by simp only[maxLen];omega);have hperm:(QT k (Zq ps i)).Perm (Zq ps i):=QW _;have hO:(QT k (Zq ps i)).length≤i:=by rw[hperm.length_eq];exact Vz ps i
  have hstep:(ps.drop (i+1)).all (fun y=>!Q0 x.1 y.1)=true→QT k (Zq ps (i+1))=mg (fun x y:V×V=>kl k x.1 y.1) (QT k (Zq ps i)) [x]:=by
   intro h;rw[C7 hi h];exact(Kd (ZD k) (Zq ps i) [x]).symm
  have hstep':(ps.drop (i+1)).all (fun y=>!Q0 x.1 y.1)=false→QT k (Zq ps (i+1))=QT k (Zq ps i):=fun h=>by rw[AH hi h]
  have hsrt:X5 (fun x y:V×V=>kl k x.1 y.1) (QT k (Zq ps i)):=XX (ZD k) _;have hOm:∀p∈QT k (Zq ps i),p∈ps:=fun p hp=>by
   obtain⟨j,_,hj,_⟩:=DD (hperm.mem_iff.1 hp);exact QOR hj
  have hOk:∀p∈QT k (Zq ps i),Q0 p.1 x.1=false:=by
   intro p hp;obtain⟨j,hj,hjp,hal⟩:=DD (hperm.mem_iff.1 hp);rw[QOQ]at hal;have hxd:x∈ps.drop (j+1):=by
    have:(ps.drop (j+1))[i-(j+1)]? = some x:=by rw[QPk,show j+1+(i-(j+1))=i by omega];exact hi
    exact QOR this
   simpa using hal x hxd
  generalize QT k (Zq ps i)=O at *;simp only[Qt hlt,e1,h4,Qb,seval];refine C8 ps hk hn h1 hb O i x hi fr _ (by exact h0) (by exact h3) (by exact h4) (by rfl) (by rfl) _ (fun f h0 h3 h4 h5=>?_);cases hal:(ps.drop (i+1)).all (fun y=>!Q0 x.1 y.1)
  ·rw[hal]at h5;have hfin:=hstep' hal;simp only[h5,Qb,seval];refine RE (by exact h3) ?_;simp only[e1,h4,Qb,seval];exact⟨ps.length-(i+1),by omega,_,_,i+1,rfl,rfl,by omega,(by exact h0),(by rw[hfin];exact(by exact h3)),(by rfl),N2,N3⟩
  rw[hal]at h5;have hstep:=hstep hal;simp only[h5,Qb,seval];refine G6 (P:=P) ps hk O (by omega) (fun p hp=>h1 p (hOm p hp)) (fun p hp=>hb p (hOm p hp)) i x hi (h1 x hxm) (hb x hxm) fr _ (by exact h0) (by exact h3) (by exact h4) (by rfl) _ (fun t f ht hlow hup h0 h3 h4 h7=>?_);have hfin:(O.take t).map V.pav++([V.pav x]++(O.drop t).map V.pav)=(QT k (Zq ps (i+1))).map V.pav:=by
   have:=K0 (lt:=fun x y:V×V=>kl k x.1 y.1) (y:=x) (X1:=O.take t) (X2:=O.drop t) (fun u hu=>by
    obtain⟨j,hj⟩:=QQI hu;rw[QPj]at hj;split at hj
    ·rename_i hjt;exact(ZD k).as (hlow j u hjt hj)
    ·cases hj) (fun u hu'=>by
    obtain⟨j,hj⟩:=QQI hu';rw[QPk]at hj;have hum:=QOR hj;refine G7 (h1 u (hOm u hum)) (h1 x hxm) (hb u (hOm u hum)) (hb x hxm) ?_ (hOk u hum);obtain⟨w,hw⟩:∃w,O[t]? = some w:=⟨O[t]'(by have:=(QOG.1 hj).1;omega),QOH _⟩;have h2:=KC hsrt (ZD k) (Nat.le_add_right t j) hw hj;exact(ZD k).nt u w x h2 (hup w hw))
   rw[QPV]at this;rw[hstep,this];simp
  have hle:(t≤O.length)=True:=eq_true ht;have hdt:∀l':List AV,l'.length=O.length→(l'.drop t).take (O.length-t)=l'.drop t:=fun l' h=>QPe (by rw[QPl];omega)
  have hd1:((O.drop t).map V.pav).length=O.length-t:=by rw[QPz,QPl]
  have hd2:((O.take t).map V.pav).length=t:=by rw[QPz,QPB];omega
  have hT:∀j,O.length+1≤j→List.take j ((O.take t).map V.pav++([V.pav x]++(O.drop t).map V.pav))=(QT k (Zq ps (i+1))).map V.pav:=fun j hj=>by
   rw[QPe (by simp only[QPi,QOT,QPA,hd1,hd2];omega),hfin]
  simp only[Qm,QP7,Qf,hxa,QPd,QPn,h0,h4,eE,seval];refine YR (l:=[.int .i64 x.1.kd,.int .u64 (x.1.bits:Nat),.str x.1.text,.list (x.1.list.map V.av),.list (x.1.pairs.map V.pav),.list (x.1.slots.map V.sav),.list (x.1.raws.map R.av),.int .i64 x.2.kd,.int .u64 (x.2.bits:Nat),.str x.2.text,.list (x.2.list.map V.av),.list (x.2.pairs.map V.pav),.list (x.2.slots.map V.sav),.list (x.2.raws.map R.av)]) rfl rfl (by decide) rfl rfl N2 ?_;simp only[nn0,QPc,QPG,QPz,Jh,Xh,QQh,Qm,QP7,hle,QOE,or_true,XQ,hdt _ (QPz ..),h3,h7,Qb,seval];refine QF (site:=63) (g:=Xu (fr 63)) (n:=1) (xs:=[V.pav x]) (ys:=(O.drop t).map V.pav) (by simp only[Qb,seval]) (by simp only[Q4,Qb,seval]) rfl rfl (by simp only[List.map_drop,Qb,seval]) (XQ _) (by rw[hd1];simp only[maxLen];omega) (by rw[hd1];omega) ?_;simp only[Qb,seval];refine XN (by simp only[Qb,seval];exact N3) ?_;simp only[QPz,Jh,Jq,Xh,QQh,Qm,QP7,QOM,QOE,hle,true_or,QPD,QPn,←List.map_take,h3,h7,Qb,seval];refine QF (site:=68) (g:=_) (n:=0) (xs:=[]) (ys:=(O.take t).map V.pav) (by simp only[Qb,seval]<;>rfl) (by simp only[Qb,seval]) rfl rfl (by simp only[Qb,seval]) (XQ _) (by rw[hd2];simp only[maxLen];omega) (by rw[hd2];omega) ?_;simp only[Qb,seval];refine UR (site:=68) (g:=_) (n:=0+((O.take t).map V.pav).length) (xs:=(O.take t).map V.pav) (ys:=[V.pav x]++(O.drop t).map V.pav) (by simp only[Qb,seval]<;>rfl) (by simp only[Qb,seval]) rfl (by omega) (by simp only[Qb,seval]<;>rfl) (by simp only[Qb,seval]) (by simp only[QPi,QOT,QPA,QPz]<;>omega) (XQ (x :: O.drop t)) (by simp only[QPi,QOT,QPA,hd1,hd2,maxLen];omega) (by simp only[QPi,QOT,QPA,hd1,hd2];omega) ?_;simp only[Qb,seval];refine KV (site:=68) (g:=_) (sz:=14) (n:=_) (xs:=(O.take t).map V.pav++([V.pav x]++(O.drop t).map V.pav)) (by simp only[Qb,seval]<;>rfl) (by simp only[Qb,seval]) (by simp only[QPi,QOT,QPA,hd1,hd2];omega) ?_;rw[hT];rotate_left
  ·simp only[hd1,hd2];omega
  simp only[e1,h4,Qb,seval];exact⟨ps.length-(i+1),by omega,_,_,i+1,rfl,rfl,by omega,(by exact h0),(by rfl),(by rfl),rfl,rfl⟩
 ·have hii:i=ps.length:=by omega
  subst hii;simp only[QS hlt,h3,Qb,seval]

open Vp Cp

def lz (b:Bool)(l:List AV):AV:=match b with
 |true=>.list l
 |false=>.nils
theorem Zr {b:Bool}{l:List AV}(h:b=false→l=[]):nn0 (lz b l)=.list l:=by
 cases b
 ·rw[h rfl];rfl
 ·rfl
def kc (b:Bool)(y:V):List AV:=[.int .i64 y.kd,.int .u64 (y.bits:Nat),.str y.text,lz b (y.list.map V.av),lz b (y.pairs.map V.pav),lz b (y.slots.map V.sav),lz b (y.raws.map R.av)]

section
variable {M K n:Nat}(P:PL)(hP:P.ok M)(l s:Nat)(m:Qh)(hm:l<m.length){rec:Int→V→C→Rd V}(hrec:HT P M K n rec)(hM:3000≤M)(hro:KG P M K n rec)(g:PG)(o:PO)(ho:OpK P g o)(h5:o.card=5)

structure EnF (g:PG)(o:PO)(v z:V)(d:C)(l s:Nat)(f:Fr)(fr:Nat→Ob)(x:V×V)(a b:Bool):Prop where
 f0:f 0=.ptr (l+1) s 0
 f5:f 5=.ptr 0 5 0
 f6:f 6=.ptr 0 6 0
 f7:f 7=.ptr 0 7 0
 f8:f 8=.ptr 0 8 0
 f12:f 12=.ptr 0 12 0
 f14:f 14=.ptr 0 14 0
 f17:f 17=.ptr 0 17 0
 f18:f 18=.bool a
 f19:f 19=.bool b
 m5:fr 5=.cells g.cells
 m6:fr 6=.cells (vc v)
 m7:fr 7=.cells o.cells
 m8:fr 8=.cells XG
 m12:fr 12=.cells (vc z)
 m14:fr 14=.cells (XR d)
 m17:fr 17=.cells (kc a x.1++kc b x.2)
 m22:(fr 22).isRow=false
 m145:Qi (fr 145)=true

include hP hm hrec hM hro ho h5 in
theorem VA (v z:V)(d:C)(R0:Rd (V×V))(k:Nat)(x:V×V)(a b:Bool)(c:C)(f:Fr)(fr:Nat→Ob)(hf:EnF g o v z d l s f fr x a b)(hc:CI c)(hk:c.left≤k)(hcn:c.left≤n)(hb1:(1:Int)+3*c.left≤K)(hR:Jg P rec o k x a b c=R0)
  (hxa:a=false→x.1=Qs o.key 0 []) (hxb:b=false→x.2=Qs o.kind 0 []) (Q:Exit→St→Prop)
  (hx:∀f fr x a b c,EnF g o v z d l s f fr x a b→(a=false→x.1=Qs o.key 0 [])→(b=false→x.2=Qs o.kind 0 [])→R0=.ok (x,c)→Q (.exit 0) ⟨f,fr :: Am.put m l s (Q1 P c),[]⟩)
  (he:∀f fr (e:Nat) c,f 8=.ptr 0 8 0→fr 8=.cells (vc v)→f 9=.int .i64 (e:Nat)→R0=.error e→e≠0→Q .ret ⟨f,fr :: Am.put m l s (Q1 P c),[]⟩) :
  QJ Tryz.prog (.loop SR) ⟨f,fr :: Am.put m l s (Q1 P c),[]⟩ Q:=by
 have lp:∀o,Am.Qd (Am.put m l s o) l s=o:=fun o=>Ql hm
 have pp:∀o q,Am.put (Am.put m l s o) l s q=Am.put m l s q:=fun o q=>put_put
 have hpl:∀o,l+1<(Am.put m l s o).length+1:=fun o=>by rw[QN];omega
 have hky:=ho.uo.key h5;have hk10:o.key≠10:=by unfold Xo at hky;omega
 let I:Nat→St→Prop:=fun k st=>∃f fr x a b c,st=⟨f,fr :: Am.put m l s (Q1 P c),[]⟩∧EnF g o v z d l s f fr x a b∧CI c∧c.left≤k∧c.left≤n∧(1:Int)+3*c.left≤K∧Jg P rec o k x a b c=R0∧(a=false→x.1=Qs o.key 0 [])∧(b=false→x.2=Qs o.kind 0 [])
 refine Qg I k ⟨f,fr,x,a,b,c,rfl,hf,hc,hk,hcn,hb1,hR,hxa,hxb⟩ ?_;clear hf hc hk hcn hb1 hR hxa hxb;rintro k st ⟨f0,fr0,x,a,b,c,rfl,hf,hc,hk,hcn,hb1,hR,hxa,hxb⟩;have hcb:=hc.bd;obtain⟨h00,h50,h60,h70,h80,h120,h140,h170,h180,h190,m50,m60,m70,m80,m120,m140,m170,m22,m1450⟩:=hf;refine Q7 (a:=_) [22] (by intro s hs;simp only[QQC]at hs;subst hs;exact m22) ?_;intro f fr hf hmm hn22;have h0:f 0=.ptr (l+1) s 0:=by rw[hf,h00]<;>rfl
 have h5':f 5=.ptr 0 5 0:=by rw[hf,h50]<;>rfl
 have h6:f 6=.ptr 0 6 0:=by rw[hf,h60]<;>rfl
 have h7:f 7=.ptr 0 7 0:=by rw[hf,h70]<;>rfl
 have h8:f 8=.ptr 0 8 0:=by rw[hf,h80]<;>rfl
 have h12:f 12=.ptr 0 12 0:=by rw[hf,h120]<;>rfl
 have h14:f 14=.ptr 0 14 0:=by rw[hf,h140]<;>rfl
 have h17:f 17=.ptr 0 17 0:=by rw[hf,h170]<;>rfl
 have h18:f 18=.bool a:=by rw[hf,h180]<;>rfl
 have h19:f 19=.bool b:=by rw[hf,h190]<;>rfl
 have m5':fr 5=.cells g.cells:=by rw[hmm 5 (by decide),m50]<;>rfl
 have m6':fr 6=.cells (vc v):=by rw[hmm 6 (by decide),m60]<;>rfl
 have m7':fr 7=.cells o.cells:=by rw[hmm 7 (by decide),m70]<;>rfl
 have m8':fr 8=.cells XG:=by rw[hmm 8 (by decide),m80]<;>rfl
 have m12':fr 12=.cells (vc z):=by rw[hmm 12 (by decide),m120]<;>rfl
 have m14':fr 14=.cells (XR d):=by rw[hmm 14 (by decide),m140]<;>rfl
 have m17':fr 17=.cells (kc a x.1++kc b x.2):=by rw[hmm 17 (by decide),m170];cases a<;>cases b<;>rfl
 have n22:=hn22 22 (by decide);have m145':Qi (fr 145)=true:=by
  rw[hmm 145 (by decide)];cases h:fr0 145<;>rw[h]at m1450<;>first|rfl|cases m1450
 clear hf hmm hn22 h00 h50 h60 h70 h80 h120 h140 h170 h180 h190 m50 m60 m70 m80 m120 m140 m170 m22 m1450;have m6:=m6';have m7:=m7';have m8:=m8';have m17:=m17';simp only[vc]at m6;simp only[PO.cells]at m7;simp only[XG]at m8;simp only[kc,QO0,QO1]at m17;simp only[Q1,lp,h0,ZM,eE,seval];refine Qa (DZ c hc.big') rfl rfl rfl (.inl rfl) ?_;by_cases hlt:0<c.left
 case neg=>
  have d1:decide (c.left > 0)=false:=QQt hlt;have hR':R0=.ok (x,c):=by
   rw[←hR];cases k with
   |zero=>rfl
   |succ k=>rw[Jg,QOS hlt]
  simp only[d1,Qb,seval];exact hx _ _ x a b c ⟨(by exact h0),(by exact h5'),(by exact h6),(by exact h7),(by exact h8),(by exact h12),(by exact h14),(by exact h17),(by exact h18),(by exact h19),m5',m6',m7',m8',m12',m14',m17',(by rw[n22]<;>rfl),m145'⟩ hxa hxb hR'
 have d1:decide (c.left > 0)=true:=QQx hlt;obtain⟨k,rfl⟩:∃j,k=j+1:=⟨k-1,by omega⟩;rw[Jg,QO9 hlt]at hR;have htt:=c49 c hc.big;have hta:=Wh hc;generalize Qw c=tg at htt hta hR;obtain⟨num,w,c1,e⟩:=tg;dsimp only at hta hR;simp only[Wt,C.av]at htt;simp only[d1,lp,h0,ZM,eE,seval];refine Qa htt rfl rfl rfl (.inl rfl) ?_;by_cases he0:e=0
 case neg=>
  rw[QOS he0]at hR;simp only[n22,Qr he0,h6,h8,m6,m8,ZA,eE,seval];exact he _ _ e c (by exact h8) (by rfl) (by rfl) hR.symm he0
 subst he0;obtain⟨t1,t2,t3,t4,t5⟩:=hta rfl;have hc1:=t1.ci hc;have hl1:=t1.lt hc;have hc1b:=hc1.bd;rw[QO9 rfl]at hR;have side:=fun(fr:Nat→Ob) (q:PO) (hq:q.kind=10→0≤q.target∧q.target<(P.progs.length:Int))=>QKE P hP c1 (l+1) s (fr :: Am.put m l s (Q1 P c1)) (by exact hpl _) (by exact lp _) hc1 hrec (by omega) (by omega) q w hq
 by_cases h1:num=1
 ·have b1:(num==1)=true:=by simp[h1]
  have b1':(num != 1)=false:=by simp[h1]
  have b2:(num==2)=false:=by simp[h1]
  rw[QO9 h1]at hR;cases a with
  |true=>
   rw[QO9 rfl]at hR;simp only[n22,b1,b1',h6,h8,h18,m6,m8,ZA,eE,seval];exact he _ _ 9 c (by exact h8) (by rfl) (by rfl) hR.symm (by decide)
  |false=>
   rw[QOS (by simp)]at hR;have hsd:=fun fr=>side fr ⟨0,[],[],0,0,o.key,-1,0⟩ (fun h=>absurd h hk10)
   simp only[Q1,Qs5]at hsd;simp only[n22,b1,b1',b2,h0,h7,h18,m7,lp,pp,ZM,Kr,ZA,eE,seval];refine QH (hsd _) (by rfl) ?_;intro y m1 hy _;cases hr:ZE P rec o.key (-1) w c1 with
   |error e=>
    rw[hr]at hy hR;obtain⟨he',u,c',rfl,rfl⟩:=hy;simp only[Qc u,Qr he',h6,h8,h17,m6,m8,m17,pp,eE,seval];exact he _ _ e c' (by exact h8) (by rfl) (by rfl) hR.symm he'
   |ok p=>
    obtain⟨u,c2⟩:=p;rw[hr]at hy hR;obtain⟨rfl,rfl⟩:=hy;have hab:As c1 c2:=(JK hM hro (fun h=>absurd h hk10) hc1 (by omega) (by omega) hr).1;have hl2:=hab.lt hc1;dsimp only at hR;simp only[Qc u,h17,m17,pp,eE,seval];exact⟨k,by omega,_,_,(u,x.2),true,b,c2,rfl,⟨(by exact h0),(by exact h5'),(by exact h6),(by exact h7),(by exact h8),(by exact h12),(by exact h14),(by exact h17),(by rfl),(by exact h19),(by exact m5'),(by exact m6'),(by exact m7'),(by exact m8'),(by exact m12'),(by exact m14'),(by rfl),(by rfl),(by exact m145')⟩,hab.ci hc1,by omega,by omega,by omega,hR,(fun h=>by cases h),hxb⟩
 ·have b1:(num==1)=false:=by simp[h1]
  have b1':(num != 1)=true:=by simp[h1]
  rw[QOS h1]at hR;by_cases h2:num=2
  ·have b2:(num==2)=true:=by simp[h2]
   have b2':(num != 2)=false:=by simp[h2]
   rw[QO9 h2]at hR;cases b with
   |true=>
    rw[QO9 rfl]at hR;simp only[n22,b1,b1',b2,b2',h6,h8,h19,m6,m8,ZA,eE,seval];exact he _ _ 9 c (by exact h8) (by rfl) (by rfl) hR.symm (by decide)
   |false=>
    rw[QOS (by simp)]at hR;have hsd:=fun fr=>side fr o ho.uo.tgt
    simp only[Q1,Qy,PO.cells]at hsd;simp only[n22,b1,b1',b2,b2',h0,h7,h19,m7,lp,pp,ZM,ZA,eE,seval];refine QH (hsd _) (by rfl) ?_;intro y m1 hy _;cases hr:ZE P rec o.kind o.target w c1 with
    |error e=>
     rw[hr]at hy hR;obtain⟨he',u,c',rfl,rfl⟩:=hy;simp only[Qc u,Qr he',h6,h8,h17,m6,m8,m17,pp,eE,seval];exact he _ _ e c' (by exact h8) (by rfl) (by rfl) hR.symm he'
    |ok p=>
     obtain⟨u,c2⟩:=p;rw[hr]at hy hR;obtain⟨rfl,rfl⟩:=hy;have hab:As c1 c2:=(JK hM hro ho.uo.tgt hc1 (by omega) (by omega) hr).1;have hl2:=hab.lt hc1;dsimp only at hR;simp only[Qc u,h17,m17,pp,eE,seval];exact⟨k,by omega,_,_,(x.1,u),a,true,c2,rfl,⟨(by exact h0),(by exact h5'),(by exact h6),(by exact h7),(by exact h8),(by exact h12),(by exact h14),(by exact h17),(by exact h18),(by rfl),(by exact m5'),(by exact m6'),(by exact m7'),(by exact m8'),(by exact m12'),(by exact m14'),(by rfl),(by rfl),(by exact m145')⟩,hab.ci hc1,by omega,by omega,by omega,hR,hxa,(fun h=>by cases h)⟩
  ·have b2:(num==2)=false:=by simp[h2]
   have b2':(num != 2)=true:=by simp[h2]
   rw[QOS h2]at hR;simp only[n22,b1',b2',h6,h8,m6,m8,ZA,eE,seval];exact he _ _ 18 c (by exact h8) (by rfl) (by rfl) hR.symm (by decide)

end

section
variable {P:PL}{rec:Int→V→C→Rd V}(hre:Yt rec)
include hre
theorem VB {k t w:Int}{c:C}{e:Nat}(h:ZE P rec k t w c=.error e):e≠0:=by
 unfold ZE at h;split at h
 ·split at h
  ·exact Yk hre h
  ·split at h
   ·rename_i h1;cases h;exact C6 h1
   ·split at h
    ·cases h
    ·rename_i h1;cases h;exact h1
 ·cases h;decide
theorem Na {o:PO}{e:Nat}:∀ {n:Nat} {x:V×V} {a b:Bool} {c:C},Jg P rec o n x a b c=.error e→e≠0
 |0,_,_,_,_,h=>by cases h
 |n+1,x,a,b,c,h=>by
  rw[Jg]at h;split at h
  ·split at h
   ·split at h
    ·split at h
     ·cases h;decide
     ·split at h
      ·rename_i h1;cases h;exact VB hre h1
      ·exact Na h
    ·split at h
     ·split at h
      ·cases h;decide
      ·split at h
       ·rename_i h1;cases h;exact VB hre h1
       ·exact Na h
     ·cases h;decide
   ·rename_i h1;cases h;exact h1
  ·cases h
theorem Sw {g:PG}{v:V}{o:PO}{c:C}{e:Nat}(h:Jk P rec g v o c=.error e):e≠0:=by
 unfold Jk at h;split at h
 ·rename_i h1;cases h;exact Yj h1
 ·split at h
  ·rename_i h1;cases h;exact C5 h1
  ·split at h
   ·rename_i h1;cases h;exact Na hre h1
   ·cases h
end

section
variable {M K n:Nat}(hM:3000≤M)(P:PL)(hP:P.ok M){rec:Int→V→C→Rd V}(hrec:HU P M K n rec)(hre:Yt rec)(hro:KG P M K n rec)(g:PG)(o:PO)(ho:OpK P g o)(h5:o.card=5)

structure EyF (P:PL)(g:PG)(o:PO)(v z:V)(c0 d:C)(f:Fr)(fr:Nat→Ob)(x:V×V)(a b:Bool)(c:C):Prop where
 f5:f 5=.ptr 0 5 0
 f6:f 6=.ptr 0 6 0
 f7:f 7=.ptr 0 7 0
 f8:f 8=.ptr 0 8 0
 f9:f 9=.ptr 0 9 0
 f10:f 10=.ptr 0 10 0
 f11:f 11=.ptr 0 11 0
 f14:f 14=.ptr 0 14 0
 f16:f 16=.ptr 0 16 0
 f19:f 19=.ptr 0 19 0
 f20:f 20=.ptr 0 20 0
 f21:f 21=.vec 0 65 1 0 3 false
 m5:fr 5=.cells (QX P)
 m6:fr 6=.cells g.cells
 m7:fr 7=.cells (vc v)
 m8:fr 8=.cells o.cells
 m9:fr 9=.cells (XR c0)
 m10:fr 10=.cells XG
 m11:fr 11=.cells YH
 m14:fr 14=.cells (XR d)
 m16:fr 16=.cells (vc z)
 m19:fr 19=.cells (XR c)
 m20:fr 20=.cells (kc (a||b) x.1++vc x.2)
 m65:fr 65=.vec 1 1 [.bool false,.bool a,.bool b]
 m24:(fr 24).isRow=false
 m117:Qi (fr 117)=true

include hP hrec hre hM hro ho h5 in
theorem VC (v z:V)(c0 d:C)(R0:Rd (V×V))(k:Nat)(x:V×V)(a b:Bool)(c:C)(f:Fr)(fr:Nat→Ob)(hf:EyF P g o v z c0 d f fr x a b c)(hc:CI c)(hk:c.left≤k)(hcn:c.left≤n)(hb1:(1:Int)+3*c.left≤K)(hR:Jg P rec o k x a b c=R0)
  (hxn:(a||b)=false→x.1=Qs o.key 0 []) (Q:Exit→St→Prop)
  (hx:∀f fr x a b c,EyF P g o v z c0 d f fr x a b c→((a||b)=false→x.1=Qs o.key 0 [])→R0=.ok (x,c)→Q (.exit 0) ⟨f,[fr],[]⟩)
  (he:∀f fr (e:Nat),f 10=.ptr 0 10 0→f 11=.ptr 0 11 0→fr 10=.cells (vc v)→fr 11=.cells (XR c0)→f 12=.int .i64 (e:Nat)→R0=.error e→e≠0→Q .ret ⟨f,[fr],[]⟩) :
  QJ Tryz.prog (.loop Tx) ⟨f,[fr],[]⟩ Q:=by
 have hky:=ho.uo.key h5;have hk10:o.key≠10:=by unfold Xo at hky;omega
 let I:Nat→St→Prop:=fun k st=>∃f fr x a b c,st=⟨f,[fr],[]⟩∧EyF P g o v z c0 d f fr x a b c∧CI c∧c.left≤k∧c.left≤n∧(1:Int)+3*c.left≤K∧Jg P rec o k x a b c=R0∧((a||b)=false→x.1=Qs o.key 0 [])
 refine Qg I k ⟨f,fr,x,a,b,c,rfl,hf,hc,hk,hcn,hb1,hR,hxn⟩ ?_;clear hf hc hk hcn hb1 hR hxn;rintro k st ⟨f0,fr0,x,a,b,c,rfl,hf,hc,hk,hcn,hb1,hR,hxn⟩;have hcb:=hc.bd;obtain⟨h50,h60,h70,h80,h90,h100,h110,h140,h160,h190,h200,h210,m50,m60,m70,m80,m90,m100,m110,m140,m160,m190,m200,m650,m24,m1170⟩:=hf;refine Q7 (a:=_) [24] (by intro s hs;simp only[QQC]at hs;subst hs;exact m24) ?_;intro f fr hf hmm hn24;have h5':f 5=.ptr 0 5 0:=by rw[hf,h50]<;>rfl
 have h6:f 6=.ptr 0 6 0:=by rw[hf,h60]<;>rfl
 have h7:f 7=.ptr 0 7 0:=by rw[hf,h70]<;>rfl
 have h8:f 8=.ptr 0 8 0:=by rw[hf,h80]<;>rfl
 have h9:f 9=.ptr 0 9 0:=by rw[hf,h90]<;>rfl
 have h10:f 10=.ptr 0 10 0:=by rw[hf,h100]<;>rfl
 have h11:f 11=.ptr 0 11 0:=by rw[hf,h110]<;>rfl
 have h14:f 14=.ptr 0 14 0:=by rw[hf,h140]<;>rfl
 have h16:f 16=.ptr 0 16 0:=by rw[hf,h160]<;>rfl
 have h19:f 19=.ptr 0 19 0:=by rw[hf,h190]<;>rfl
 have h20:f 20=.ptr 0 20 0:=by rw[hf,h200]<;>rfl
 have h21:f 21=.vec 0 65 1 0 3 false:=by rw[hf,h210]<;>rfl
 have m5':fr 5=.cells (QX P):=by rw[hmm 5 (by decide),m50]<;>rfl
 have m6':fr 6=.cells g.cells:=by rw[hmm 6 (by decide),m60]<;>rfl
 have m7':fr 7=.cells (vc v):=by rw[hmm 7 (by decide),m70]<;>rfl
 have m8':fr 8=.cells o.cells:=by rw[hmm 8 (by decide),m80]<;>rfl
 have m9':fr 9=.cells (XR c0):=by rw[hmm 9 (by decide),m90]<;>rfl
 have m10':fr 10=.cells XG:=by rw[hmm 10 (by decide),m100]<;>rfl
 have m11':fr 11=.cells YH:=by rw[hmm 11 (by decide),m110]<;>rfl
 have m14':fr 14=.cells (XR d):=by rw[hmm 14 (by decide),m140]<;>rfl
 have m16':fr 16=.cells (vc z):=by rw[hmm 16 (by decide),m160]<;>rfl
 have m19':fr 19=.cells (XR c):=by rw[hmm 19 (by decide),m190]<;>rfl
 have m20':fr 20=.cells (kc (a||b) x.1++vc x.2):=by rw[hmm 20 (by decide),m200];cases a<;>cases b<;>rfl
 have m65':fr 65=.vec 1 1 [.bool false,.bool a,.bool b]:=by rw[hmm 65 (by decide),m650]<;>rfl
 have n24:=hn24 24 (by decide);have m117':Qi (fr 117)=true:=by
  rw[hmm 117 (by decide)];cases h:fr0 117<;>rw[h]at m1170<;>first|rfl|cases m1170
 clear hf hmm hn24 h50 h60 h70 h80 h90 h100 h110 h140 h160 h190 h200 h210 m50 m60 m70 m80 m90 m100 m110 m140 m160 m190 m200 m650 m24 m1170;have m5:=m5';have m7:=m7';have m8:=m8';have m9:=m9';have m10:=m10';have m11:=m11';have m19:=m19';simp only[QX]at m5;simp only[vc]at m7;simp only[PO.cells]at m8;simp only[XR]at m9 m19;simp only[XG]at m10;simp only[YH]at m11;simp only[h19,m19,eE,seval];refine Qa (Vm c) rfl rfl rfl (.inl rfl) ?_;by_cases hlt:0<c.left
 case neg=>
  have d1:decide (c.left > 0)=false:=QQt hlt;have hR':R0=.ok (x,c):=by
   rw[←hR];cases k with
   |zero=>rfl
   |succ k=>rw[Jg,QOS hlt]
  simp only[d1,Qb,seval];exact hx _ _ x a b c ⟨(by exact h5'),(by exact h6),(by exact h7),(by exact h8),(by exact h9),(by exact h10),(by exact h11),(by exact h14),(by exact h16),(by exact h19),(by exact h20),(by exact h21),m5',m6',m7',m8',m9',m10',m11',m14',m16',m19',m20',m65',(by rw[n24]<;>rfl),m117'⟩ hxn hR'
 have d1:decide (c.left > 0)=true:=QQx hlt;obtain⟨k,rfl⟩:∃j,k=j+1:=⟨k-1,by omega⟩;rw[Jg,QO9 hlt]at hR;have htt:=c74 c hc.big;have hta:=Wh hc;generalize Qw c=tg at htt hta hR;obtain⟨num,w,c1,e⟩:=tg;dsimp only at hta hR;simp only[Wt,C.av]at htt;simp only[d1,h19,m19,eE,seval];refine Qa htt rfl rfl rfl (.inl rfl) ?_;by_cases he0:e=0
 case neg=>
  rw[QOS he0]at hR;simp only[n24,Qr he0,h7,h9,h10,h11,m7,m9,m10,m11,eE,seval];exact he _ _ e (by exact h10) (by exact h11) (by rfl) (by rfl) (by rfl) hR.symm he0
 subst he0;obtain⟨t1,t2,t3,t4,t5⟩:=hta rfl;have hc1:=t1.ci hc;have hl1:=t1.lt hc;have hc1b:=hc1.bd;rw[QO9 rfl]at hR;have ia1:∀(fr':Nat→Ob),fr' 65=.vec 1 1 [.bool false,.bool a,.bool b]→Qf [fr'] 1 none (.vec 0 65 1 0 3 false) (1:Int)=some (.vptr 0 65 1 1 0):=by
  intro fr' h;have e:Am.Qd [fr'] 0 65=.vec 1 1 [.bool false,.bool a,.bool b]:=h;simp only[Qf,e];rfl
 have ia2:∀(fr':Nat→Ob),fr' 65=.vec 1 1 [.bool false,.bool a,.bool b]→Qf [fr'] 1 none (.vec 0 65 1 0 3 false) (2:Int)=some (.vptr 0 65 1 2 0):=by
  intro fr' h;have e:Am.Qd [fr'] 0 65=.vec 1 1 [.bool false,.bool a,.bool b]:=h;simp only[Qf,e];rfl
 have ld1:∀(fr':Nat→Ob),fr' 65=.vec 1 1 [.bool false,.bool a,.bool b]→Q3 [fr'] none (.vptr 0 65 1 1 0)=some (.bool a):=by
  intro fr' h;have e:Am.Qd [fr'] 0 65=.vec 1 1 [.bool false,.bool a,.bool b]:=h;simp only[Q3,e];rfl
 have ld2:∀(fr':Nat→Ob),fr' 65=.vec 1 1 [.bool false,.bool a,.bool b]→Q3 [fr'] none (.vptr 0 65 1 2 0)=some (.bool b):=by
  intro fr' h;have e:Am.Qd [fr'] 0 65=.vec 1 1 [.bool false,.bool a,.bool b]:=h;simp only[Q3,e];rfl
 have st1:∀(fr':Nat→Ob),fr' 65=.vec 1 1 [.bool false,.bool a,.bool b]→Q6 [fr'] (.vptr 0 65 1 1 0) [.bool true]=some [QG fr' 65 (.vec 1 1 [.bool false,.bool true,.bool b])]:=by
  intro fr' h;have e:Am.Qd [fr'] 0 65=.vec 1 1 [.bool false,.bool a,.bool b]:=h;simp only[Q6,e];rfl
 have st2:∀(fr':Nat→Ob),fr' 65=.vec 1 1 [.bool false,.bool a,.bool b]→Q6 [fr'] (.vptr 0 65 1 2 0) [.bool true]=some [QG fr' 65 (.vec 1 1 [.bool false,.bool a,.bool true])]:=by
  intro fr' h;have e:Am.Qd [fr'] 0 65=.vec 1 1 [.bool false,.bool a,.bool b]:=h;simp only[Q6,e];rfl
 have hl1':(a||b)=false→x.1.list=[]:=fun h=>by rw[hxn h];rfl
 have hl2':(a||b)=false→x.1.pairs=[]:=fun h=>by rw[hxn h];rfl
 have hl3':(a||b)=false→x.1.slots=[]:=fun h=>by rw[hxn h];rfl
 have hl4':(a||b)=false→x.1.raws=[]:=fun h=>by rw[hxn h];rfl
 have hrf:∀(h:V→V×V) (r:Rd V) (y:AV),Re h r y→y.rf=true:=by
  intro h r y hy;cases r with
  |error e=>
   obtain⟨_,u,d2,rfl⟩:=hy;simp only[Q4 u,C.av];rfl
  |ok p=>
   obtain⟨u,d2⟩:=p;cases hy;simp only[Q4 (h u),C.av];rfl
 by_cases h1:num=1
 ·subst h1;rw[QO9 rfl]at hR;cases a with
  |true=>
   rw[QO9 rfl]at hR;simp only[n24,ia1,ld1,h7,h9,h10,h11,h21,m7,m9,m10,m11,m65',eE,seval];exact he _ _ 9 (by exact h10) (by exact h11) (by rfl) (by rfl) (by rfl) hR.symm (by decide)
  |false=>
   rw[QOS (by simp)]at hR;have hfe:=QDz (rec:=rec) P hP o x w hc1 hk10;rw[show P.av=.agg (QX P)from rfl,Q4 x]at hfe;simp only[QX,Qy,PO.cells,C.av]at hfe;cases b with
   |false=>
    have m20:=m20';simp only[kc,vc,lz,QQz,QO0,QO1]at m20;simp only[hl1' rfl,hl2' rfl,hl3' rfl,hl4' rfl,QPG]at hfe;simp only[n24,ia1,ld1,st1,h5',h8,h20,h21,m5,m8,m20,m65',eE,seval];refine JQ hfe rfl rfl (fun y hy=>⟨hrf _ _ _ hy,.inl rfl⟩) (fun y hy=>?_);cases hr:ZE P rec o.key (-1) w c1 with
    |error e=>
     rw[hr]at hy hR;obtain⟨he',u,c',rfl⟩:=hy;simp only[Q4 u,C.av,Qr he',h7,h9,h10,h11,h19,h20,m7,m9,m10,m11,m19,m20,eE,seval];exact he _ _ e (by exact h10) (by exact h11) (by rfl) (by rfl) (by rfl) hR.symm he'
    |ok p=>
     obtain⟨u,c2⟩:=p;rw[hr]at hy hR;cases hy;have hab:As c1 c2:=(JK hM hro (fun h=>absurd h hk10) hc1 (by omega) (by omega) hr).1;have hl2:=hab.lt hc1;dsimp only at hR;simp only[Q4 (u,x.2),C.av,h19,h20,m19,m20,eE,seval];exact⟨k,by omega,_,_,(u,x.2),true,false,c2,rfl,⟨(by exact h5'),(by exact h6),(by exact h7),(by exact h8),(by exact h9),(by exact h10),(by exact h11),(by exact h14),(by exact h16),(by exact h19),(by exact h20),(by exact h21),(by exact m5'),(by exact m6'),(by exact m7'),(by exact m8'),(by exact m9'),(by exact m10'),(by exact m11'),(by exact m14'),(by exact m16'),(by rfl),(by rfl),(by rfl),(by rfl),(by exact m117')⟩,hab.ci hc1,by omega,by omega,by omega,hR,(fun h=>by cases h)⟩

   |true=>
    have m20:=m20';simp only[kc,vc,lz,Bool.or_true,QO0,QO1]at m20
    skip
    simp only[n24,ia1,ld1,st1,h5',h8,h20,h21,m5,m8,m20,m65',eE,seval];refine JQ hfe rfl rfl (fun y hy=>⟨hrf _ _ _ hy,.inl rfl⟩) (fun y hy=>?_);cases hr:ZE P rec o.key (-1) w c1 with
    |error e=>
     rw[hr]at hy hR;obtain⟨he',u,c',rfl⟩:=hy;simp only[Q4 u,C.av,Qr he',h7,h9,h10,h11,h19,h20,m7,m9,m10,m11,m19,m20,eE,seval];exact he _ _ e (by exact h10) (by exact h11) (by rfl) (by rfl) (by rfl) hR.symm he'
    |ok p=>
     obtain⟨u,c2⟩:=p;rw[hr]at hy hR;cases hy;have hab:As c1 c2:=(JK hM hro (fun h=>absurd h hk10) hc1 (by omega) (by omega) hr).1;have hl2:=hab.lt hc1;dsimp only at hR;simp only[Q4 (u,x.2),C.av,h19,h20,m19,m20,eE,seval];exact⟨k,by omega,_,_,(u,x.2),true,true,c2,rfl,⟨(by exact h5'),(by exact h6),(by exact h7),(by exact h8),(by exact h9),(by exact h10),(by exact h11),(by exact h14),(by exact h16),(by exact h19),(by exact h20),(by exact h21),(by exact m5'),(by exact m6'),(by exact m7'),(by exact m8'),(by exact m9'),(by exact m10'),(by exact m11'),(by exact m14'),(by exact m16'),(by rfl),(by rfl),(by rfl),(by rfl),(by exact m117')⟩,hab.ci hc1,by omega,by omega,by omega,hR,(fun h=>by cases h)⟩
 by_cases h2:num=2
 ·subst h2;rw[QOS (by decide),QO9 rfl]at hR;cases b with
  |true=>
   rw[QO9 rfl]at hR;simp only[n24,ia2,ld2,h7,h9,h10,h11,h21,m7,m9,m10,m11,m65',eE,seval];exact he _ _ 9 (by exact h10) (by exact h11) (by rfl) (by rfl) (by rfl) hR.symm (by decide)
  |false=>
   rw[QOS (by simp)]at hR;have hfe:=QDA P hP o x w hc1 hrec hre (by omega) (by omega) ho.uo.tgt;rw[show P.av=.agg (QX P)from rfl,Q4 x]at hfe;simp only[QX,Qy,PO.cells,C.av]at hfe;cases a with
   |false=>
    have m20:=m20';simp only[kc,vc,lz,QQz,QO0,QO1]at m20;simp only[hl1' rfl,hl2' rfl,hl3' rfl,hl4' rfl,QPG]at hfe;simp only[n24,ia2,ld2,st2,h5',h8,h20,h21,m5,m8,m20,m65',eE,seval];refine JQ hfe rfl rfl (fun y hy=>⟨hrf _ _ _ hy,.inl rfl⟩) (fun y hy=>?_);cases hr:ZE P rec o.kind o.target w c1 with
    |error e=>
     rw[hr]at hy hR;obtain⟨he',u,c',rfl⟩:=hy;simp only[Q4 u,C.av,Qr he',h7,h9,h10,h11,h19,h20,m7,m9,m10,m11,m19,m20,eE,seval];exact he _ _ e (by exact h10) (by exact h11) (by rfl) (by rfl) (by rfl) hR.symm he'
    |ok p=>
     obtain⟨u,c2⟩:=p;rw[hr]at hy hR;cases hy;have hab:As c1 c2:=(JK hM hro ho.uo.tgt hc1 (by omega) (by omega) hr).1;have hl2:=hab.lt hc1;dsimp only at hR;simp only[Q4 (x.1,u),C.av,h19,h20,m19,m20,eE,seval];exact⟨k,by omega,_,_,(x.1,u),false,true,c2,rfl,⟨(by exact h5'),(by exact h6),(by exact h7),(by exact h8),(by exact h9),(by exact h10),(by exact h11),(by exact h14),(by exact h16),(by exact h19),(by exact h20),(by exact h21),(by exact m5'),(by exact m6'),(by exact m7'),(by exact m8'),(by exact m9'),(by exact m10'),(by exact m11'),(by exact m14'),(by exact m16'),(by rfl),(by rfl),(by rfl),(by rfl),(by exact m117')⟩,hab.ci hc1,by omega,by omega,by omega,hR,(fun h=>by cases h)⟩

   |true=>
    have m20:=m20';simp only[kc,vc,lz,QQz,QO0,QO1]at m20
    skip
    simp only[n24,ia2,ld2,st2,h5',h8,h20,h21,m5,m8,m20,m65',eE,seval];refine JQ hfe rfl rfl (fun y hy=>⟨hrf _ _ _ hy,.inl rfl⟩) (fun y hy=>?_);cases hr:ZE P rec o.kind o.target w c1 with
    |error e=>
     rw[hr]at hy hR;obtain⟨he',u,c',rfl⟩:=hy;simp only[Q4 u,C.av,Qr he',h7,h9,h10,h11,h19,h20,m7,m9,m10,m11,m19,m20,eE,seval];exact he _ _ e (by exact h10) (by exact h11) (by rfl) (by rfl) (by rfl) hR.symm he'
    |ok p=>
     obtain⟨u,c2⟩:=p;rw[hr]at hy hR;cases hy;have hab:As c1 c2:=(JK hM hro ho.uo.tgt hc1 (by omega) (by omega) hr).1;have hl2:=hab.lt hc1;dsimp only at hR;simp only[Q4 (x.1,u),C.av,h19,h20,m19,m20,eE,seval];exact⟨k,by omega,_,_,(x.1,u),true,true,c2,rfl,⟨(by exact h5'),(by exact h6),(by exact h7),(by exact h8),(by exact h9),(by exact h10),(by exact h11),(by exact h14),(by exact h16),(by exact h19),(by exact h20),(by exact h21),(by exact m5'),(by exact m6'),(by exact m7'),(by exact m8'),(by exact m9'),(by exact m10'),(by exact m11'),(by exact m14'),(by exact m16'),(by rfl),(by rfl),(by rfl),(by rfl),(by exact m117')⟩,hab.ci hc1,by omega,by omega,by omega,hR,(fun h=>by cases h)⟩
 have b1:(num != 1)=true:=by simp[h1]
 have b2:(num != 2)=true:=by simp[h2]
 rw[QOS h1,QOS h2]at hR;simp only[n24,b1,b2,h7,h9,h10,h11,m7,m9,m10,m11,eE,seval];exact he _ _ 18 (by exact h10) (by exact h11) (by rfl) (by rfl) (by rfl) hR.symm (by decide)

end

section
variable {M K n:Nat}(hM:3000≤M)(hK:K≤1000000)(P:PL)(hP:P.ok M){rec:Int→V→C→Rd V}(hrec:HU P M K n rec)(hre:Yt rec)(hro:KG P M K n rec)(g:PG)(hg:g.ops.length≤maxLen)(o:PO)(ho:OpK P g o)(h5:o.card=5)(hun : -1≤o.union)
 {c:C} (hc:CI c) (hcn:c.left≤n) (v:V) (hvm:MW P (n+1) g v) (hvo:v.ok M) (hb:(v.cnt:Int)+3*c.left+3≤K) (hkd:(Lit.int .i64 o.kind).wf=true)

include hM hK hP hrec hre hro hg ho h5 hun hc hcn hvm hvo hb hkd in
theorem j78 :
  Qj Tryz.prog 78 [P.av,Qp g,v.av,Qy o,c.av] (xv (KN v c (Jk P rec g v o c))):=by
 have ls:=Xi v;have hcv:=Zj v;have hcb:=hc.bd;have hky:=ho.uo.key h5;have hge:=P3 v o.num (by omega);have hle:=CZ hc;have hel:=QsV o;have hsl:∀s∈v.slots,∃q,XL g s.1=some q:=fun s hs=>let ⟨q,h,_⟩:=hvm.1 s hs;⟨q,h⟩
 have hpu:=fun x=>B3 g v o x hg (by omega) hsl hun
 have hol:=W2 (n:=o.num) hvo;have hoc:=WK v o.num;have hpo:((∀p∈(QL v o.num).pairs,p.1.one P o.key (-1)=0))∧(QL v o.num).pairs.Pairwise fun q p=>Q0 q.1 p.1=false:=by
  cases hf:Xq v o.num with
  |none=>
   rw[Zo (by rw[hf];simp)];exact⟨fun p hp=>(nomatch hp),.nil⟩
  |some z=>
   have h4:=W3 hvm ho.self hf;unfold FW at h4;rw[QOS (by omega),QO9 h5]at h4;rw[(Xn hf).2];exact⟨fun p hp=>(h4.1 p hp).1,h4.2⟩
 have hx0:XI P M n o (Qs o.key 0 [],Qs o.kind 0 []):=by
  refine⟨XA ?_ (by decide) (QOM _),XA hkd (by decide) (QOM _),HQ hky,fun hn e=>XB hn⟩;unfold Xo at hky;exact ZV (by omega) (by omega)
 have lpz:=JI (QL v o.num);unfold Jk;generalize QL v o.num=z at hge hol hoc hpo lpz ⊢;rw[Qc v,Qc z]at hge;rw[Qc v]at hpu;rw[show(Qs o.kind 0 []).av=.agg [.int .i64 o.kind,.int .u64 0,.str [],.list [],.list [],.list [],.list []]from Qc _]at hel;simp only[Qp,Qy,PG.cells,PO.cells]at hpu hel;rw[show P.av=.agg (QX P)from rfl,Qc v];cases hr:Jd c with
 |error e=>
  rw[DC hr]at hle;have he:=Yj hr;simp only[C.av]at hle;refine k78.fn (by simp) ?_;simp only[QX,Qp,Qy,PG.cells,PO.cells,C.av,eE,seval];refine Qa hle rfl rfl rfl (.inl rfl) ?_;simp only[Qr he,X0,xv,Qc v,C.av,eE,seval]
 |ok p=>
 obtain⟨q,d⟩:=p;obtain⟨a1,a2⟩:=Jl hc hr;have hd:=a1.ci hc;have hl1:=a1.lt hc;have hdb:=hd.bd;rw[DB hr]at hle;obtain⟨_,p2,p3⟩:=Kq hd a2;have hpt:=QsU (c:=d) q;dsimp only at hle ⊢;generalize part d q=i0 at hpt p2 p3 ⊢;simp only[C.av]at hle hpt;refine k78.fn (by simp) ?_;simp only[QX,Qp,Qy,PG.cells,PO.cells,C.av,eE,seval];refine Qa hle rfl rfl rfl (.inl rfl) ?_;simp only[eE,seval];refine Qa hge rfl rfl rfl (.inl rfl) ?_;cases hf:(Xq v o.num).isSome
 case false=>
  have hkk:(if (false:Bool)=true then(2:Int)else 3)=3:=rfl;have hsp:=DY i0 3;rw[hkk];simp only[Z6,C.av]at hsp;simp only[eE,seval];refine Qa hpt rfl rfl rfl (.inl rfl) ?_;simp only[Qb,seval];refine Qa hsp rfl rfl rfl (.inl rfl) ?_;rcases Ze i0 3 with⟨i,h2,h2'⟩|⟨e,he,h2,h2'⟩
  case inr=>
   rw[h2,h2'];simp only[Qr he,X0,xv,Qc v,C.av,eE,seval]
  rw[h2,h2'];obtain⟨s1,_⟩:=XW p2 (by omega) h2;have hci:=s1.ci p2;have hls:=(s1.left p2).2.2;have hib:=hci.bd;dsimp only;simp only[eE,seval];refine Qa hel rfl rfl rfl (.inl rfl) ?_;simp only[eE,seval];refine Uq (y:=[.bool false,.bool false,.bool false]) rfl rfl rfl rfl ?_;simp only[Qb,seval];have hio:∀x j,Jg P rec o i.left.toNat (Qs o.key 0 [],Qs o.kind 0 []) false false i=.ok (x,j)→XI P M n o x:=fun x j h3=>(K3 hM ho hro h5 _ hci (by omega) (by omega) hx0 h3).2.1
  refine VC (n:=n) hM P hP hrec hre hro g o ho h5 v z c d _ i.left.toNat (Qs o.key 0 [],Qs o.kind 0 []) false false i _ _ ⟨(by rfl),(by rfl),(by rfl),(by rfl),(by rfl),(by rfl),(by rfl),(by rfl),(by rfl),(by rfl),(by rfl),(by rfl),(by rfl),(by rfl),(by rfl),(by rfl),(by rfl),(by rfl),(by rfl),(by rfl),(by rfl),(by rfl),(by rfl),(by rfl),(by rfl),(by rfl)⟩ hci (by omega) (by omega) (by omega) rfl (fun _=>rfl) _ (fun f fr x a b c' hf' hxn hR'=>?_) (fun f fr e h10 h11 m10 m11 h12 hR' he=>?_)
  ·obtain⟨h5',h6,h7,h8,h9,h10,h11,h14,h16,h19,h20,h21,m5,m6,m7,m8,m9,m10,m11,m14,m16,m19,m20,m65,m24,m117⟩:=hf';have hxi:=hio _ _ hR';rw[hR'];dsimp only;simp only[PG.cells]at m6;simp only[vc]at m7 m16;simp only[PO.cells]at m8;simp only[XG]at m10;simp only[YH]at m11;simp only[XR]at m14 m19;have hbh:=Su d c';generalize XZ d c'=y at hbh ⊢;simp only[C.av]at hbh;generalize hq:(a||b)=qq at m20 hxn;simp only[kc,vc,QO0,QO1]at m20;obtain⟨p1,p2,p3,p4⟩:nn0 (lz qq (x.1.list.map V.av))=.list (x.1.list.map V.av)∧nn0 (lz qq (x.1.pairs.map V.pav))=.list (x.1.pairs.map V.pav)∧nn0 (lz qq (x.1.slots.map V.sav))=.list (x.1.slots.map V.sav)∧nn0 (lz qq (x.1.raws.map R.av))=.list (x.1.raws.map R.av) :=
    ⟨Zr (fun e=>by rw[hxn e];rfl),Zr (fun e=>by rw[hxn e];rfl),Zr (fun e=>by rw[hxn e];rfl),Zr (fun e=>by rw[hxn e];rfl)⟩
   simp only[Qb,seval];refine XN (by exact m117) ?_;simp only[h16,m16,eE,seval];refine QF (site:=117) (g:=_) (n:=0) (xs:=[]) (ys:=z.pairs.map V.pav) (by simp only[Qb,seval]<;>rfl) (by simp only[Qb,seval]<;>rfl) rfl rfl rfl (XQ z.pairs) (by simp[maxLen];omega) (by simp;omega) ?_;simp only[h20,m20,QPz,QO1,QPm,eE,seval];refine QO (y:=kc qq x.1++vc x.2) (l:=[V.pav x]) (by cases qq<;>rfl) (by cases qq<;>rfl) (by cases qq<;>rfl) (by simp only[kc,vc,QO0,QO1,QPc,QPG,p1,p2,p3,p4];rw[Q4 x];rfl) ?_;refine QF (site:=117) (g:=_) (n:=z.pairs.length) (xs:=z.pairs.map V.pav) (ys:=[V.pav x]) (by simp only[Qb,seval]<;>rfl) (by simp only[Qb,seval]<;>rfl) rfl (by simp) rfl (XQ [x]) (by simp[maxLen];omega) (by simp;omega) ?_;have hub:∀y:V,y.ok M→y.bits<18446744073709551616:=fun y hy=>by
    have:=hy.bits;simp[Lit.wf,IntKind.min,IntKind.max,IntKind.bits,IntKind.signed]at this;omega
   have hkf:KF P o.key z.pairs:=fun p hp=>⟨hpo.1 p hp,hub _ (hol.keys p hp)⟩
   have hpr:=Qs6 (P:=P) hky (z.pairs++[x]) (by simp;omega) (fun p hp=>by
    rcases QPX.1 hp with h|h
    ·exact(hkf p h).1
    ·rw[QQC]at h;subst h;exact hxi.one) (fun p hp=>by
    rcases QPX.1 hp with h|h
    ·exact(hkf p h).2
    ·rw[QQC]at h;subst h;exact hub _ hxi.ky)
   rw[B9 hpo.2,QQq,show QT o.key (z.pairs.filter (fun q=>!Q0 q.1 x.1)++[x])=Xy o.key z.pairs x from rfl]at hpr;have hk:List.take (z.pairs.length+1) (z.pairs.map V.pav++[V.pav x])=z.pairs.map V.pav++[V.pav x]:=QPe (by simp);have hst:=hpu (Z7 (Xy o.key z.pairs x));rw[show(Z7 (Xy o.key z.pairs x)).av=.agg [.int .i64 12,.int .u64 0,.str [],.list [],.list ((Xy o.key z.pairs x).map V.pav),.list [],.list []]from Qc _]at hst;generalize Xg g v o (Z7 (Xy o.key z.pairs x))=w at hst ⊢;rw[Qc w]at hst;simp only[QOT,QPA,Qb,seval];refine KV (site:=117) (g:=_) (sz:=14) (n:=z.pairs.length+1) (xs:=z.pairs.map V.pav++[V.pav x]) (by simp only[Qb,seval]<;>rfl) (by simp only[Qb,seval]) (by simp) ?_;rw[hk];simp only[h6,h7,h8,m6,m7,m8,eE,seval];refine Qa hpr rfl rfl rfl (.inl rfl) ?_;simp only[eE,seval];refine Qa hst rfl rfl rfl (.inl rfl) ?_;simp only[h14,h19,m14,m19,eE,seval];refine Qa hbh rfl rfl rfl (.inl rfl) ?_;simp only[h10,h11,m10,m11,JM,xv,Qc w,C.av,eE,seval]
  ·rw[hR'];simp only[vc]at m10;simp only[XR]at m11;simp only[h10,h11,h12,m10,m11,X0,xv,Qc v,C.av,eE,seval]

 case true=>
  have hkk:(if (true:Bool)=true then(2:Int)else 3)=2:=rfl;have hsp:=DY i0 2;rw[hkk];simp only[Z6,C.av]at hsp;simp only[eE,seval];refine Qa hpt rfl rfl rfl (.inl rfl) ?_;simp only[Qb,seval];refine Qa hsp rfl rfl rfl (.inl rfl) ?_;rcases Ze i0 2 with⟨i,h2,h2'⟩|⟨e,he,h2,h2'⟩
  case inr=>
   rw[h2,h2'];simp only[Qr he,X0,xv,Qc v,C.av,eE,seval]
  rw[h2,h2'];obtain⟨s1,_⟩:=XW p2 (by omega) h2;have hci:=s1.ci p2;have hls:=(s1.left p2).2.2;have hib:=hci.bd;dsimp only;simp only[eE,seval];refine Qa hel rfl rfl rfl (.inl rfl) ?_;simp only[eE,seval];refine Uq (y:=[.bool false,.bool false,.bool false]) rfl rfl rfl rfl ?_;simp only[Qb,seval];have hio:∀x j,Jg P rec o i.left.toNat (Qs o.key 0 [],Qs o.kind 0 []) false false i=.ok (x,j)→XI P M n o x:=fun x j h3=>(K3 hM ho hro h5 _ hci (by omega) (by omega) hx0 h3).2.1
  refine VC (n:=n) hM P hP hrec hre hro g o ho h5 v z c d _ i.left.toNat (Qs o.key 0 [],Qs o.kind 0 []) false false i _ _ ⟨(by rfl),(by rfl),(by rfl),(by rfl),(by rfl),(by rfl),(by rfl),(by rfl),(by rfl),(by rfl),(by rfl),(by rfl),(by rfl),(by rfl),(by rfl),(by rfl),(by rfl),(by rfl),(by rfl),(by rfl),(by rfl),(by rfl),(by rfl),(by rfl),(by rfl),(by rfl)⟩ hci (by omega) (by omega) (by omega) rfl (fun _=>rfl) _ (fun f fr x a b c' hf' hxn hR'=>?_) (fun f fr e h10 h11 m10 m11 h12 hR' he=>?_)
  ·obtain⟨h5',h6,h7,h8,h9,h10,h11,h14,h16,h19,h20,h21,m5,m6,m7,m8,m9,m10,m11,m14,m16,m19,m20,m65,m24,m117⟩:=hf';have hxi:=hio _ _ hR';rw[hR'];dsimp only;simp only[PG.cells]at m6;simp only[vc]at m7 m16;simp only[PO.cells]at m8;simp only[XG]at m10;simp only[YH]at m11;simp only[XR]at m14 m19;have hbh:=Su d c';generalize XZ d c'=y at hbh ⊢;simp only[C.av]at hbh;generalize hq:(a||b)=qq at m20 hxn;simp only[kc,vc,QO0,QO1]at m20;obtain⟨p1,p2,p3,p4⟩:nn0 (lz qq (x.1.list.map V.av))=.list (x.1.list.map V.av)∧nn0 (lz qq (x.1.pairs.map V.pav))=.list (x.1.pairs.map V.pav)∧nn0 (lz qq (x.1.slots.map V.sav))=.list (x.1.slots.map V.sav)∧nn0 (lz qq (x.1.raws.map R.av))=.list (x.1.raws.map R.av) :=
    ⟨Zr (fun e=>by rw[hxn e];rfl),Zr (fun e=>by rw[hxn e];rfl),Zr (fun e=>by rw[hxn e];rfl),Zr (fun e=>by rw[hxn e];rfl)⟩
   simp only[Qb,seval];refine XN (by exact m117) ?_;simp only[h16,m16,eE,seval];refine QF (site:=117) (g:=_) (n:=0) (xs:=[]) (ys:=z.pairs.map V.pav) (by simp only[Qb,seval]<;>rfl) (by simp only[Qb,seval]<;>rfl) rfl rfl rfl (XQ z.pairs) (by simp[maxLen];omega) (by simp;omega) ?_;simp only[h20,m20,QPz,QO1,QPm,eE,seval];refine QO (y:=kc qq x.1++vc x.2) (l:=[V.pav x]) (by cases qq<;>rfl) (by cases qq<;>rfl) (by cases qq<;>rfl) (by simp only[kc,vc,QO0,QO1,QPc,QPG,p1,p2,p3,p4];rw[Q4 x];rfl) ?_;refine QF (site:=117) (g:=_) (n:=z.pairs.length) (xs:=z.pairs.map V.pav) (ys:=[V.pav x]) (by simp only[Qb,seval]<;>rfl) (by simp only[Qb,seval]<;>rfl) rfl (by simp) rfl (XQ [x]) (by simp[maxLen];omega) (by simp;omega) ?_;have hub:∀y:V,y.ok M→y.bits<18446744073709551616:=fun y hy=>by
    have:=hy.bits;simp[Lit.wf,IntKind.min,IntKind.max,IntKind.bits,IntKind.signed]at this;omega
   have hkf:KF P o.key z.pairs:=fun p hp=>⟨hpo.1 p hp,hub _ (hol.keys p hp)⟩
   have hpr:=Qs6 (P:=P) hky (z.pairs++[x]) (by simp;omega) (fun p hp=>by
    rcases QPX.1 hp with h|h
    ·exact(hkf p h).1
    ·rw[QQC]at h;subst h;exact hxi.one) (fun p hp=>by
    rcases QPX.1 hp with h|h
    ·exact(hkf p h).2
    ·rw[QQC]at h;subst h;exact hub _ hxi.ky)
   rw[B9 hpo.2,QQq,show QT o.key (z.pairs.filter (fun q=>!Q0 q.1 x.1)++[x])=Xy o.key z.pairs x from rfl]at hpr;have hk:List.take (z.pairs.length+1) (z.pairs.map V.pav++[V.pav x])=z.pairs.map V.pav++[V.pav x]:=QPe (by simp);have hst:=hpu (Z7 (Xy o.key z.pairs x));rw[show(Z7 (Xy o.key z.pairs x)).av=.agg [.int .i64 12,.int .u64 0,.str [],.list [],.list ((Xy o.key z.pairs x).map V.pav),.list [],.list []]from Qc _]at hst;generalize Xg g v o (Z7 (Xy o.key z.pairs x))=w at hst ⊢;rw[Qc w]at hst;simp only[QOT,QPA,Qb,seval];refine KV (site:=117) (g:=_) (sz:=14) (n:=z.pairs.length+1) (xs:=z.pairs.map V.pav++[V.pav x]) (by simp only[Qb,seval]<;>rfl) (by simp only[Qb,seval]) (by simp) ?_;rw[hk];simp only[h6,h7,h8,m6,m7,m8,eE,seval];refine Qa hpr rfl rfl rfl (.inl rfl) ?_;simp only[eE,seval];refine Qa hst rfl rfl rfl (.inl rfl) ?_;simp only[h14,h19,m14,m19,eE,seval];refine Qa hbh rfl rfl rfl (.inl rfl) ?_;simp only[h10,h11,m10,m11,JM,xv,Qc w,C.av,eE,seval]
  ·rw[hR'];simp only[vc]at m10;simp only[XR]at m11;simp only[h10,h11,h12,m10,m11,X0,xv,Qc v,C.av,eE,seval]

end

section
variable {M K n:Nat}(hM:3000≤M)(hK:K≤1000000)(P:PL)(hP:P.ok M)(l s:Nat)(m:Qh)(hm:l<m.length){rec:Int→V→C→Rd V}(hrec:HT P M K n rec)(hro:KG P M K n rec)(g:PG)(hg:g.ops.length≤maxLen)(o:PO)(ho:OpK P g o)(h5:o.card=5)
 (c:C) (hs:Am.Qd m l s=Q1 P c) (hc:CI c) (hcn:c.left≤n) (v:V) (hvm:MW P (n+1) g v) (hvo:v.ok M) (hb:(v.cnt:Int)+3*c.left+3≤K) (hkd:(Lit.int .i64 o.kind).wf=true)

include hM hK hP hm hrec hro hg ho h5 hs hc hcn hvm hvo hb hkd in
theorem j90 :
  Qu Tryz.prog 90 [.ptr l s 0,Qp g,v.av,Qy o] m (Rt P l s m V.av (Jk P rec g v o c)):=by
 have hs0:=hs;have lp:∀o,Am.Qd (Am.put m l s o) l s=o:=fun o=>Ql hm
 have pp:∀o q,Am.put (Am.put m l s o) l s q=Am.put m l s q:=fun o q=>put_put
 have hpl:∀o,l+1<(Am.put m l s o).length+1:=fun o=>by rw[QN];omega
 have ls:=Xi v;have hcv:=Zj v;have hcb:=hc.bd;have hky:=ho.uo.key h5;have hfd:=AF v o.num (by omega);have hset:=fun x=>CY g v o x hg (by omega)
 have hol:=W2 (n:=o.num) hvo;have hoc:=WK v o.num;have hpo:((∀p∈(QL v o.num).pairs,p.1.one P o.key (-1)=0))∧(QL v o.num).pairs.Pairwise fun q p=>Q0 q.1 p.1=false:=by
  cases hf:Xq v o.num with
  |none=>
   rw[Zo (by rw[hf];simp)];exact⟨fun p hp=>(nomatch hp),.nil⟩
  |some z=>
   have h4:=W3 hvm ho.self hf;unfold FW at h4;rw[QOS (by omega),QO9 h5]at h4;rw[(Xn hf).2];exact⟨fun p hp=>(h4.1 p hp).1,h4.2⟩
 have hx0:XI P M n o (Qs o.key 0 [],Qs o.kind 0 []):=by
  refine⟨XA ?_ (by decide) (QOM _),XA hkd (by decide) (QOM _),HQ hky,fun hn e=>XB hn⟩;unfold Xo at hky;exact ZV (by omega) (by omega)
 have lpz:=JI (QL v o.num);unfold Jk;generalize QL v o.num=z at hfd hol hoc hpo lpz ⊢;rw[Qc v,Qc z]at hfd;rw[Qc v]at hset;simp only[Qp,Qy,PG.cells,PO.cells]at hset;rw[Qc v];refine k90.go (by simp) ?_;simp only[Qp,Qy,PG.cells,PO.cells,eE,seval];refine QH (C0 P c (l+1) s _ (by simp only[QOT];omega) hs0 hc) (by simp only[QPc,QPG,Qb,seval]) ?_;intro x m1 hx _;cases hr:Jd c with
 |error e=>
  rw[hr]at hx;obtain⟨he,y,c',rfl,rfl⟩:=hx;dsimp only;simp only[Qr he,QN,eE,seval];exact⟨he,v,c',by rw[Qc v],rfl⟩
 |ok p=>
 obtain⟨q,d⟩:=p;obtain⟨a1,a2⟩:=Jl hc hr;have hd:=a1.ci hc;have hl1:=a1.lt hc;have hdb:=hd.bd;rw[hr]at hx;obtain⟨rfl,rfl⟩:=hx;obtain⟨_,p2,p3⟩:=Kq hd a2;dsimp only;simp only[Q1,Kr,eE,seval];refine Qa hfd rfl rfl rfl (.inl rfl) ?_;simp only[eE,seval];refine QH (Qs0 P d (l+1) s _ (by exact lp _) q) (by simp only[QPc,QPG,Qb,seval]) ?_;rintro x m1 ⟨rfl,rfl⟩ _;cases hf:(Xq v o.num).isSome
 case false=>
  have hkk:(if (false:Bool)=true then(2:Int)else 3)=3:=rfl;rw[hkk];simp only[C.av,Q1,pp,ZA,eE,seval];refine QH (B4 P (part d q) (l+1) s _ (by exact lp _) 3) (by simp only[QPc,QPG,Qb,seval]) ?_;rintro x m1 ⟨rfl,rfl⟩ _;rcases Ze (part d q) 3 with⟨i,h2,h2'⟩|⟨e,he,h2,h2'⟩
  case inr=>
   rw[h2,h2'];dsimp only;simp only[Qr he,pp,QN,eE,seval];exact⟨he,v,_,by rw[Qc v],rfl⟩
  rw[h2,h2'];obtain⟨s1,_⟩:=XW p2 (by omega) h2;have hci:=s1.ci p2;have hls:=(s1.left p2).2.2;have hib:=hci.bd;dsimp only;simp only[Q1,pp,Kr,eE,seval];have hio:∀x j,Jg P rec o i.left.toNat (Qs o.key 0 [],Qs o.kind 0 []) false false i=.ok (x,j)→XI P M n o x:=fun x j h3=>(K3 hM ho hro h5 _ hci (by omega) (by omega) hx0 h3).2.1
  refine VA (n:=n) P hP l s m hm hrec hM hro g o ho h5 v z d _ i.left.toNat (Qs o.key 0 [],Qs o.kind 0 []) false false i _ _ ⟨(by rfl),(by rfl),(by rfl),(by rfl),(by rfl),(by rfl),(by rfl),(by rfl),(by rfl),(by rfl),(by rfl),(by rfl),(by rfl),(by rfl),(by rfl),(by rfl),(by rfl),(by rfl),(by rfl)⟩ hci (by omega) (by omega) (by omega) rfl (fun _=>rfl) (fun _=>rfl) _ (fun f fr x a b c' hf' hxa hxb hR'=>?_) (fun f fr e c' h8 m8 h9 hR' he=>?_)
  ·obtain⟨h0,h5',h6,h7,h8,h12,h14,h17,h18,h19,m5,m6,m7,m8,m12,m14,m17,m22,m145⟩:=hf';have hxi:=hio _ _ hR';rw[hR'];dsimp only;simp only[PG.cells]at m5;simp only[vc]at m6 m12;simp only[PO.cells]at m7;simp only[XG]at m8;simp only[XR]at m14;simp only[kc,QO0,QO1]at m17;simp only[Q1,h0,h14,m14,ZM,eE,seval];refine QH (C1 P c' (l+1) s _ (by exact lp _) d) (by simp only[QPc,QPG,C.av,Qb,seval]) ?_;rintro x1 m1 ⟨rfl,rfl⟩ _;simp only[h12,h17,m12,m17,pp,QPz,eE,seval];have hlz:=fun(b:Bool) (k:Int) (y:V) (h:b=false→y=Qs k 0 [])=>QQj (Zr (b:=b) (l:=y.list.map V.av) (fun e=>by rw[h e];rfl)) (QQj (Zr (b:=b) (l:=y.pairs.map V.pav) (fun e=>by rw[h e];rfl)) (QQj (Zr (b:=b) (l:=y.slots.map V.sav) (fun e=>by rw[h e];rfl)) (Zr (b:=b) (l:=y.raws.map R.av) (fun e=>by rw[h e];rfl))))
   obtain⟨p1,p2,p3,p4⟩:=hlz a _ _ hxa;obtain⟨q1,q2,q3,q4⟩:=hlz b _ _ hxb;refine QO (y:=kc a x.1++kc b x.2) (l:=[V.pav x]) (by cases a<;>cases b<;>rfl) (by cases a<;>cases b<;>rfl) (by cases a<;>cases b<;>rfl) (by simp only[kc,QO0,QO1,QPc,QPG,p1,p2,p3,p4,q1,q2,q3,q4];rw[Q4 x];rfl) ?_;refine Ya (xs:=z.pairs.map V.pav) (ys:=[V.pav x]) rfl rfl (by simp) (XQ z.pairs) (XQ [x]) (by simp[maxLen];omega) (by simp;omega) (by exact m145) ?_;have hub:∀y:V,y.ok M→y.bits<18446744073709551616:=fun y hy=>by
    have:=hy.bits;simp[Lit.wf,IntKind.min,IntKind.max,IntKind.bits,IntKind.signed]at this;omega
   have hkf:KF P o.key z.pairs:=fun p hp=>⟨hpo.1 p hp,hub _ (hol.keys p hp)⟩
   have hpr:=AG (P:=P) hky (z.pairs++[x]) (by simp;omega) (fun p hp=>by
    rcases QPX.1 hp with h|h
    ·exact(hkf p h).1
    ·rw[QQC]at h;subst h;exact hxi.one) (fun p hp=>by
    rcases QPX.1 hp with h|h
    ·exact(hkf p h).2
    ·rw[QQC]at h;subst h;exact hub _ hxi.ky)
   rw[Vw hkf ⟨hxi.one,hub _ hxi.ky⟩ hpo.2,QQq]at hpr;have hk:List.take (z.pairs.length+1) (z.pairs.map V.pav++[V.pav x])=z.pairs.map V.pav++[V.pav x]:=QPe (by simp);have hst:=hset (Z7 (Xy o.key z.pairs x));rw[show(Z7 (Xy o.key z.pairs x)).av=.agg [.int .i64 12,.int .u64 0,.str [],.list [],.list ((Xy o.key z.pairs x).map V.pav),.list [],.list []]from Qc _]at hst;generalize Xg g v o (Z7 (Xy o.key z.pairs x))=w at hst ⊢;rw[Qc w]at hst;simp only[QPz,QOT,QPA,Qb,seval];refine KV (site:=145) (g:=_) (sz:=14) (n:=z.pairs.length+1) (xs:=z.pairs.map V.pav++[V.pav x]) (by simp only[Qb,seval]<;>rfl) (by simp only[Qb,seval]) (by simp) ?_;rw[hk];simp only[h5',h6,h7,m5,m6,m7,eE,seval];refine Qa hpr rfl rfl rfl (.inl rfl) ?_;simp only[eE,seval];refine Qa hst rfl rfl rfl (.inl rfl) ?_;simp only[h8,m8,QN,eE,seval];exact⟨by rw[Qc w],rfl⟩
  ·rw[hR'];dsimp only;simp only[vc]at m8;simp only[h8,m8,h9,QN,eE,seval];exact⟨he,v,c',by rw[Qc v],rfl⟩

 case true=>
  have hkk:(if (true:Bool)=true then(2:Int)else 3)=2:=rfl;rw[hkk];simp only[C.av,Q1,pp,ZA,eE,seval];refine QH (B4 P (part d q) (l+1) s _ (by exact lp _) 2) (by simp only[QPc,QPG,Qb,seval]) ?_;rintro x m1 ⟨rfl,rfl⟩ _;rcases Ze (part d q) 2 with⟨i,h2,h2'⟩|⟨e,he,h2,h2'⟩
  case inr=>
   rw[h2,h2'];dsimp only;simp only[Qr he,pp,QN,eE,seval];exact⟨he,v,_,by rw[Qc v],rfl⟩
  rw[h2,h2'];obtain⟨s1,_⟩:=XW p2 (by omega) h2;have hci:=s1.ci p2;have hls:=(s1.left p2).2.2;have hib:=hci.bd;dsimp only;simp only[Q1,pp,Kr,eE,seval];have hio:∀x j,Jg P rec o i.left.toNat (Qs o.key 0 [],Qs o.kind 0 []) false false i=.ok (x,j)→XI P M n o x:=fun x j h3=>(K3 hM ho hro h5 _ hci (by omega) (by omega) hx0 h3).2.1
  refine VA (n:=n) P hP l s m hm hrec hM hro g o ho h5 v z d _ i.left.toNat (Qs o.key 0 [],Qs o.kind 0 []) false false i _ _ ⟨(by rfl),(by rfl),(by rfl),(by rfl),(by rfl),(by rfl),(by rfl),(by rfl),(by rfl),(by rfl),(by rfl),(by rfl),(by rfl),(by rfl),(by rfl),(by rfl),(by rfl),(by rfl),(by rfl)⟩ hci (by omega) (by omega) (by omega) rfl (fun _=>rfl) (fun _=>rfl) _ (fun f fr x a b c' hf' hxa hxb hR'=>?_) (fun f fr e c' h8 m8 h9 hR' he=>?_)
  ·obtain⟨h0,h5',h6,h7,h8,h12,h14,h17,h18,h19,m5,m6,m7,m8,m12,m14,m17,m22,m145⟩:=hf';have hxi:=hio _ _ hR';rw[hR'];dsimp only;simp only[PG.cells]at m5;simp only[vc]at m6 m12;simp only[PO.cells]at m7;simp only[XG]at m8;simp only[XR]at m14;simp only[kc,QO0,QO1]at m17;simp only[Q1,h0,h14,m14,ZM,eE,seval];refine QH (C1 P c' (l+1) s _ (by exact lp _) d) (by simp only[QPc,QPG,C.av,Qb,seval]) ?_;rintro x1 m1 ⟨rfl,rfl⟩ _;simp only[h12,h17,m12,m17,pp,QPz,eE,seval];have hlz:=fun(b:Bool) (k:Int) (y:V) (h:b=false→y=Qs k 0 [])=>QQj (Zr (b:=b) (l:=y.list.map V.av) (fun e=>by rw[h e];rfl)) (QQj (Zr (b:=b) (l:=y.pairs.map V.pav) (fun e=>by rw[h e];rfl)) (QQj (Zr (b:=b) (l:=y.slots.map V.sav) (fun e=>by rw[h e];rfl)) (Zr (b:=b) (l:=y.raws.map R.av) (fun e=>by rw[h e];rfl))))
   obtain⟨p1,p2,p3,p4⟩:=hlz a _ _ hxa;obtain⟨q1,q2,q3,q4⟩:=hlz b _ _ hxb;refine QO (y:=kc a x.1++kc b x.2) (l:=[V.pav x]) (by cases a<;>cases b<;>rfl) (by cases a<;>cases b<;>rfl) (by cases a<;>cases b<;>rfl) (by simp only[kc,QO0,QO1,QPc,QPG,p1,p2,p3,p4,q1,q2,q3,q4];rw[Q4 x];rfl) ?_;refine Ya (xs:=z.pairs.map V.pav) (ys:=[V.pav x]) rfl rfl (by simp) (XQ z.pairs) (XQ [x]) (by simp[maxLen];omega) (by simp;omega) (by exact m145) ?_;have hub:∀y:V,y.ok M→y.bits<18446744073709551616:=fun y hy=>by
    have:=hy.bits;simp[Lit.wf,IntKind.min,IntKind.max,IntKind.bits,IntKind.signed]at this;omega
   have hkf:KF P o.key z.pairs:=fun p hp=>⟨hpo.1 p hp,hub _ (hol.keys p hp)⟩
   have hpr:=AG (P:=P) hky (z.pairs++[x]) (by simp;omega) (fun p hp=>by
    rcases QPX.1 hp with h|h
    ·exact(hkf p h).1
    ·rw[QQC]at h;subst h;exact hxi.one) (fun p hp=>by
    rcases QPX.1 hp with h|h
    ·exact(hkf p h).2
    ·rw[QQC]at h;subst h;exact hub _ hxi.ky)
   rw[Vw hkf ⟨hxi.one,hub _ hxi.ky⟩ hpo.2,QQq]at hpr;have hk:List.take (z.pairs.length+1) (z.pairs.map V.pav++[V.pav x])=z.pairs.map V.pav++[V.pav x]:=QPe (by simp);have hst:=hset (Z7 (Xy o.key z.pairs x));rw[show(Z7 (Xy o.key z.pairs x)).av=.agg [.int .i64 12,.int .u64 0,.str [],.list [],.list ((Xy o.key z.pairs x).map V.pav),.list [],.list []]from Qc _]at hst;generalize Xg g v o (Z7 (Xy o.key z.pairs x))=w at hst ⊢;rw[Qc w]at hst;simp only[QPz,QOT,QPA,Qb,seval];refine KV (site:=145) (g:=_) (sz:=14) (n:=z.pairs.length+1) (xs:=z.pairs.map V.pav++[V.pav x]) (by simp only[Qb,seval]<;>rfl) (by simp only[Qb,seval]) (by simp) ?_;rw[hk];simp only[h5',h6,h7,m5,m6,m7,eE,seval];refine Qa hpr rfl rfl rfl (.inl rfl) ?_;simp only[eE,seval];refine Qa hst rfl rfl rfl (.inl rfl) ?_;simp only[h8,m8,QN,eE,seval];exact⟨by rw[Qc w],rfl⟩
  ·rw[hR'];dsimp only;simp only[vc]at m8;simp only[h8,m8,h9,QN,eE,seval];exact⟨he,v,c',by rw[Qc v],rfl⟩
end

section
variable {M K n:Nat}(hM:3000≤M)(hK:K≤1000000)(P:PL)(hP:P.ok M)(l s:Nat)(m:Qh)(hm:l<m.length){rec:Int→V→C→Rd V}(hrec:HT P M K n rec)(hro:KG P M K n rec)(g:PG)(hg:g.ops.length≤maxLen)(o:PO)(ho:OpK P g o)
 (c:C) (hs:Am.Qd m l s=Q1 P c) (hc:CI c) (hcn:c.left≤n) (v:V) (hvm:MW P (n+1) g v) (hvo:v.ok M) (hb:(v.cnt:Int)+3*c.left+3≤K) (hkd:(Lit.int .i64 o.kind).wf=true)

include hM hK hP hm hrec hro hg ho hs hc hcn hvm hvo hb hkd in
theorem j50 (wr:Int) :
  Qu Tryz.prog 50 [.ptr l s 0,Qp g,v.av,Qy o,.int .i64 wr] m (Rt P l s m V.av (J7 P rec g v o wr c)):=by
 have hcv:=Zj v;have hcb:=hc.bd;have hwo:=P1 o;have hpk:=y91 o.num o.name o.alias o.card o.key o.kind o.target o.union;have hen:=fun(fr:Nat→Ob) (h5:o.card=5)=>j90 hM hK P hP (l+1) s (fr :: m) (by simp only[QOT];omega) hrec hro g hg o ho h5 c (by exact hs) hc hcn v hvm hvo hb hkd
 have hpa:=fun(fr:Nat→Ob) (h5:o.card≠5) (h4:o.card=4)=>j92 (n:=n) hM hK P hP (l+1) s (fr :: m) (by simp only[QOT];omega) g hg o ho h5 c (by exact hs) hc v hvm hvo (by omega) h4
 have hne:=fun(fr:Nat→Ob) (h10:o.kind=10) (h5:o.card≠5)=>j94 P c (l+1) s (fr :: m) (by simp only[QOT];omega) (by exact hs) hc hrec hcn (by omega) g hg v (by omega) hK hvo o ho h10 h5 hvm
 have hon:=fun(fr:Nat→Ob)=>j95 P hP c (l+1) s (fr :: m) (by simp only[QOT];omega) (by exact hs) hc g hg v (by omega) o
 rw[Qc v]at hen hpa hne hon;simp only[Qp,Qy,oc,PG.cells,PO.cells]at hwo hpk hen hpa hne hon;unfold J7;rw[Qc v];refine k50.go (by simp) ?_;simp only[Qp,Qy,PG.cells,PO.cells,eE,seval];by_cases h5:o.card=5
 ·have b5:(o.card==5)=true:=by simp[h5]
  rw[QO9 h5];simp only[b5,Qb,seval];by_cases h6:wr=6
  case neg=>
   have b6:(wr != 6)=true:=by simp[h6]
   rw[QOS h6];simp only[b6,eE,seval];exact⟨by decide,v,c,by rw[Qc v];rfl,(put_self hm hs).symm⟩
  have b6:(wr != 6)=false:=by simp[h6]
  rw[QO9 h6];simp only[b6,eE,seval];refine QH (hen _ h5) (by simp only[QPc,QPG,Qb,seval]) ?_;intro x m1 hx _;cases hr:Jk P rec g v o c with
  |error e=>
   rw[hr]at hx;obtain⟨he,y,c',rfl,rfl⟩:=hx;simp only[Qc y,QN,eE,seval];exact⟨he,y,c',by rw[Qc y],rfl⟩
  |ok p=>
   obtain⟨w,d⟩:=p;rw[hr]at hx;obtain⟨rfl,rfl⟩:=hx;simp only[Qc w,QN,eE,seval];exact⟨by rw[Qc w],rfl⟩
 have b5:(o.card==5)=false:=by simp[h5]
 rw[QOS h5];simp only[b5,Qb,seval];by_cases hp:wr=5∧pk o.card o.kind=true
 ·obtain⟨hw5,hpk'⟩:=hp;have b6:(wr==5)=true:=by simp[hw5]
  have h4:o.card=4:=by
   unfold pk at hpk';rw[QO2,QO5]at hpk';exact hpk'.1
  rw[QO9 ⟨hw5,hpk'⟩];rw[hpk']at hpk;simp only[b6,eE,seval];refine Qa hpk rfl rfl rfl (.inl rfl) ?_;simp only[eE,seval];refine QH (hpa _ h5 h4) (by simp only[QPc,QPG,Qb,seval]) ?_;intro x m1 hx _;cases hr:Yg P g v o c with
  |error e=>
   rw[hr]at hx;obtain⟨he,y,c',rfl,rfl⟩:=hx;simp only[Qc y,QN,eE,seval];exact⟨he,y,c',by rw[Qc y],rfl⟩
  |ok p=>
   obtain⟨w,d⟩:=p;rw[hr]at hx;obtain⟨rfl,rfl⟩:=hx;simp only[Qc w,QN,eE,seval];exact⟨by rw[Qc w],rfl⟩
 rw[QOS hp];by_cases hw5:wr=5
 ·have b6:(wr==5)=true:=by simp[hw5]
  have hpf:pk o.card o.kind=false:=by
   cases h:pk o.card o.kind
   ·rfl
   ·exact absurd ⟨hw5,h⟩ hp
  rw[hpf]at hpk;simp only[b6,eE,seval];refine Qa hpk rfl rfl rfl (.inl rfl) ?_;simp only[eE,seval];refine Qa hwo rfl rfl rfl (.inl rfl) ?_;by_cases hw:wr=wk o.kind
  case neg=>
   have b7:(wr != wk o.kind)=true:=by simp[hw]
   rw[QOS hw];simp only[b7,eE,seval];exact⟨by decide,v,c,by rw[Qc v];rfl,(put_self hm hs).symm⟩
  have b7:(wr != wk o.kind)=false:=by simp[hw]
  rw[QO9 hw];simp only[b7,Kr,eE,seval];by_cases h10:o.kind=10
  ·have b10:(o.kind==10)=true:=by simp[h10]
   rw[QO9 h10];simp only[b10,eE,seval];refine QH (hne _ h10 h5) (by simp only[QPc,QPG,Qb,seval]) ?_;intro x m1 hx _;cases hr:Ju rec g v o c with
   |error e=>
    rw[hr]at hx;obtain⟨he,y,c',rfl,rfl⟩:=hx;simp only[Qc y,QN,eE,seval];exact⟨he,y,c',by rw[Qc y],rfl⟩
   |ok p=>
    obtain⟨w,d⟩:=p;rw[hr]at hx;obtain⟨rfl,rfl⟩:=hx;simp only[Qc w,QN,eE,seval];exact⟨by rw[Qc w],rfl⟩
  ·have b10:(o.kind==10)=false:=by simp[h10]
   rw[QOS h10];simp only[b10,eE,seval];refine QH (hon _) (by simp only[QPc,QPG,Qb,seval]) ?_;intro x m1 hx _;cases hr:WW P g v o c with
   |error e=>
    rw[hr]at hx;obtain⟨he,y,c',rfl,rfl⟩:=hx;simp only[Qc y,QN,eE,seval];exact⟨he,y,c',by rw[Qc y],rfl⟩
   |ok p=>
    obtain⟨w,d⟩:=p;rw[hr]at hx;obtain⟨rfl,rfl⟩:=hx;simp only[Qc w,QN,eE,seval];exact⟨by rw[Qc w],rfl⟩
 ·have b6:(wr==5)=false:=by simp[hw5]
  simp only[b6,eE,seval];refine Qa hwo rfl rfl rfl (.inl rfl) ?_;by_cases hw:wr=wk o.kind
  case neg=>
   have b7:(wr != wk o.kind)=true:=by simp[hw]
   rw[QOS hw];simp only[b7,eE,seval];exact⟨by decide,v,c,by rw[Qc v];rfl,(put_self hm hs).symm⟩
  have b7:(wr != wk o.kind)=false:=by simp[hw]
  rw[QO9 hw];simp only[b7,Kr,eE,seval];by_cases h10:o.kind=10
  ·have b10:(o.kind==10)=true:=by simp[h10]
   rw[QO9 h10];simp only[b10,eE,seval];refine QH (hne _ h10 h5) (by simp only[QPc,QPG,Qb,seval]) ?_;intro x m1 hx _;cases hr:Ju rec g v o c with
   |error e=>
    rw[hr]at hx;obtain⟨he,y,c',rfl,rfl⟩:=hx;simp only[Qc y,QN,eE,seval];exact⟨he,y,c',by rw[Qc y],rfl⟩
   |ok p=>
    obtain⟨w,d⟩:=p;rw[hr]at hx;obtain⟨rfl,rfl⟩:=hx;simp only[Qc w,QN,eE,seval];exact⟨by rw[Qc w],rfl⟩
  ·have b10:(o.kind==10)=false:=by simp[h10]
   rw[QOS h10];simp only[b10,eE,seval];refine QH (hon _) (by simp only[QPc,QPG,Qb,seval]) ?_;intro x m1 hx _;cases hr:WW P g v o c with
   |error e=>
    rw[hr]at hx;obtain⟨he,y,c',rfl,rfl⟩:=hx;simp only[Qc y,QN,eE,seval];exact⟨he,y,c',by rw[Qc y],rfl⟩
   |ok p=>
    obtain⟨w,d⟩:=p;rw[hr]at hx;obtain⟨rfl,rfl⟩:=hx;simp only[Qc w,QN,eE,seval];exact⟨by rw[Qc w],rfl⟩

end
end Go.Proofs.YtfgchfdkiomfpaaGreat.Va

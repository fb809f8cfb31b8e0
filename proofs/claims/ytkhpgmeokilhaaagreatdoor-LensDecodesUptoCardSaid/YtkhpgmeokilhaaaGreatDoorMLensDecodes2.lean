/- Parts of the proof, in order. -/
import Derived.Test.YtkhpgmeokilhaaaGreatDoorRows
import Derived.Test.YtkhpgmeokilhaaaGreatDoorProg
import Derived.Lib.IndexLaws
import Derived.Test.YtkhpgmeokilhaaaGreatDoorMLensDecodes1

namespace Go.Proofs.YtkhpgmeokilhaaaGreatDoor.Br
open Go Am Go.RowKit Go.WideShapes Go.ChangeShapes Go.ChangeAt Go.Joins Go.Deep Go.WideElems Go.Maps

def XS:List AV→AV
 | [x]=>x
 |l=>.agg l

def FD (P:Program):Nat→List Field→Nat→Bool
 |o,[],n=>Nat.beq o n
 |o,f :: fs,n=>Nat.beq f.offset o&&FD P (o+P.cellsOf f.type) fs n

def Ti (P:Program)(ts:List TypeId)(t:TypeId):Bool :=
 match P.underlying t with
 |some (.int _)|some .bool|some .string=>P.cellsOf t==1
 |some (.struct fs)=>FD P 0 fs.toList (P.cellsOf t)&&fs.toList.all fun f=>ts.contains f.type
 |some (.slice e)=>P.cellsOf t==1&&(decide (0<P.cellsOf e)&&decide (0<P.bytesOf e))&&ts.contains e
 |_=>false
def VT (P:Program)(ts:List TypeId):Bool:=ts.all (Ti P ts)

def Xh (P:Program)(M:Nat):Nat→TypeId→List AV→Prop
 |0,_,_=>False
 |k+1,t,cs=>match P.underlying t with
  |some (.int ik)=>∃n,cs=[.int ik n]∧(Lit.int ik n).wf=true
  |some .bool=>∃b,cs=[.bool b]
  |some .string=>∃s,cs=[.str s]∧s.length≤M
  |some (.struct fs)=>HasL (Xh P M k) fs.toList cs
  |some (.slice e)=>∃l:List (List AV),cs=[.list (l.map XS)]∧(l.length≤maxLen∧(M=reachBytes→l.length*P.bytesOf e≤M))∧(∀c∈l,Xh P M k e c)∧l.length≤M
  |_=>False
where
 HasL (h:TypeId→List AV→Prop):List Field→List AV→Prop
  | [],cs=>cs=[]
  |f :: fs,cs=>∃a b,cs=a++b∧h f.type a∧HasL h fs b

theorem Dd {l:List AV}(h:l.all AV.leaf=true):(XS l).cells=l:=by
 match l,h with
 | [],_=>rfl
 | [x],h=>cases x<;>first|rfl|simp[AV.leaf]at h
 |_ :: _ :: _,_=>rfl

mutual
def wt:AV→Nat
 |.list l=>1+Kd l
 |.agg l=>Kd l
 |_=>1
def Kd:List AV→Nat
 | []=>0
 |x :: l=>wt x+Kd l
end
theorem MS (a b:List AV):Kd (a++b)=Kd a+Kd b:=by
 induction a with
 |nil=>simp[Kd]
 |cons x a ih=>simp only[QmR,Kd,ih];omega
theorem AO:∀l:List AV,wt (XS l)=Kd l
 | []=>by simp[XS,wt]
 | [x]=>by simp[XS,Kd]
 |_ :: _ :: _=>by simp[XS,wt]

theorem HT {G:Gh}:∀ {ls:List (List AV)} {cs:List (List Value)},ls.length=cs.length→(∀i (h1:i<ls.length) (h2:i<cs.length),RepL G ls[i] cs[i])→RepL G ls.flatten cs.flatten
 | [],[],_,_=>.nil
 |l :: ls,c :: cs,hn,h=>by
  rw[List.flatten_cons,List.flatten_cons];exact RepL.append (h 0 (by simp) (by simp)) (HT (by simpa using hn) fun i h1 h2=>h (i+1) (by simpa using h1) (by simpa using h2))
 | [],_ :: _,hn,_=>by simp at hn
 |_ :: _,[],hn,_=>by simp at hn

section
variable {H:Type}{enc:TypeId×Value→H}{P:Program}{W:World}{M:Nat}

theorem DB {d:DataW H}:∀ {l:List (DataW H)},d∈l→Rows.uptoBulk d≤Rows.uptoBulkAll l
 | [],h=>by cases h
 |x :: l,h=>by
  rw[Rows.uptoBulkAll];rcases QnS.1 h with rfl|h
  ·omega
  ·have:=DB h;omega

theorem AP (d:DataW H):1≤Rows.uptoBulk d:=by unfold Rows.uptoBulk;split<;>omega
theorem FE {x:AV}(h:wt x=1)(d:DataW H):Kd [x]≤Rows.uptoBulk d:=by
 have:=AP d;rw[Kd,Kd,h];exact this
theorem AQ (a b:List (DataW H)):Rows.uptoBulkAll (a++b)=Rows.uptoBulkAll a+Rows.uptoBulkAll b:=by
 induction a with
 |nil=>simp[Rows.uptoBulkAll]
 |cons x a ih=>simp only[QmR,Rows.uptoBulkAll,ih];omega
theorem VU (F:Nat→List AV)(xs:List (DataW H))(h:∀i d,xs[i]? = some d→Kd (F i)≤Rows.uptoBulk d):∀n,n≤xs.length→Kd (((List.range n).map F).map XS)≤Rows.uptoBulkAll (xs.take n)
 |0,_=>QmE _
 |n+1,hn=>by
  have hx:xs[n]? = some xs[n]:=Qmv (by omega);have:=VU F xs h n (by omega);have h1:=h n _ hx;rw[List.range_succ,Qoj,Qoj,MS,Qok,hx,AQ];simp only[Qm3,Qnx,Kd,AO,Option.toList_some,Rows.uptoBulkAll];omega

def Tj (P:Program)(M:Nat)(t:TypeId)(d:DataW H):Prop:=M=maxLen∨(M≠reachBytes∧Rows.uptoBulk d≤M)∨(d.weights P t).all (·≤M)=true

theorem FF {t:TypeId}{d:DataW H}:∀ {ts:List TypeId} {ds:List (DataW H)} (i:Nat),(DataW.weightsEach P ts ds).all (·≤M)=true→ts[i]? = some t→ds[i]? = some d→(d.weights P t).all (·≤M)=true
 | [],_,_,_,h,_=>by simp at h
 |_ :: _,[],_,_,_,h=>by simp at h
 |t' :: ts,d' :: ds,0,h,h1,h2=>by
  rw[DataW.weightsEach,QnO,QmT]at h;cases h1;cases h2;exact h.1
 |t' :: ts,d' :: ds,i+1,h,h1,h2=>by
  rw[DataW.weightsEach,QnO,QmT]at h;exact FF i h.2 (by simpa using h1) (by simpa using h2)

theorem Uz {e:TypeId}{d:DataW H}:∀ {ds:List (DataW H)},(DataW.weightsAll P e ds).all (·≤M)=true→d∈ds→(d.weights P e).all (·≤M)=true
 | [],_,h=>by cases h
 |d' :: ds,h,hd=>by
  rw[DataW.weightsAll,QnO,QmT]at h;rcases QnS.1 hd with rfl|hd
  ·exact h.1
  ·exact Uz h.2 hd

def Opn (W:World)(hL:HC W)(h:List AV→Prop)(B n:Nat)(cs:List Value):Prop :=
 ∃avs,h avs∧RepL (Gh.world W hL) avs cs∧avs.length=n∧AV.rfL avs=true∧avs.all AV.leaf=true∧Kd avs≤B

theorem De (hL:HC W){h:TypeId→List AV→Prop}{cs:List Value}:∀(fs:List Field) (ds:List (DataW H)) (o:Nat),FD P o fs cs.length=true→fs.length=ds.length→(∀(i:Nat) (f:Field) (d:DataW H),fs[i]? = some f→ds[i]? = some d→Opn W hL (h f.type) (Rows.uptoBulk d) (P.cellsOf f.type) ((cs.drop f.offset).take (P.cellsOf f.type)))→
  Opn W hL (Xh.HasL h fs) (Rows.uptoBulkAll ds) (cs.length-o) (cs.drop o)
 | [],_,o,hc,_,_=>by
  have e:o=cs.length:=Qmq hc;refine⟨[],rfl,?_,by simp[e],rfl,rfl,QmE _⟩;rw[e,List.drop_length];exact .nil
 |_ :: _,[],_,_,hl,_=>by simp at hl
 |f :: fs,d :: ds,o,hc,hl,hf=>by
  simp only[FD,QmT]at hc;have eo:f.offset=o:=Qmq hc.1;obtain⟨a,a1,a2,a3,a4,a5,a6⟩:=hf 0 f d rfl rfl;obtain⟨b,b1,b2,b3,b4,b5,b6⟩:=De hL fs ds _ hc.2 (by simpa using hl) fun i g d hg hd=>hf (i+1) g d (by simpa using hg) (by simpa using hd)
  rw[eo]at a2;refine⟨a++b,⟨a,b,rfl,a1,b1⟩,?_,?_,by rw[J4,a4,b4]<;>rfl,by rw[QnO,a5,b5]<;>rfl,by rw[MS,Rows.uptoBulkAll];omega⟩
  ·have:=RepL.append a2 b2
   rwa [←Qm0,QnN]at this
  ·have hlen:a.length=((cs.drop o).take (P.cellsOf f.type)).length:=(RepL.length a2).symm;rw[Qm9,a3,b3];rw[a3,Qns,Qnc]at hlen;omega

theorem Y6 (hL:HC W){ts:List TypeId}(hP:VT P ts=true):∀(k:Nat) (t:TypeId) (cs:List Value) (d:DataW H) (pl:List MemPlace),ts.contains t=true→DataW.trod enc P W 0 (fun _=>true) true k t cs=some (d,pl)→Tj P M t d→
  Opn W hL (Xh P M k t) (Rows.uptoBulk d) (P.cellsOf t) cs
 |0,_,_,_,_,_,h,_=>by simp[DataW.trod]at h
 |k+1,t,cs,d,pl,ht,h,hb=>by
  have hp:=QmI.1 hP t (by simpa using ht);unfold Ti at hp;split at hp
  ·rename_i ik hu;obtain⟨v,rfl,_,hw⟩:=DataW.trod_int hu h;refine⟨[.int ik v],?_,.cons (.int ik v) .nil,by rw[QmA]at hp;simp[hp],rfl,rfl,FE rfl _⟩;simp only[Xh,hu];exact⟨v,rfl,hw⟩
  ·rename_i hu;obtain⟨b,rfl,_⟩:=DataW.trod_bool hu h;refine⟨[.bool b],?_,.cons (.bool b) .nil,by rw[QmA]at hp;simp[hp],rfl,rfl,FE rfl _⟩;simp only[Xh,hu];exact⟨b,rfl⟩
  ·rename_i hu;obtain⟨⟨⟨s⟩⟩,rfl,e,hw⟩:=DataW.trod_string hu h;have hw:s.length≤M:=by
    cases e;rcases hb with rfl|hb|hb
    ·exact hw
    ·replace hb:=hb.2;rw[Rows.uptoBulk]at hb;exact Qmt (Nat.le_succ _) hb
    ·rw[DataW.weights]at hb
     simpa using hb
   refine⟨[.str s],?_,.cons (.str s) .nil,by rw[QmA]at hp;simp[hp],rfl,rfl,FE rfl _⟩;simp only[Xh,hu];exact⟨s,rfl,hw⟩
  ·rename_i fs hu;simp only[QmT,QmI]at hp;obtain⟨xs,n',hk,e,hlen,hxl,hx⟩:=DataW.trod_struct hu h;obtain rfl:k=n':=by omega
   have hbx:∀(i:Nat) x (f:Field),xs[i]? = some x→fs[i]? = some f→Tj P M f.type x.1:=fun i x f hx hf=>by
    cases e;refine hb.imp id fun hb=>hb.imp (fun hb=>⟨hb.1,?_⟩) fun hb=>?_
    ·replace hb:=hb.2;rw[Rows.uptoBulk]at hb;have:=DB (l:=xs.map (·.1)) (QnQ.2 ⟨x,QmJ hx,rfl⟩);omega
    ·rw[DataW.weights,hu]at hb;exact FF i hb (by simp[hf]) (by simp[hx])
   have:=De hL (W:=W) (h:=Xh P M k) (cs:=cs) fs.toList (xs.map (·.1)) 0 (by rw[hlen];exact hp.1) (by simp[hxl]) (fun i f d hi hd=>by
    have hi':fs[i]? = some f:=by simpa using hi
    have hf:f∈fs.toList:=QmJ hi;obtain⟨x,hxi,rfl⟩:∃x,xs[i]? = some x∧x.1=d:=by
     rw[QnT]at hd;obtain⟨x,h1,h2⟩:=Qmx.1 hd;exact⟨x,h1,h2⟩
    have h2:=hx i f hi';rw[hxi]at h2;exact Y6 hL hP k f.type _ _ _ (hp.2 f hf) h2 (hbx i _ f hxi hi'))
   rw[Qnd,Qnu,hlen]at this;obtain⟨avs,h1,h2,h3,h4,h5,h6⟩:=this;refine⟨avs,?_,h2,h3,h4,h5,by cases e;rw[Rows.uptoBulk];omega⟩;simp only[Xh,hu];exact h1
  ·rename_i e hu;simp only[QmT,Qmz,QmA]at hp;obtain⟨⟨h1,h0,hby⟩,hpe⟩:=hp;rcases DataW.trod_slice hu h with⟨rfl,_⟩|⟨a,len,cap,elems,rest,n',hk,rfl,e0,_,hl,hm,hln0,hel,_⟩
   ·refine⟨[.list []],?_,.cons (.list (cs:=[]) (sz:=0) .nil (by simp) rfl rfl (by simp) rfl (QmE _) (QmE _)) .nil,by simp[h1],rfl,rfl,FE rfl _⟩;simp only[Xh,hu];exact⟨[],rfl,⟨QmE _,fun _=>by simp⟩,by simp,QmE _⟩
   ·obtain rfl:k=n':=by omega
    have hbx:∀x∈elems,Tj P M e x.1:=fun x hx=>by
     cases e0;refine hb.imp id fun hb=>hb.imp (fun hb=>⟨hb.1,?_⟩) fun hb=>?_
     ·replace hb:=hb.2;rw[Rows.uptoBulk]at hb;have:=DB (l:=elems.map (·.1)) (QnQ.2 ⟨x,hx,rfl⟩);omega
     ·rw[DataW.weights,hu,QnI,QnO,QmT,QmT]at hb;exact Uz hb.2.1 (QnQ.2 ⟨x,hx,rfl⟩)
    have hlenM:len≤M:=by
     cases e0;rcases hb with rfl|hb|hb
     ·omega
     ·have key:∀l:List (DataW H),l.length≤Rows.uptoBulkAll l:=by
       intro l
       induction l with
       |nil=>simp
       |cons x l ih=>
        have:1≤Rows.uptoBulk x:=by unfold Rows.uptoBulk;split<;>omega
        rw[Rows.uptoBulkAll,QmK];omega
      replace hb:=hb.2;rw[Rows.uptoBulk]at hb;have:=key (elems.map (·.1));rw[Qnq]at this;omega
     ·rw[DataW.weights,hu,QnI,QmT]at hb;have h5:=hb.1;simp only[Qmz,Qnq]at h5;have h6:elems.length*1≤(elems.length+rest.length)*P.bytesOf e:=Nat.mul_le_mul (Nat.le_add_right _ _) hby;omega
    have hlenB:M=reachBytes→len*P.bytesOf e≤M:=fun hM=>by
     cases e0;rcases hb with rfl|hb|hb
     ·exact absurd hM (by unfold maxLen reachBytes;omega)
     ·exact absurd hM hb.1
     ·rw[DataW.weights,hu,QnI,QmT]at hb;have h5:=hb.1;simp only[Qmz,Qnq]at h5;have h6:elems.length*P.bytesOf e≤(elems.length+rest.length)*P.bytesOf e:=Nat.mul_le_mul (Nat.le_add_right _ _) (Qms _);have h7:len*P.bytesOf e=elems.length*P.bytesOf e:=by rw[show len=elems.length by omega]
      omega
    haveI:Inhabited ({c:List Value // c.length=P.cellsOf e}×List AV):=⟨(⟨List.replicate (P.cellsOf e) (.bool false),by simp⟩,[])⟩
    obtain⟨F,hF⟩:=choose_lt (α:={c:List Value // c.length=P.cellsOf e}×List AV) (n:=len) (p:=fun i x=>W.cells? 0 (a.add (i*P.cellsOf e)) (P.cellsOf e)=some x.1.1∧Xh P M k e x.2∧RepL (Gh.world W hL) x.2 x.1.1∧x.2.length=P.cellsOf e∧AV.rfL x.2=true∧x.2.all AV.leaf=true∧∀d,elems[i]? = some d→Kd x.2≤Rows.uptoBulk d.1) (fun i hi=>by
     have hb:=hel i hi;rw[Qmv (by omega)]at hb;obtain⟨cs',c1,c2⟩:=Option.bind_eq_some_iff.1 hb;obtain⟨_,hln,_⟩:=World.cells?_some c1;obtain⟨avs,o1,o2,o3,o4,o5,o6⟩:=Y6 hL hP k e cs' _ _ hpe c2 (hbx _ (Qnn _));exact⟨(⟨cs',hln⟩,avs),c1,o1,o2,o3,o4,o5,fun d hd=>by
      rw[Qmv (by omega)]at hd;cases hd;exact o6⟩)
    have cellAt:∀i j,i<len→j<P.cellsOf e→W.cell? (a.add (i*P.cellsOf e+j))=(F i).1.1[j]?:=by
     intro i j hi hj;obtain⟨_,_,h3⟩:=World.cells?_some (hF i hi).1;rw[←h3 j hj,add_add]
    have hspot:0<len→a.spot=none:=by
     intro hc;have:=cellAt 0 0 hc h0;rw[Nat.zero_mul,show a.add (0+0)=a from rfl,Qmv (by rw[(F 0).1.2];exact h0)]at this;unfold World.cell? at this;split at this
     ·split at this
      ·cases this
      ·rename_i h;simpa using h
     ·cases this
    have hel':∀c∈(List.range len).map (fun i=>(F i).2),∃i,i<len∧c=(F i).2:=by
     intro c hc;obtain⟨i,hi,rfl⟩:=QnQ.1 hc;exact⟨i,Qn4.1 hi,rfl⟩
    have hflat:∀L:List (List AV),(∀c∈L,c.all AV.leaf=true)→QK (L.map XS)=L.flatten:=by
     intro L
     induction L with
     |nil=>intro _;rfl
     |cons c L ih=>
      intro hh;show(XS c).cells++QK (L.map XS)=c++L.flatten;rw[Dd (hh c (by simp)),ih fun x hx=>hh x (by simp[hx])]
    have hrf:∀L:List (List AV),(∀c∈L,AV.rfL c=true)→AV.rfL L.flatten=true:=by
     intro L
     induction L with
     |nil=>intro _;rfl
     |cons c L ih=>
      intro hh;rw[List.flatten_cons,J4,hh c (by simp),ih fun x hx=>hh x (by simp[hx])]<;>rfl
    have hlf:∀L:List (List AV),(∀c∈L,c.all AV.leaf=true)→L.flatten.all AV.leaf=true:=by
     intro L
     induction L with
     |nil=>intro _;rfl
     |cons c L ih=>
      intro hh;rw[List.flatten_cons,QnO,hh c (by simp),ih fun x hx=>hh x (by simp[hx])]<;>rfl
    have hl1:∀c∈(List.range len).map (fun i=>(F i).2),c.all AV.leaf=true:=fun c hc=>by
     obtain⟨i,hi,rfl⟩:=hel' c hc;exact(hF i hi).2.2.2.2.2.1
    have hl2:∀c∈(List.range len).map (fun i=>(F i).2),AV.rfL c=true:=fun c hc=>by
     obtain⟨i,hi,rfl⟩:=hel' c hc;exact(hF i hi).2.2.2.2.1
    have hwt:Kd [.list (((List.range len).map fun i=>(F i).2).map XS)]≤Rows.uptoBulk d:=by
     cases e0;have hw:=fun n hn=>VU (fun i=>if i<len then(F i).2 else []) (elems.map (·.1)) (fun i d hd=>by
      rw[QnT]at hd;obtain⟨x,h1,rfl⟩:=Qmx.1 hd;by_cases hi:i<len
      ·rw[QmD hi];exact(hF i hi).2.2.2.2.2.2 x h1
      ·rw[QmC hi];exact QmE _) n hn
     have h1:=hw len (by rw[Qnq];omega);rw[Qm5 (by rw[Qnq];omega)]at h1;have h2:(List.range len).map (fun i=>if i<len then(F i).2 else [])=(List.range len).map fun i=>(F i).2:=by
      refine Qol fun i hi=>?_
      rw[QmD (Qn4.1 hi)]
     rw[h2]at h1;rw[Kd,Kd,wt,Rows.uptoBulk];omega
    refine⟨[.list (((List.range len).map fun i=>(F i).2).map XS)],?_,.cons (.list (cs:=((List.range len).map fun i=>(F i).1.1).flatten) (sz:=P.cellsOf e) ?_ ?_ ?_ ?_ ?_ (by simp) hl (by omega)) .nil,by simp[h1],rfl,rfl,hwt⟩
    ·simp only[Xh,hu];refine⟨_,rfl,⟨by simp;omega,fun hM=>by simpa using hlenB hM⟩,?_,by simpa using hlenM⟩;intro c hc;obtain⟨i,hi,rfl⟩:=hel' c hc;exact(hF i hi).2.1
    ·rw[hflat _ hl1];refine HT (by simp) fun i g1 g2=>?_
     simp only[Qnq,List.length_range]at g1;simp only[List.getElem_map,List.getElem_range];exact(hF i (by omega)).2.2.1
    ·intro x hx;obtain⟨c,hc,rfl⟩:=QnQ.1 hx;rw[Dd (hl1 c hc)];obtain⟨i,hi,rfl⟩:=hel' c hc;exact(hF i hi).2.2.2.1
    ·rw[hflat _ hl1];exact hrf _ hl2
    ·rw[hflat _ hl1];exact hlf _ hl1
    ·intro j u hj;rw[←List.flatMap_def,Dc h0 (fun i=>(F i).1.2)]at hj;by_cases hi:j / P.cellsOf e<len
     ·rw[List.getElem?_range hi]at hj;have hj:(F (j / P.cellsOf e)).1.1[j % P.cellsOf e]? = some u:=hj;have hk:=cellAt (j / P.cellsOf e) (j % P.cellsOf e) (by omega) (Nat.mod_lt _ h0);rw[hj,Nat.div_add_mod']at hk;have hs:=hspot (Nat.lt_of_le_of_lt (QmE _) hi);obtain⟨b,o,s⟩:=a;subst hs;refine⟨b,o,rfl,?_⟩;refine Gz ?_;show W.cell? ⟨b,o+j,none⟩=some u;rw[←hk];unfold Addr.add;split
      ·rename_i h;rw[h];rfl
      ·rfl
     ·rw[QnU (by simp;omega)]at hj;cases hj
  ·cases hp

theorem U5 {t:TypeId}{v:Value}{d:DataW H}{p:List MemPlace}(hl:laidOutB P=true)(hr:P.readableRec t=true)(hrow:t<P.types.size)(h:DataW.Trod enc P W 0 (fun _=>true) true t v d p) :
  ∀(W':World) (sp:Nat→Bool),Below W.heap.size W W'→(∀q∈p,sp q.block=true)→DataW.Trod enc P W' 0 sp true t v d p:=by
 intro W' sp hb hs;obtain⟨n,hn⟩:=h;exact Trod_stays hl hr hrow ⟨n,hn⟩ (fun x hx=>hb.same (DataW.trod_lt n _ _ _ hn x hx)) hs

theorem Df (hL:HC W){t:TypeId}{fs:Array Field}{ts:List TypeId}{r:Reach}{b0:Nat}{v:Value}{d:DataW H}{p:List MemPlace}(hP:VT P ts=true)(ht:ts.contains t=true)(hs:P.underlying t=some (.struct fs))(hv:Value.okWide P W r b0 t v)
  (h:DataW.Trod enc P W 0 (fun _=>true) true t v d p) (hb:Tj P M t d):∃k avs,Xh P M k t avs∧Rep (Gh.world W hL) (.agg avs) v:=by
 obtain⟨⟨cs⟩,rfl,_⟩:=okWide_struct hs hv;obtain⟨n,hn⟩:=h;obtain⟨avs,h1,h2,_⟩:=Y6 hL hP n t _ _ _ ht hn hb;exact⟨n,avs,h1,.agg h2⟩
theorem NV (hL:HC W){t:TypeId}{fs:Array Field}{ts:List TypeId}{r:Reach}{b0:Nat}{v:Value}{d:DataW H}{p:List MemPlace}(hP:VT P ts=true)(ht:ts.contains t=true)(hs:P.underlying t=some (.struct fs))(hv:Value.okWide P W r b0 t v)
  (h:DataW.Trod enc P W 0 (fun _=>true) true t v d p) (hb:Tj P M t d):∃k avs,Xh P M k t avs∧Rep (Gh.world W hL) (.agg avs) v∧Kd avs≤Rows.uptoBulk d:=by
 obtain⟨⟨cs⟩,rfl,_⟩:=okWide_struct hs hv;obtain⟨n,hn⟩:=h;obtain⟨avs,h1,h2,_,_,_,h6⟩:=Y6 hL hP n t _ _ _ ht hn hb;exact⟨n,avs,h1,.agg h2,h6⟩

theorem ZY {X:Type}{f:X→List AV}{ok:X→Prop}:∀ {l:List (List AV)},(∀c∈l,∃x,ok x∧c=f x)→∃xs:List X,l=xs.map f∧∀x∈xs,ok x
 | [],_=>⟨[],rfl,by simp⟩
 |c :: l,h=>by
  obtain⟨x,hx,rfl⟩:=h c (by simp);obtain⟨xs,rfl,hxs⟩:=ZY (l:=l) fun c hc=>h c (by simp[hc])
  exact⟨x :: xs,rfl,by simpa using ⟨hx,hxs⟩⟩

end

end Go.Proofs.YtkhpgmeokilhaaaGreatDoor.Br

namespace Go.Proofs.YtkhpgmeokilhaaaGreatDoor.Br
open Go Am

section
variable {P:Program}{M k:Nat}{t:TypeId}{cs:List AV}

theorem XU {ik:IntKind}(hu:P.underlying t=some (.int ik))(h:Xh P M k t cs):∃n,cs=[.int ik n]∧(Lit.int ik n).wf=true:=by
 cases k with
 |zero=>cases h
 |succ k=>simpa only [Xh,hu]using h

theorem AR (hu:P.underlying t=some .bool)(h:Xh P M k t cs):∃b,cs=[.bool b]:=by
 cases k with
 |zero=>cases h
 |succ k=>simpa only [Xh,hu]using h

theorem J7 (hu:P.underlying t=some .string)(h:Xh P M k t cs):∃s,cs=[.str s]∧s.length≤M:=by
 cases k with
 |zero=>cases h
 |succ k=>simpa only [Xh,hu]using h

theorem JS {e:TypeId}(hu:P.underlying t=some (.slice e))(h:Xh P M k t cs):∃(k':Nat) (l:List (List AV)),cs=[.list (l.map XS)]∧l.length≤maxLen∧∀c∈l,Xh P M k' e c:=by
 cases k with
 |zero=>cases h
 |succ k=>
  simp only[Xh,hu]at h;obtain⟨l,h1,h2,h3,_⟩:=h;exact⟨k,l,h1,h2.1,h3⟩

theorem Yl {e:TypeId}(hu:P.underlying t=some (.slice e))(h:Xh P M k t cs):∃(k':Nat) (l:List (List AV)),cs=[.list (l.map XS)]∧l.length≤M∧∀c∈l,Xh P M k' e c:=by
 cases k with
 |zero=>cases h
 |succ k=>
  simp only[Xh,hu]at h;obtain⟨l,h1,_,h3,h4⟩:=h;exact⟨k,l,h1,h4,h3⟩

theorem ZF {fs:Array Field}(hu:P.underlying t=some (.struct fs))(h:Xh P M k t cs):∃k',Xh.HasL (Xh P M k') fs.toList cs:=by
 cases k with
 |zero=>cases h
 |succ k=>
  simp only[Xh,hu]at h;exact⟨k,h⟩

end

structure PO where
 num:Int
 name:List UInt8
 alias:List UInt8
 card:Int
 key:Int
 kind:Int
 target:Int
 union:Int

def PO.cells (o:PO):List AV:=[.int .i64 o.num,.str o.name,.str o.alias,.int .i64 o.card,.int .i64 o.key,.int .i64 o.kind,.int .i64 o.target,.int .i64 o.union]

structure PO.ok (M:Nat)(o:PO):Prop where
 num:(Lit.int .i64 o.num).wf=true
 name:o.name.length≤M
 alias:o.alias.length≤M
 card:(Lit.int .i64 o.card).wf=true
 key:(Lit.int .i64 o.key).wf=true
 kind:(Lit.int .i64 o.kind).wf=true
 target:(Lit.int .i64 o.target).wf=true
 union:(Lit.int .i64 o.union).wf=true

theorem QdG {M k:Nat}{cs:List AV}(h:Xh Tryz.prog M k 74 cs):∃o:PO,o.ok M∧cs=o.cells:=by
 obtain⟨k,h⟩:=ZF Tryz.underlying74 h;simp only[Xh.HasL]at h;obtain⟨_,_,rfl,h0,_,_,rfl,h1,_,_,rfl,h2,_,_,rfl,h3,_,_,rfl,h4,_,_,rfl,h5,_,_,rfl,h6,_,_,rfl,h7,rfl⟩:=h;obtain⟨a0,rfl,w0⟩:=XU Tryz.underlying3 h0;obtain⟨a1,rfl,w1⟩:=J7 Tryz.underlying9 h1;obtain⟨a2,rfl,w2⟩:=J7 Tryz.underlying9 h2;obtain⟨a3,rfl,w3⟩:=XU Tryz.underlying3 h3;obtain⟨a4,rfl,w4⟩:=XU Tryz.underlying3 h4;obtain⟨a5,rfl,w5⟩:=XU Tryz.underlying3 h5;obtain⟨a6,rfl,w6⟩:=XU Tryz.underlying3 h6;obtain⟨a7,rfl,w7⟩:=XU Tryz.underlying3 h7;exact⟨⟨a0,a1,a2,a3,a4,a5,a6,a7⟩,⟨w0,w1,w2,w3,w4,w5,w6,w7⟩,rfl⟩

structure PG where
 name:List UInt8
 ops:List PO
 unions:Int

def PG.cells (g:PG):List AV:=[.str g.name,.list (g.ops.map fun o=>.agg o.cells),.int .i64 g.unions]

structure PG.ok (M:Nat)(g:PG):Prop where
 name:g.name.length≤M
 len:g.ops.length≤maxLen
 ops:∀o∈g.ops,o.ok M
 unions:(Lit.int .i64 g.unions).wf=true

theorem AS {M k:Nat}{cs:List AV}(h:Xh Tryz.prog M k 61 cs):∃g:PG,g.ok M∧cs=g.cells:=by
 obtain⟨k,h⟩:=ZF Tryz.underlying61 h;simp only[Xh.HasL]at h;obtain⟨_,_,rfl,h0,_,_,rfl,h1,_,_,rfl,h2,rfl⟩:=h;obtain⟨a0,rfl,w0⟩:=J7 Tryz.underlying9 h0;obtain⟨k',l,rfl,w1,hl⟩:=JS Tryz.underlying59 h1;obtain⟨a2,rfl,w2⟩:=XU Tryz.underlying3 h2;obtain⟨ops,rfl,hok⟩:=ZY (f:=PO.cells) (ok:=PO.ok M) fun c hc=>QdG (hl c hc)
 refine⟨⟨a0,ops,a2⟩,⟨w0,by simpa using w1,hok,w2⟩,?_⟩;simp only[PG.cells,Qom,QmR,QmS];rfl

structure PS where
 lo:Int
 hi:Int

def PS.cells (x:PS):List AV:=[.int .i64 x.lo,.int .i64 x.hi]
def PS.ok (x:PS):Prop:=(Lit.int .i64 x.lo).wf=true∧(Lit.int .i64 x.hi).wf=true

theorem AT {M k:Nat}{cs:List AV}(h:Xh Tryz.prog M k 121 cs):∃x:PS,x.ok∧cs=x.cells:=by
 obtain⟨k,h⟩:=ZF Tryz.underlying121 h;simp only[Xh.HasL]at h;obtain⟨_,_,rfl,h0,_,_,rfl,h1,rfl⟩:=h;obtain⟨a0,rfl,w0⟩:=XU Tryz.underlying3 h0;obtain⟨a1,rfl,w1⟩:=XU Tryz.underlying3 h1;exact⟨⟨a0,a1⟩,⟨w0,w1⟩,rfl⟩

structure PN where
 name:List UInt8
 val:List AV

def PN.cells (x:PN):List AV:=.str x.name :: x.val
def PN.ok (P:Program)(M:Nat)(t:TypeId)(x:PN):Prop:=x.name.length≤M∧∃k,Xh P M k t x.val

theorem VV {M k:Nat}{cs:List AV}(h:Xh Tryz.prog M k 123 cs):∃x:PN,x.ok Tryz.prog M 32∧cs=x.cells:=by
 obtain⟨k,h⟩:=ZF Tryz.underlying123 h;simp only[Xh.HasL]at h;obtain⟨_,_,rfl,h0,a1,_,rfl,h1,rfl⟩:=h;obtain⟨a0,rfl,w0⟩:=J7 Tryz.underlying9 h0;exact⟨⟨a0,a1⟩,⟨w0,k,h1⟩,by simp[PN.cells]⟩

structure PI where
 name:List UInt8
 num:Int
 notes:List PN

def PI.cells (x:PI):List AV:=[.str x.name,.int .i64 x.num,.list (x.notes.map fun n=>XS n.cells)]

structure PI.ok (M:Nat)(x:PI):Prop where
 name:x.name.length≤M
 num:(Lit.int .i64 x.num).wf=true
 len:x.notes.length≤maxLen
 notes:∀n∈x.notes,n.ok Tryz.prog M 32

theorem AU {M k:Nat}{cs:List AV}(h:Xh Tryz.prog M k 118 cs):∃x:PI,x.ok M∧cs=x.cells:=by
 obtain⟨k,h⟩:=ZF Tryz.underlying118 h;simp only[Xh.HasL]at h;obtain⟨_,_,rfl,h0,_,_,rfl,h1,_,_,rfl,h2,rfl⟩:=h;obtain⟨a0,rfl,w0⟩:=J7 Tryz.underlying9 h0;obtain⟨a1,rfl,w1⟩:=XU Tryz.underlying3 h1;obtain⟨k',l,rfl,w2,hl⟩:=JS Tryz.underlying113 h2;obtain⟨ns,rfl,hok⟩:=ZY (f:=PN.cells) (ok:=PN.ok Tryz.prog M 32) fun c hc=>VV (hl c hc)
 refine⟨⟨a0,a1,ns⟩,⟨w0,w1,by simpa using w2,hok⟩,?_⟩;simp only[PI.cells,Qom,QmR,QmS];rfl

structure PE where
 name:List UInt8
 opn:Bool
 items:List PI
 free:List PS
 notes:List PN

def PE.cells (x:PE):List AV:=[.str x.name,.bool x.opn,.list (x.items.map fun n=>.agg n.cells),.list (x.free.map fun n=>.agg n.cells),.list (x.notes.map fun n=>XS n.cells)]

structure PE.ok (M:Nat)(x:PE):Prop where
 name:x.name.length≤M
 len1:x.items.length≤maxLen
 items:∀n∈x.items,n.ok M
 len2:x.free.length≤maxLen
 free:∀n∈x.free,n.ok
 len3:x.notes.length≤maxLen
 notes:∀n∈x.notes,n.ok Tryz.prog M 32

theorem AW {M k:Nat}{cs:List AV}(h:Xh Tryz.prog M k 115 cs):∃x:PE,x.ok M∧cs=x.cells:=by
 obtain⟨k,h⟩:=ZF Tryz.underlying115 h;simp only[Xh.HasL]at h;obtain⟨_,_,rfl,h0,_,_,rfl,h1,_,_,rfl,h2,_,_,rfl,h3,_,_,rfl,h4,rfl⟩:=h;obtain⟨a0,rfl,w0⟩:=J7 Tryz.underlying9 h0;obtain⟨a1,rfl⟩:=AR Tryz.underlying4 h1;obtain⟨k2,l2,rfl,w2,hl2⟩:=JS Tryz.underlying111 h2;obtain⟨k3,l3,rfl,w3,hl3⟩:=JS Tryz.underlying112 h3;obtain⟨k4,l4,rfl,w4,hl4⟩:=JS Tryz.underlying113 h4;obtain⟨x2,rfl,o2⟩:=ZY (f:=PI.cells) (ok:=PI.ok M) fun c hc=>AU (hl2 c hc)
 obtain⟨x3,rfl,o3⟩:=ZY (f:=PS.cells) (ok:=PS.ok) fun c hc=>AT (hl3 c hc)
 obtain⟨x4,rfl,o4⟩:=ZY (f:=PN.cells) (ok:=PN.ok Tryz.prog M 32) fun c hc=>VV (hl4 c hc)
 refine⟨⟨a0,a1,x2,x3,x4⟩,⟨w0,by simpa using w2,o2,by simpa using w3,o3,by simpa using w4,o4⟩,?_⟩;simp only[PE.cells,Qom,QmR,QmS];rfl

structure PL where
 progs:List PG
 enums:List PE

def PL.av (p:PL):AV:=.agg [.list (p.progs.map fun n=>.agg n.cells),.list (p.enums.map fun n=>.agg n.cells)]

structure PL.ok (M:Nat)(x:PL):Prop where
 len1:x.progs.length≤maxLen
 progs:∀n∈x.progs,n.ok M
 len2:x.enums.length≤maxLen
 enums:∀n∈x.enums,n.ok M

theorem VW {M k:Nat}{cs:List AV}(h:Xh Tryz.prog M k 25 cs):∃x:PL,x.ok M∧.agg cs=x.av:=by
 obtain⟨k,h⟩:=ZF Tryz.underlying25 h;simp only[Xh.HasL]at h;obtain⟨_,_,rfl,h0,_,_,rfl,h1,rfl⟩:=h;obtain⟨k2,l2,rfl,w2,hl2⟩:=JS Tryz.underlying22 h0;obtain⟨k3,l3,rfl,w3,hl3⟩:=JS Tryz.underlying23 h1;obtain⟨x2,rfl,o2⟩:=ZY (f:=PG.cells) (ok:=PG.ok M) fun c hc=>AS (hl2 c hc)
 obtain⟨x3,rfl,o3⟩:=ZY (f:=PE.cells) (ok:=PE.ok M) fun c hc=>AW (hl3 c hc)
 refine⟨⟨x2,x3⟩,⟨by simpa using w2,o2,by simpa using w3,o3⟩,?_⟩;simp only[PL.av,Qom,QmR,QmS];rfl

end Go.Proofs.YtkhpgmeokilhaaaGreatDoor.Br

namespace Go.Proofs.YtkhpgmeokilhaaaGreatDoor.Am
open Go

variable {P:Program}{m:Qh}

def Ag {α:Type}(f:Nat→α)(L:List (Nat×α)):Prop:=L.map (fun p=>f p.1)=L.map Prod.snd
theorem Ag.iff {α:Type}{f:Nat→α}{L:List (Nat×α)}:Ag f L↔∀q∈L,f q.1=q.2:=List.map_inj_left
def Xp {α:Type}:List (Nat×α)→(Nat→α)→Nat→α
 | [],f=>f
 |p :: L,f=>QG (Xp L f) p.1 p.2
theorem AX {α:Type}{f:Nat→α}{d:Nat}{x:α}(h:f d=x):QG f d x=f:=by
 funext i;by_cases e:i=d
 ·rw[e,QU,h]
 ·rw[QX _ _ e]
theorem UA {α:Type}{f:Nat→α}:∀ {L:List (Nat×α)},Ag f L→Xp L f=f
 | [],_=>rfl
 |q :: L,h=>by
  rw[Ag.iff]at h;rw[Xp,UA (Ag.iff.2 fun x hx=>h x (QmL _ hx))];exact AX (h q QmN)

def Ix {X:Type}(L:X→List (Nat×AV))(O:X→List (Nat×Ob))(l:List Nat)(mu:X→Nat)(p:X→Prop)(mm:X→Qh)(n:Nat)(st:St):Prop :=
 ∃x f fr,st=⟨f,fr :: mm x,[]⟩∧n=mu x∧p x∧Ag f (L x)∧Ag fr (O x)∧(l.all fun s=>!(fr s).isRow)=true
theorem Ix.go {X:Type}{L:X→List (Nat×AV)}{O:X→List (Nat×Ob)}{l:List Nat}{mu:X→Nat}{p:X→Prop}{mm:X→Qh}(x:X){n:Nat}{f:Fr}{fr:Nat→Ob}(hn:mu x<n)(hp:p x)(hf:Ag f (L x):=by exact rfl)(ho:Ag fr (O x):=by exact rfl)(hr:(l.all fun s=>!(fr s).isRow)=true:=by exact rfl) :
  ∃k,k<n∧Ix L O l mu p mm k ⟨f,fr :: mm x,[]⟩:=⟨mu x,hn,x,f,fr,rfl,rfl,hp,hf,ho,hr⟩

theorem UB {X:Type}{a:RC}{Q:Exit→St→Prop}{f:Fr}{fr:Nat→Ob}(L:X→List (Nat×AV))(O:X→List (Nat×Ob))(l:List Nat)(mu:X→Nat)(p:X→Prop)(mm:X→Qh)(x0:X)(hp:p x0)
  (h:∀x f fr,p x→QR P a ⟨Xp (L x) f,Xp (O x++l.map fun s=>(s,.none)) fr :: mm x,[]⟩ (Kl (Ix L O l mu p mm) (mu x) Q))
  (hf:Ag f (L x0):=by exact rfl) (ho:Ag fr (O x0):=by exact rfl) (hr:(l.all fun s=>!(fr s).isRow)=true:=by exact rfl) (hm:m=mm x0:=by exact rfl)
  (hs:∀x,(L x).map (fun q=>Dy l q.2)=(L x).map Prod.snd:=by exact fun _=>rfl) (ht:∀x,(O x).map (fun q=>(l.contains q.1,GG l q.2))=(O x).map fun q=>(false,q.2):=by exact fun _=>rfl):QR P (.loop (GF l a)) ⟨f,fr :: m,[]⟩ Q:=by
 subst hm;refine Qk (Ix L O l mu p mm) (mu x0) ⟨x0,f,fr,rfl,rfl,hp,hf,ho,hr⟩ ?_;rintro _ _ ⟨x,f1,fr1,rfl,rfl,hp,hf,ho,hr⟩;refine QL l (fun s hs=>by simpa using QmI.1 hr s hs) ?_;intro f2 fr2 h1 h2 h3;have e1:Ag f2 (L x):=Ag.iff.2 fun q hq=>by
  rw[h1,Ag.iff.1 hf q hq];exact List.map_inj_left.1 (hs x) q hq
 have e2:Ag fr2 (O x++l.map fun s=>(s,.none)):=Ag.iff.2 fun q hq=>by
  rcases QnP.1 hq with hq|hq
  ·have:=List.map_inj_left.1 (ht x) q hq;simp only[Prod.mk.injEq]at this;rw[h2 _ (fun hi=>by rw[List.contains_iff_mem.2 hi]at this;cases this.1),Ag.iff.1 ho q hq];exact this.2
  ·obtain⟨s,hs,rfl⟩:=QnQ.1 hq;exact h3 s hs
 have:=h x f2 fr2 hp;rw[UA e1,UA e2]at this;exact this

theorem Xy {α:Type}(l:List α)(i:Nat):(∃x,l[i]? = some x∧i<l.length)∨¬i<l.length:=by
 by_cases h:i<l.length
 ·exact .inl ⟨l[i],Qmv h,h⟩
 ·exact .inr h

end Go.Proofs.YtkhpgmeokilhaaaGreatDoor.Am

set_option linter.unusedSimpArgs false
namespace Go.Proofs.YtkhpgmeokilhaaaGreatDoor.Va
open Go Am Rc Bt Br

def XW {α:Type}(p:α→Bool):List α→Nat→Int
 | [],_=>-1
 |x :: l,i=>if p x=true then(i:Int)else XW p l (i+1)

theorem WD {α:Type}(p:α→Bool):∀(l:List α) (i:Nat),(XW p l i = -1∧l.find? p=none)∨∃k o,XW p l i=((i+k:Nat):Int)∧l[k]? = some o∧l.find? p=some o
 | [],_=>.inl ⟨rfl,rfl⟩
 |x :: l,i=>by
  unfold XW;rw[Qon];cases h:p x with
  |true=>exact .inr ⟨0,x,by simp,rfl,rfl⟩
  |false=>
   simp only[QmO,if_false];rcases WD p l (i+1)with h'|⟨k,o,h1,h2,h3⟩
   ·exact .inl h'
   ·exact .inr ⟨k+1,o,by rw[h1];congr 1;omega,by simpa using h2,h3⟩

theorem DC {α:Type}(p:α→Bool){l:List α}{i:Nat}{x:α}(hx:l[i]? = some x):XW p (l.drop i) i=if p x=true then(i:Int)else XW p (l.drop (i+1)) (i+1):=by
 have hlt:i<l.length:=(Qmu.1 hx).1;rw[Qne hlt,show l[i]=x from(Qmu.1 hx).2];rfl

def Qz (o:PO):AV:=.agg o.cells
def Qm (g:PG):AV:=.agg g.cells
def Xn (x:PI):AV:=.agg x.cells
def QE (x:PE):AV:=.agg x.cells

abbrev ixC (n:Nat)(s:Option Nat):RC:=.seq (.reg [⟨some 4,.val (.mov (.c (.int .i64 0))),none⟩]) (.seq (.seq (.reg [⟨some 6,.val (.mov (.t 0)),none⟩,⟨some 7,.val (.len 1 (.t 6)),none⟩,⟨some 8,.val (.mov (.c (.int .i64 0))),none⟩]) (.block 0 (.loop (.seq (.reg [⟨some 9,.val (.bin .num .lss (.t 8) (.t 7)),none⟩]) (.seq (.cond (.t 9) (.skip) (.exit 0)) (.seq (.block 1 (.seq (.reg [⟨some 10,.val (.mov (.t 8)),none⟩,⟨some 5,.val (.mov (.t 10)),none⟩]) (.seq (.reg [⟨some 11,.val (.mov (.t 1)),none⟩,⟨some 12,.val (.mov (.t 0)),none⟩,⟨some 13,.val (.mov (.t 5)),none⟩,⟨some 14,.val (.iaddr n none (.t 12) (.t 13)),none⟩,⟨some 15,.val (.load s (.t 14)),none⟩,⟨some 16,.callF (.t 11) [(.t 15)],none⟩]) (.cond (.t 16) (.seq (.reg [⟨some 17,.val (.mov (.t 5)),none⟩,⟨some 4,.val (.mov (.t 17)),none⟩]) (.ret)) (.skip))))) (.reg [⟨some 18,.val (.bin .num .add (.t 8) (.c (.int .i64 1))),none⟩,⟨some 8,.val (.mov (.t 18)),none⟩]))))))) (.seq (.reg [⟨some 4,.val (.mov (.c (.int .i64 (-1)))),none⟩]) (.ret)))
theorem HU {X:Type}{L:List X}(hl:L.length≤maxLen){av:X→AV}{n:Nat}{s:Option Nat}(he:∀x,(av x).cells.length=n∧Am.part (av x).cells 0 s=some (av x)){p:X→Bool}{c:Nat}{cs:List AV}{m:Qh}(hc:∀o∈L,Qd Tryz.prog c (av o :: AV.shL cs) (Qb :: m) fun y m1=>y=.bool (p o)∧m1=Qb :: m) :
  QR Tryz.prog (ixC n s) (St.enter [.list (L.map av),.fn (.func c) [] cs] m) (Zm [.tmp 4] m.length fun y m1=>y=.int .i64 (XW p L 0)∧m1=m):=by
 let I:Nat→St→Prop:=fun j st=>∃f k,st=⟨f,Qb :: m,[]⟩∧j=L.length-k∧XW p L 0=XW p (L.drop k) k∧Ag f [(0,.list (L.map av)),(1,.fn (.func c) [] (AV.shL cs)),(7,.int .i64 (L.length:Nat)),(8,.int .i64 (k:Nat))]
 simp only[ixC,Qnq,Qa,seval];refine Qk I _ ⟨_,0,rfl,rfl,rfl,rfl⟩ ?_;rintro _ _ ⟨f,k,rfl,rfl,hz,hf⟩;rw[←UA hf];simp only[Xp,Qa,seval];rcases Xy L k with⟨x,hx,hlt⟩|hlt
 case inr=>
  rw[Qm8 (by omega)]at hz;simp only[QI hlt,hz,XW,Qa,seval]
 have hg:(L.map av)[k]? = some (av x):=by rw[QnT,hx];rfl
 have e1:=Qw k _ hlt hl;have hcl:=hc x (QmJ hx);rw[DC p hx]at hz;simp only[QD hlt,Qv,QnY,Qf,hg,he,eE,seval];refine Ft (fa:=[]) (fb:=AV.shL cs) rfl hcl rfl ?_;cases hp:p x
 ·rw[hp]at hz;simp only[e1,Qa,seval];exact⟨_,by omega,_,k+1,rfl,rfl,by simpa using hz,rfl⟩
 ·rw[hp]at hz;simp only[if_true]at hz;simp only[hz,Qa,seval]

section ops
variable (L:List PO)(hl:L.length≤maxLen)(p:PO→Bool)(c:Nat)(cap:AV)(m:Qh)

include hl in
theorem Qie (hc:∀o∈L,Qd Tryz.prog c [Qz o,cap.sh] (Qb :: m) fun y m1=>y=.bool (p o)∧m1=Qb :: m) :
  Qd Tryz.prog 196 [.list (L.map Qz),.fn (.func c) [] [cap]] m fun y m1=>y=.int .i64 (XW p L 0)∧m1=m:=by
 refine wG Tryz.func196 ?_;simp only[eK,Tryz.f196,seval];exact HU hl (av:=Qz) (n:=8) (s:=some 8) (cs:=[cap]) (fun _=>⟨rfl,rfl⟩) hc

end ops

def Dg:PO:=⟨0,[],[],0,0,0,0,0⟩
def MT (p:PO→Bool)(L:List PO):AV:=.tup [Qz ((L.find? p).getD Dg),.bool (L.find? p).isSome]

theorem Qif (g:PG)(hl:g.ops.length≤maxLen)(p:PO→Bool)(c:Nat)(cap:AV)(m:Qh)(hc:∀fr,∀o∈g.ops,Qd Tryz.prog c [Qz o,cap.sh.sh] (Qb :: fr :: m) fun y m1=>y=.bool (p o)∧m1=Qb :: fr :: m) :
  Qd Tryz.prog 106 [.agg [.fn (.func c) [] [cap]],Qm g] m fun y m1=>y=MT p g.ops∧m1=m:=by
 refine wG Tryz.func106 ?_;simp only[eK,Tryz.f106,seval];simp only[Qm,PG.cells,eE,seval];refine Qg (Qie g.ops hl p c cap.sh _ fun o ho=>hc _ o ho) (by simp only[Qm3,Qnx,Qa,seval];rfl) ?_;rcases WD p g.ops 0 with⟨h1,h2⟩|⟨j,o,h1,h2,h3⟩
 ·simp only[h1,MT,h2,Qn8,Qnl,Dg,Qz,PO.cells,splice,QnF,QmS,Qm7,Qnd,QnL,Qnz,QmK,Qnr,QnI,QnJ,AV.leaf,eE,seval]
 ·have hj:(g.ops.map fun o=>AV.agg o.cells)[j]? = some (.agg o.cells):=by simp[h2]
  have d:decide ((j:Int)<0)=false:=Qoo (by omega);rw[QmU]at h1;simp only[PO.cells]at hj;simp only[h1,d,Qv,QnY,Qf,QmU,hj,MT,h3,QnH,Qop,Qz,PO.cells,splice,QnF,QmS,Qm7,Qnd,QnL,Qnz,QmK,Qnr,QnI,QnJ,AV.leaf,eE,seval]

section
variable (o:PO)(fr frO:Nat→Ob)

theorem Qig (n:Int)(hf:frO 3=.cells [.int .i64 n]):Qd Tryz.prog 105 [Qz o,.ptr 2 3 0] [Qb,fr,frO] fun y m1=>y=.bool (o.num==n)∧m1=[Qb,fr,frO]:=by
 refine wG Tryz.func105 ?_;simp only[eK,Tryz.f105,seval];simp only[hf,Qz,PO.cells,eE,seval]

end

theorem Tk (g:PG)(hl:g.ops.length≤maxLen)(n:Int):Qi Tryz.prog 55 [Qm g,.int .i64 n] (MT (fun o=>o.num==n) g.ops):=by
 refine wF Tryz.func55 ?_;simp only[eK,Tryz.f55,seval];simp only[Qm,PG.cells,eE,seval];refine Qg (Qif g hl (fun o=>o.num==n) 105 (.ptr 0 3 0) _ fun fr o _=>Qig o fr _ n (by rfl)) (by simp only[Qm3,Qnx,Qm,PG.cells,Qa,seval]) ?_;simp only[MT,Qz,PO.cells,splice,QnF,QmS,Qm7,Qnd,QnL,Qnz,QmK,Qnr,QnI,QnJ,AV.leaf,eE,seval]

def Qp (p:Nat→Bool):Nat→Bool
 |0=>true
 |n+1=>Qp p n&&p n

theorem QV {p:Nat→Bool}{n:Nat}:Qp p n=true↔∀i,i<n→p i=true:=by
 induction n with
 |zero=>simp[Qp]
 |succ n ih=>
  simp only[Qp,QmT,ih]
  constructor
  ·rintro⟨h1,h2⟩ i hi;rcases Nat.lt_succ_iff_lt_or_eq.1 hi with h|rfl
   ·exact h1 i h
   ·exact h2
  ·intro h;exact⟨fun i hi=>h i (by omega),h n (by omega)⟩

theorem Rk {p:Nat→Bool}{n i:Nat}(hi:i<n)(h:p i=false):Qp p n=false:=by
 rw[Qoq];intro h';rw[QV.1 h' i hi]at h;cases h

theorem DD {p q:Nat→Bool}{n:Nat}:Qp (fun i=>p i&&q i) n=(Qp p n&&Qp q n):=by
 induction n with
 |zero=>rfl
 |succ n ih=>
  simp only[Qp,ih];cases Qp p n<;>cases Qp q n<;>cases p n<;>cases q n<;>rfl

def Q6 {α:Type}(l:List α)(q:α→Bool)(i:Nat):Bool:=match l[i]? with
 |some x=>q x
 |none=>true

theorem Xs {α:Type}{l:List α}{q:α→Bool}{i:Nat}{x:α}(h:l[i]? = some x):Q6 l q i=q x:=by
 unfold Q6;rw[h]

theorem U6 {α:Type}(l:List α)(q:α→Bool):Qp (Q6 l q) l.length=l.all q:=by
 rw[Qnp,QV,QmI]
 constructor
 ·intro h x hx;obtain⟨i,hi⟩:=QmH.1 hx;have:=h i (Qmu.1 hi).1
  rwa [Xs hi]at this
 ·intro h i hi;rw[Xs (Qmv hi)];exact h _ (Qnn _)

def X7 {α:Type}(l:List α)(lt:α→α→Bool)(i:Nat):Bool:=match i with
 |0=>true
 |k+1=>match l[k]?,l[k+1]? with
  |some x,some y=>lt x y
  |_,_=>true

theorem K9 {α:Type}{l:List α}{lt:α→α→Bool}{k:Nat}{x y:α}(h:l[k]? = some x)(h':l[k+1]? = some y):X7 l lt (k+1)=lt x y:=by
 unfold X7;simp only[h,h']
theorem AY {α:Type}{l:List α}{lt:α→α→Bool}:X7 l lt 0=true:=rfl

def ZR {α:Type}(l:List α)(lt:α→α→Bool):Bool:=Qp (X7 l lt) l.length

def uniq {α:Type}(l:List α)(nm:α→List UInt8)(i:Nat):Bool:=match l[i]? with
 |some x=>(l.take i).all fun y=>!(nm y==nm x)
 |none=>true
theorem GJ {α:Type}{l:List α}{nm:α→List UInt8}{i:Nat}{x:α}(h:l[i]? = some x):uniq l nm i=(l.take i).all fun y=>!(nm y==nm x):=by
 unfold uniq;rw[h]
def YG {α:Type}(l:List α)(nm:α→List UInt8):Bool:=Qp (uniq l nm) l.length

theorem U7 {α:Type}{l:List α}{q:α→Bool}{i:Nat}{x:α}(h:l[i]? = some x):(l.take (i+1)).all q=((l.take i).all q&&q x):=by
 rw[Qok,h];simp
theorem VX {α:Type}{l:List α}{q:α→Bool}{i:Nat}{x:α}(h:l[i]? = some x):(l.take (i+1)).any q=((l.take i).any q||q x):=by
 rw[Qok,h];simp
theorem BI {α:Type}{l:List α}{q:α→Bool}:(l.all fun x=>!q x)=!l.any q:=by
 induction l with
 |nil=>rfl
 |cons x l ih=>simp[ih]

def Kq (c:UInt8):Bool:=(decide (97≤c.toNat)&&decide (c.toNat≤122))||(decide (65≤c.toNat)&&decide (c.toNat≤90))
def JH (c:UInt8):Bool:=Kq c||c.toNat==95||(decide (48≤c.toNat)&&decide (c.toNat≤57))
def Xb:List UInt8→Bool
 | []=>false
 |c :: t=>decide ((c :: t).length≤40)&&Kq c&&t.all JH
def U8:List (List UInt8):=[[109,101,115,115,97,103,101],[101,110,117,109],[115,101,114,118,105,99,101],[117,110,105,111,110],[109,97,112],[108,105,115,116],[114,101,113,117,105,114,101,100],[111,112,116,105,111,110,97,108],[112,108,97,105,110],[100,101,102,97,117,108,116],[114,101,115,101,114,118,101,100],
 [105,109,112,111,114,116],[115,112,97,99,101],[114,112,99],[115,116,114,101,97,109],[114,101,116,117,114,110,115],[111,112,101,110],[116,114,117,101],[102,97,108,115,101],[110,97,110],[105,110,102]]
def ZN (s:List UInt8):Bool:=U8.any fun w=>s==w
def Wa (s:List UInt8):Bool:=Xb s && !ZN s
def Ql:List UInt8→List (List UInt8)
 | []=>[[]]
 |c :: t=>if c=46 then [] :: Ql t else match Ql t with
  | []=>[[c]]
  |p :: ps=>(c :: p) :: ps
def Wb (s:List UInt8):Bool:=decide (s.length≤120)&&(Ql s).all Xb && !(Ql s).any ZN

theorem WE:∀s:List UInt8,Ql s≠[]
 | []=>by simp[Ql]
 |c :: t=>by
  unfold Ql;split
  ·simp
  ·split<;>simp

theorem Np (a:List UInt8):∀s:List UInt8,(∀c∈a,c≠46)→Ql (a++s)=match Ql s with
  | []=>[a]
  |p :: ps=>(a++p) :: ps:=by
 induction a with
 |nil=>intro s _;cases h:Ql s with
  |nil=>exact absurd h (WE s)
  |cons p ps=>simp[h]
 |cons c a ih=>
  intro s h;have hc:c≠46:=h c (by simp);rw[QmR,Ql,QmC hc,ih s fun x hx=>h x (by simp[hx])];cases hs:Ql s with
  |nil=>exact absurd hs (WE s)
  |cons p ps=>rfl

theorem Y7 {s:List UInt8}(h:∀c∈s,c≠46):Ql s=[s]:=by
 have:=Np s [] h
 simpa [Ql]using this

theorem FG {a t:List UInt8}(h:∀c∈a,c≠46):Ql (a++46 :: t)=a :: Ql t:=by
 rw[Np a _ h,Ql,QmD rfl];simp

theorem FH {a t:List UInt8}(h:∀c∈t,c≠46):Ql (a++46 :: t)=Ql a++[t]:=by
 induction a with
 |nil=>
  show Ql (46 :: t)=[[]]++[t];rw[show Ql (46 :: t)=[] :: Ql t from by rw[Ql,QmD rfl],Y7 h];rfl
 |cons c a ih=>
  rw[QmR,Ql,Ql,ih];split
  ·rfl
  ·cases hs:Ql a with
   |nil=>exact absurd hs (WE a)
   |cons p ps=>rfl

theorem HW (s:List UInt8):(Ql s).length=s.count 46+1:=by
 induction s with
 |nil=>rfl
 |cons c t ih=>
  unfold Ql;split
  ·rename_i h;subst h;simp[ih]
  ·rename_i h;rw[List.count_cons_of_ne (by simpa using h)];cases hs:Ql t with
   |nil=>exact absurd hs (WE t)
   |cons p ps=>rw[hs]at ih;simpa using ih

def Wc (g:PG):Bool:=decide (g.ops.length≤64)
def YH (e:PE):Bool:=decide (1≤e.items.length)&&decide (e.items.length≤64)&&decide (e.free.length≤16)
def Dh (P:PL):Bool:=decide (P.progs.length≤64)&&decide (P.enums.length≤64)&&P.progs.all Wc&&P.enums.all YH
def KD (g:PG):Bool:=Wb g.name&&g.ops.all fun o=>Wa o.name
def Un (e:PE):Bool:=Wb e.name&&e.items.all fun o=>Wa o.name
def FI (P:PL):Bool:=P.progs.all KD&&P.enums.all Un
def Kk {α:Type}(f:α→Int)(x y:α):Bool:=decide (f x<f y)
def Xt {α:Type}(f:α→List UInt8)(x y:α):Bool:=Op.bytesLess (f x) (f y)
def We (g:PG):Bool:=ZR g.ops (Kk PO.num)
def Uo (e:PE):Bool:=ZR e.items (Kk PI.num)
def HX (P:PL):Bool:=ZR P.progs (Xt PG.name)&&ZR P.enums (Xt PE.name)&&P.progs.all We&&P.enums.all Uo
def JT (P:PL)(g:PG):Bool:=(P.enums.all fun e=>!(e.name==g.name))&&YG g.ops PO.name
def U9 (e:PE):Bool:=YG e.items PI.name
def VY (P:PL):Bool:=P.progs.all (JT P)&&P.enums.all U9
def JU (o:PO):Bool:=decide (o.num≥1)&&decide (o.num≤65535)
def Nq (x:PS):Bool:=decide (x.lo≥0)&&decide (x.hi≤2147483647)&&decide (x.lo≤x.hi)
def FJ (x y:PS):Bool:=decide (y.lo > x.hi)
def kept (l:List PS)(n:Int):Bool:=l.any fun x=>decide (x.lo≤n)&&decide (n≤x.hi)
def YI (e:PE)(x:PI):Bool:=decide (x.num≤2147483647) && !kept e.free x.num
def Ha (e:PE):Bool:=match e.items with
 | []=>true
 |x :: _=>x.num==0
def YJ (e:PE):Bool:=e.free.all Nq&&ZR e.free FJ&&Ha e&&e.items.all (YI e)
def VZ (P:PL):Bool:=P.progs.all (fun g=>g.ops.all JU)&&P.enums.all YJ

def Z9 (x:PS):AV:=.agg x.cells
theorem HY (e:PE):QE e=.agg [.str e.name,.bool e.opn,.list (e.items.map Xn),.list (e.free.map Z9),.list (e.notes.map fun n=>XS n.cells)]:=rfl
theorem HZ (g:PG):Qm g=.agg [.str g.name,.list (g.ops.map Qz),.int .i64 g.unions]:=rfl
theorem H1 (o:PO):Qz o=.agg [.int .i64 o.num,.str o.name,.str o.alias,.int .i64 o.card,.int .i64 o.key,.int .i64 o.kind,.int .i64 o.target,.int .i64 o.union]:=rfl
theorem BJ (x:PI):Xn x=.agg [.str x.name,.int .i64 x.num,.list (x.notes.map fun n=>XS n.cells)]:=rfl
def Jq (x:List UInt8):AV:=.str x

theorem KE {α:Type}(p:α→Bool)(l:List α):decide (XW p l 0≥0)=l.any p:=by
 rcases WD p l 0 with⟨h1,h2⟩|⟨k,o,h1,_,h3⟩
 ·rw[h1];have:l.any p=false:=by
   rw[List.any_eq_false];intro x hx;exact fun h=>by have:=Qor.1 h2 x hx;exact this h
  rw[this];rfl
 ·rw[h1];have:l.any p=true:=Qoa.2 ⟨o,Qos h3,Qot h3⟩;rw[this];exact Qou (by omega)

theorem H2 (k n:Nat)(h:k+1<n)(hn:n≤maxLen):IntKind.i64.wrap (((k+1:Nat):Int)-1)=(k:Int):=by
 rw[QC];simp only[maxLen]at hn;omega

section
variable (L:List PG)(hl:L.length≤maxLen)(p:PG→Bool)(c:Nat)(cs:List AV)(m:Qh)

include hl in
theorem z35 (hc:∀o∈L,Qd Tryz.prog c (Qm o :: AV.shL cs) (Qb :: m) fun y m1=>y=.bool (p o)∧m1=Qb :: m) :
  Qd Tryz.prog 35 [.list (L.map Qm),.fn (.func c) [] cs] m fun y m1=>y=.int .i64 (XW p L 0)∧m1=m:=by
 refine wG Tryz.func35 ?_;simp only[eK,Tryz.f35,seval];exact HU hl (av:=Qm) (n:=3) (s:=(some 3)) (fun _=>⟨rfl,rfl⟩) hc

include hl in
theorem Qih (hc:∀o∈L,Qd Tryz.prog c (Qm o :: AV.shL (AV.shL cs)) (Qb :: Qb :: m) fun y m1=>y=.bool (p o)∧m1=Qb :: Qb :: m) :
  Qd Tryz.prog 211 [.list (L.map Qm),.fn (.func c) [] cs] m fun y m1=>y=.bool (L.any p)∧m1=m:=by
 refine wG Tryz.func211 ?_;simp only[eK,Tryz.f211,seval];simp only[Qa,seval];refine Qg (z35 L hl p c (AV.shL cs) _ hc) (by simp only[Qm3,Qnx,Qa,seval]<;>rfl) ?_;simp only[KE,Qa,seval]

include hl in
theorem BK (hc:∀o∈L,Qd Tryz.prog c (Qm o :: AV.shL (AV.shL (AV.shL cs))) (Qb :: Qb :: Qb :: m) fun y m1=>y=.bool (p o)∧m1=Qb :: Qb :: Qb :: m) :
  Qd Tryz.prog 122 [.list (L.map Qm),.fn (.func c) [] cs] m fun y m1=>y=.bool (L.any p)∧m1=m:=by
 refine wG Tryz.func122 ?_;simp only[eK,Tryz.f122,seval];simp only[Qa,seval];refine Qg (Qih L hl p c (AV.shL cs) _ hc) (by simp only[Qm3,Qnx,Qa,seval]<;>rfl) ?_;simp only[Qa,seval]

end

section
variable (L:List PO)(hl:L.length≤maxLen)(p:PO→Bool)(c:Nat)(cs:List AV)(m:Qh)

include hl in
theorem Qii (hc:∀o∈L,Qd Tryz.prog c (Qz o :: AV.shL cs) (Qb :: m) fun y m1=>y=.bool (p o)∧m1=Qb :: m) :
  Qd Tryz.prog 196 [.list (L.map Qz),.fn (.func c) [] cs] m fun y m1=>y=.int .i64 (XW p L 0)∧m1=m:=by
 refine wG Tryz.func196 ?_;simp only[eK,Tryz.f196,seval];exact HU hl (av:=Qz) (n:=8) (s:=(some 8)) (fun _=>⟨rfl,rfl⟩) hc

include hl in
theorem Qij (hc:∀o∈L,Qd Tryz.prog c (Qz o :: AV.shL (AV.shL cs)) (Qb :: Qb :: m) fun y m1=>y=.bool (p o)∧m1=Qb :: Qb :: m) :
  Qd Tryz.prog 217 [.list (L.map Qz),.fn (.func c) [] cs] m fun y m1=>y=.bool (L.any p)∧m1=m:=by
 refine wG Tryz.func217 ?_;simp only[eK,Tryz.f217,seval];simp only[Qa,seval];refine Qg (Qii L hl p c (AV.shL cs) _ hc) (by simp only[Qm3,Qnx,Qa,seval]<;>rfl) ?_;simp only[KE,Qa,seval]

include hl in
theorem V0 (hc:∀o∈L,Qd Tryz.prog c (Qz o :: AV.shL (AV.shL (AV.shL cs))) (Qb :: Qb :: Qb :: m) fun y m1=>y=.bool (p o)∧m1=Qb :: Qb :: Qb :: m) :
  Qd Tryz.prog 128 [.list (L.map Qz),.fn (.func c) [] cs] m fun y m1=>y=.bool (L.any p)∧m1=m:=by
 refine wG Tryz.func128 ?_;simp only[eK,Tryz.f128,seval];simp only[Qa,seval];refine Qg (Qij L hl p c (AV.shL cs) _ hc) (by simp only[Qm3,Qnx,Qa,seval]<;>rfl) ?_;simp only[Qa,seval]

end

section
variable (L:List PE)(hl:L.length≤maxLen)(p:PE→Bool)(c:Nat)(cs:List AV)(m:Qh)

include hl in
theorem Qik (hc:∀o∈L,Qd Tryz.prog c (QE o :: AV.shL cs) (Qb :: m) fun y m1=>y=.bool (p o)∧m1=Qb :: m) :
  Qd Tryz.prog 280 [.list (L.map QE),.fn (.func c) [] cs] m fun y m1=>y=.int .i64 (XW p L 0)∧m1=m:=by
 refine wG Tryz.func280 ?_;simp only[eK,Tryz.f280,seval];exact HU hl (av:=QE) (n:=5) (s:=(some 5)) (fun _=>⟨rfl,rfl⟩) hc

include hl in
theorem Qil (hc:∀o∈L,Qd Tryz.prog c (QE o :: AV.shL (AV.shL cs)) (Qb :: Qb :: m) fun y m1=>y=.bool (p o)∧m1=Qb :: Qb :: m) :
  Qd Tryz.prog 212 [.list (L.map QE),.fn (.func c) [] cs] m fun y m1=>y=.bool (L.any p)∧m1=m:=by
 refine wG Tryz.func212 ?_;simp only[eK,Tryz.f212,seval];simp only[Qa,seval];refine Qg (Qik L hl p c (AV.shL cs) _ hc) (by simp only[Qm3,Qnx,Qa,seval]<;>rfl) ?_;simp only[KE,Qa,seval]

include hl in
theorem DE (hc:∀o∈L,Qd Tryz.prog c (QE o :: AV.shL (AV.shL (AV.shL cs))) (Qb :: Qb :: Qb :: m) fun y m1=>y=.bool (p o)∧m1=Qb :: Qb :: Qb :: m) :
  Qd Tryz.prog 124 [.list (L.map QE),.fn (.func c) [] cs] m fun y m1=>y=.bool (L.any p)∧m1=m:=by
 refine wG Tryz.func124 ?_;simp only[eK,Tryz.f124,seval];simp only[Qa,seval];refine Qg (Qil L hl p c (AV.shL cs) _ hc) (by simp only[Qm3,Qnx,Qa,seval]<;>rfl) ?_;simp only[Qa,seval]

end

section
variable (L:List PI)(hl:L.length≤maxLen)(p:PI→Bool)(c:Nat)(cs:List AV)(m:Qh)

include hl in
theorem Qim (hc:∀o∈L,Qd Tryz.prog c (Xn o :: AV.shL cs) (Qb :: m) fun y m1=>y=.bool (p o)∧m1=Qb :: m) :
  Qd Tryz.prog 284 [.list (L.map Xn),.fn (.func c) [] cs] m fun y m1=>y=.int .i64 (XW p L 0)∧m1=m:=by
 refine wG Tryz.func284 ?_;simp only[eK,Tryz.f284,seval];exact HU hl (av:=Xn) (n:=3) (s:=(some 3)) (fun _=>⟨rfl,rfl⟩) hc

include hl in
theorem Qin (hc:∀o∈L,Qd Tryz.prog c (Xn o :: AV.shL (AV.shL cs)) (Qb :: Qb :: m) fun y m1=>y=.bool (p o)∧m1=Qb :: Qb :: m) :
  Qd Tryz.prog 219 [.list (L.map Xn),.fn (.func c) [] cs] m fun y m1=>y=.bool (L.any p)∧m1=m:=by
 refine wG Tryz.func219 ?_;simp only[eK,Tryz.f219,seval];simp only[Qa,seval];refine Qg (Qim L hl p c (AV.shL cs) _ hc) (by simp only[Qm3,Qnx,Qa,seval]<;>rfl) ?_;simp only[KE,Qa,seval]

include hl in
theorem Rl (hc:∀o∈L,Qd Tryz.prog c (Xn o :: AV.shL (AV.shL (AV.shL cs))) (Qb :: Qb :: Qb :: m) fun y m1=>y=.bool (p o)∧m1=Qb :: Qb :: Qb :: m) :
  Qd Tryz.prog 132 [.list (L.map Xn),.fn (.func c) [] cs] m fun y m1=>y=.bool (L.any p)∧m1=m:=by
 refine wG Tryz.func132 ?_;simp only[eK,Tryz.f132,seval];simp only[Qa,seval];refine Qg (Qin L hl p c (AV.shL cs) _ hc) (by simp only[Qm3,Qnx,Qa,seval]<;>rfl) ?_;simp only[Qa,seval]

end

section
variable (L:List PS)(hl:L.length≤maxLen)(p:PS→Bool)(c:Nat)(cs:List AV)(m:Qh)

include hl in
theorem Qio (hc:∀o∈L,Qd Tryz.prog c (Z9 o :: AV.shL cs) (Qb :: m) fun y m1=>y=.bool (p o)∧m1=Qb :: m) :
  Qd Tryz.prog 321 [.list (L.map Z9),.fn (.func c) [] cs] m fun y m1=>y=.int .i64 (XW p L 0)∧m1=m:=by
 refine wG Tryz.func321 ?_;simp only[eK,Tryz.f321,seval];exact HU hl (av:=Z9) (n:=2) (s:=(some 2)) (fun _=>⟨rfl,rfl⟩) hc

include hl in
theorem Qip (hc:∀o∈L,Qd Tryz.prog c (Z9 o :: AV.shL (AV.shL cs)) (Qb :: Qb :: m) fun y m1=>y=.bool (p o)∧m1=Qb :: Qb :: m) :
  Qd Tryz.prog 285 [.list (L.map Z9),.fn (.func c) [] cs] m fun y m1=>y=.bool (L.any p)∧m1=m:=by
 refine wG Tryz.func285 ?_;simp only[eK,Tryz.f285,seval];simp only[Qa,seval];refine Qg (Qio L hl p c (AV.shL cs) _ hc) (by simp only[Qm3,Qnx,Qa,seval]<;>rfl) ?_;simp only[KE,Qa,seval]

end

section
variable (L:List (List UInt8))(hl:L.length≤maxLen)(p:(List UInt8)→Bool)(c:Nat)(cs:List AV)(m:Qh)

include hl in
theorem Qiq (hc:∀o∈L,Qd Tryz.prog c (Jq o :: AV.shL cs) (Qb :: m) fun y m1=>y=.bool (p o)∧m1=Qb :: m) :
  Qd Tryz.prog 281 [.list (L.map Jq),.fn (.func c) [] cs] m fun y m1=>y=.int .i64 (XW p L 0)∧m1=m:=by
 refine wG Tryz.func281 ?_;simp only[eK,Tryz.f281,seval];exact HU hl (av:=Jq) (n:=1) (s:=none) (fun _=>⟨rfl,rfl⟩) hc

include hl in
theorem Qir (hc:∀o∈L,Qd Tryz.prog c (Jq o :: AV.shL (AV.shL cs)) (Qb :: Qb :: m) fun y m1=>y=.bool (p o)∧m1=Qb :: Qb :: m) :
  Qd Tryz.prog 214 [.list (L.map Jq),.fn (.func c) [] cs] m fun y m1=>y=.bool (L.any p)∧m1=m:=by
 refine wG Tryz.func214 ?_;simp only[eK,Tryz.f214,seval];simp only[Qa,seval];refine Qg (Qiq L hl p c (AV.shL cs) _ hc) (by simp only[Qm3,Qnx,Qa,seval]<;>rfl) ?_;simp only[KE,Qa,seval]

end

abbrev riC (n:Nat):RC:=.seq (.reg [⟨some 4,.val (.mov (.c (.bool false))),none⟩]) (.seq (.seq (.reg [⟨some 5,.val (.mov (.c (.int .i64 1))),none⟩]) (.block 0 (.loop (.seq (.seq (.reg [⟨some 6,.val (.mov (.t 5)),none⟩,⟨some 7,.val (.mov (.t 0)),none⟩,⟨some 8,.val (.len 1 (.t 7)),none⟩,⟨some 9,.val (.bin .num .lss (.t 6) (.t 8)),none⟩]) (.cond (.t 9) (.skip) (.exit 0))) (.seq (.block 1 (.seq (.draw [⟨some 12,.val (.mov (.t 1)),none⟩,⟨some 13,.val (.mov (.t 0)),none⟩,⟨some 14,.val (.mov (.t 5)),none⟩,⟨some 15,.val (.bin .num .sub (.t 14) (.c (.int .i64 1))),none⟩,⟨some 16,.val (.iaddr n none (.t 13) (.t 15)),none⟩,⟨some 17,.val (.loadr (some n) (.t 16)),none⟩,⟨some 18,.val (.mov (.t 0)),none⟩,⟨some 19,.val (.mov (.t 5)),none⟩,⟨some 20,.val (.iaddr n none (.t 18) (.t 19)),none⟩,⟨some 21,.val (.loadr (some n) (.t 20)),none⟩,⟨some 22,.callF (.t 12) [(.t 17),(.t 21)],none⟩,⟨some 23,.val (.un .not (.t 22)),none⟩]) (.cond (.t 23) (.seq (.reg [⟨some 4,.val (.mov (.c (.bool false))),none⟩]) (.ret)) (.skip)))) (.reg [⟨some 10,.val (.mov (.t 5)),none⟩,⟨some 11,.val (.bin .num .add (.t 10) (.c (.int .i64 1))),none⟩,⟨some 5,.val (.mov (.t 11)),none⟩])))))) (.seq (.reg [⟨some 4,.val (.mov (.c (.bool true))),none⟩]) (.ret)))
theorem IB {X:Type}{L:List X}(hl:L.length≤maxLen){av:X→AV}{n:Nat}(he:∀x,(av x).cells.length=n∧Am.part (av x).cells 0 (some n)=some (av x)){lt:X→X→Bool}{c:Nat}{cs:List AV}{m:Qh}(hc:∀x∈L,∀y∈L,Qd Tryz.prog c (av x :: av y :: AV.shL cs) (Qb :: m) fun r m1=>r=.bool (lt x y)∧m1=Qb :: m) :
  QR Tryz.prog (riC n) (St.enter [.list (L.map av),.fn (.func c) [] cs] m) (Zm [.tmp 4] m.length fun y m1=>y=.bool (ZR L lt)∧m1=m):=by
 let I:Nat→St→Prop:=fun j st=>∃f i,st=⟨f,Qb :: m,[]⟩∧j=L.length-(i+1)∧Qp (X7 L lt) (i+1)=true∧Ag f [(0,.list (L.map av)),(1,.fn (.func c) [] (AV.shL cs)),(5,.int .i64 ((i+1:Nat):Int))]
 simp only[riC,Qa,seval];refine Qk I _ ⟨_,0,rfl,rfl,rfl,rfl⟩ ?_;rintro _ _ ⟨f,i,rfl,rfl,hz,hf⟩;rw[←UA hf];simp only[Xp,Qnq,Qa,seval];rcases Xy L (i+1)with⟨y,hy,hlt⟩|hlt
 case inr=>
  have hf:ZR L lt=true:=QV.2 fun k hk=>QV.1 hz k (by omega)
  simp only[QI hlt,hf,Qa,seval]
 obtain⟨x,hx⟩:∃x,L[i]? = some x:=⟨L[i]'(by omega),Qmv (by omega)⟩;have hg:(L.map av)[i]? = some (av x):=by rw[QnT,hx];rfl
 have hh:(L.map av)[i+1]? = some (av y):=by rw[QnT,hy];rfl
 have hcl:=hc x (QmJ hx) y (QmJ hy);have e1:=Qw (i+1) _ hlt hl;have e2:=H2 i _ hlt hl;have hs:Qp (X7 L lt) (i+2)=lt x y:=by
  show(Qp (X7 L lt) (i+1)&&X7 L lt (i+1))=_;rw[hz,K9 hx hy,Qoc]
 simp only[QD hlt,e2,Qv,QnY,Qf,hg,hh,he,eE,seval];refine Ft (fa:=[]) (fb:=AV.shL cs) rfl hcl rfl ?_;cases hp:lt x y
 ·have hf:ZR L lt=false:=by
   rw[Qoq];intro h';rw[hp,QV.2 fun k hk=>QV.1 h' k (by omega)]at hs;cases hs
  simp only[hf,Qa,seval]
 ·simp only[e1,Qa,seval];exact⟨_,by omega,_,i+1,rfl,rfl,by rw[hs,hp],rfl⟩

theorem Qis (L:List PG)(hl:L.length≤maxLen)(lt:PG→PG→Bool)(c:Nat)(cs:List AV)(m:Qh)(hc:∀x∈L,∀y∈L,Qd Tryz.prog c (Qm x :: Qm y :: AV.shL cs) (Qb :: m) fun r m1=>r=.bool (lt x y)∧m1=Qb :: m) :
  Qd Tryz.prog 134 [.list (L.map Qm),.fn (.func c) [] cs] m fun y m1=>y=.bool (ZR L lt)∧m1=m:=by
 refine wG Tryz.func134 ?_;simp only[eK,Tryz.f134,seval];exact IB hl (av:=Qm) (n:=3) (fun _=>⟨rfl,rfl⟩) hc

theorem Qit (L:List PO)(hl:L.length≤maxLen)(lt:PO→PO→Bool)(c:Nat)(cs:List AV)(m:Qh)(hc:∀x∈L,∀y∈L,Qd Tryz.prog c (Qz x :: Qz y :: AV.shL cs) (Qb :: m) fun r m1=>r=.bool (lt x y)∧m1=Qb :: m) :
  Qd Tryz.prog 139 [.list (L.map Qz),.fn (.func c) [] cs] m fun y m1=>y=.bool (ZR L lt)∧m1=m:=by
 refine wG Tryz.func139 ?_;simp only[eK,Tryz.f139,seval];exact IB hl (av:=Qz) (n:=8) (fun _=>⟨rfl,rfl⟩) hc

theorem Qiu (L:List PE)(hl:L.length≤maxLen)(lt:PE→PE→Bool)(c:Nat)(cs:List AV)(m:Qh)(hc:∀x∈L,∀y∈L,Qd Tryz.prog c (QE x :: QE y :: AV.shL cs) (Qb :: m) fun r m1=>r=.bool (lt x y)∧m1=Qb :: m) :
  Qd Tryz.prog 136 [.list (L.map QE),.fn (.func c) [] cs] m fun y m1=>y=.bool (ZR L lt)∧m1=m:=by
 refine wG Tryz.func136 ?_;simp only[eK,Tryz.f136,seval];exact IB hl (av:=QE) (n:=5) (fun _=>⟨rfl,rfl⟩) hc

theorem Qiv (L:List PI)(hl:L.length≤maxLen)(lt:PI→PI→Bool)(c:Nat)(cs:List AV)(m:Qh)(hc:∀x∈L,∀y∈L,Qd Tryz.prog c (Xn x :: Xn y :: AV.shL cs) (Qb :: m) fun r m1=>r=.bool (lt x y)∧m1=Qb :: m) :
  Qd Tryz.prog 142 [.list (L.map Xn),.fn (.func c) [] cs] m fun y m1=>y=.bool (ZR L lt)∧m1=m:=by
 refine wG Tryz.func142 ?_;simp only[eK,Tryz.f142,seval];exact IB hl (av:=Xn) (n:=3) (fun _=>⟨rfl,rfl⟩) hc

def cl (c:Nat):Int:=if 97≤c∧c≤122 then 1 else if 65≤c∧c≤90 then 2 else if 48≤c∧c≤57 then 3 else if c=95 then 4 else 0

theorem Qiw (c:Nat):Qi Tryz.prog 283 [.int .i32 (c:Nat)] (.int .i64 (cl c)):=by
 refine wF Tryz.func283 ?_;simp only[eK,Tryz.f283,seval];simp only[Qa,seval]
 repeat' (first|(refine QW (fun h=>?_) (fun h=>?_)<;>simp only[h,Qa,seval])|(refine XM (fun h=>?_) (fun h=>?_)<;>simp only[h,Qj,Qa,seval])|(refine XN (fun h=>?_) (fun h=>?_)<;>simp only[h,Qj,eE,seval]))
 all_goals((try simp only[Qmz,Qov,QmA,Qoi,ne_eq]at *)<;>unfold cl<;>(repeat' split)<;>first|rfl|(exfalso;omega))

theorem Rm {s:List UInt8}{i:Nat}{c:UInt8}(h:s[i]? = some c):(c.toNat<128→XK s i=(c.toNat,1))∧(128≤c.toNat→128≤(XK s i).1):=by
 have g0:(⟨⟨s⟩⟩:ByteArray).get! (i+0)=c:=by
  show(⟨s⟩:Array UInt8)[i+0]! = c;simp[h]
 constructor
 ·intro hc;simp only[XK,Utf8.decode,g0];rw[QmD hc]
 ·intro hc;simp only[XK,Utf8.decode,g0];rw[QmC (by omega)]
  (repeat' split)<;>simp only[ge_iff_le,QmT,Qmz,Utf8.runeError]at *<;>omega

def pq (s:List UInt8)(j:Nat):Bool:=match s[j]? with
 |some c=>if j=0 then Kq c else JH c
 |none=>true
theorem Y8 {s:List UInt8}{j:Nat}{c:UInt8}(h:s[j]? = some c):pq s j=if j=0 then Kq c else JH c:=by
 unfold pq;rw[h]

theorem V1 {c:UInt8}(h:Kq c=true):JH c=true:=by unfold JH;rw[h];rfl

theorem W2 (s:List UInt8):Xb s=(decide (1≤s.length)&&decide (s.length≤40)&&Qp (pq s) s.length):=by
 cases s with
 |nil=>rfl
 |cons c t=>
  have h1:decide (1≤(c :: t).length)=true:=by simp
  rw[h1,Qoc];show(decide ((c :: t).length≤40)&&Kq c&&t.all JH)=_;rw[Qng];congr 1
  rw[Qnp,QmT,QV,QmI]
  constructor
  ·rintro⟨h2,h3⟩ i hi;cases i with
   |zero=>rw[Y8 (c:=c) rfl,QmD rfl];exact h2
   |succ i=>
    have hlt:i<t.length:=by simpa using hi
    rw[Y8 (c:=t[i]) (by simp[Qmv hlt]),QmC (by omega)];exact h3 _ (Qnn _)
  ·intro h;refine⟨?_,fun x hx=>?_⟩
   ·have:=h 0 (by simp)
    rwa [Y8 (c:=c) rfl,QmD rfl]at this
   ·obtain⟨i,hi⟩:=QmH.1 hx;have hlt:=(Qmu.1 hi).1;have:=h (i+1) (by simpa using hlt)
    rwa [Y8 (c:=x) (by simpa using hi),QmC (by omega)]at this

theorem Qf3 {s:List UInt8}{i:Nat}{c:UInt8}(h:s[i]? = some c)(r:Nat)(hr:(c.toNat<128→r=c.toNat)∧(128≤c.toNat→128≤r)) :
  (cl r==0||((i:Int)==0&&(cl r != 1&&cl r != 2)))=!pq s i:=by
 rw[Y8 h];obtain⟨h1,h2⟩:=hr;have hc:=c.toNat_lt;unfold cl Kq JH Kq;generalize c.toNat=x at *;by_cases hx:x<128
 ·have e:=h1 hx;subst e;by_cases hi:i=0
  ·subst hi;rw[QmD rfl]
   (repeat' split)<;>simp<;>omega
  ·rw[QmC hi];have hz:((i:Int)==0)=false:=by simp;omega
   rw[hz]
   (repeat' split)<;>simp<;>omega
 ·have:=h2 (by omega);have e:(if 97≤r∧r≤122 then(1:Int)else if 65≤r∧r≤90 then 2 else if 48≤r∧r≤57 then 3 else if r=95 then 4 else 0)=0:=by
   rw[QmC (by omega),QmC (by omega),QmC (by omega),QmC (by omega)]
  rw[e];split<;>simp<;>omega

def PaI (s:List UInt8)(k:Nat)(st:St):Prop :=
 ∃f fr i,st=⟨f,[fr],[]⟩∧k=s.length-i∧i≤s.length∧Qp (pq s) i=true∧f 0=.str s∧f 7=.ptr 0 7 0∧fr 7=.iter (.str s) i

theorem QdH (s:List UInt8):Qi Tryz.prog 218 [.str s] (.bool (Xb s)):=by
 refine wF Tryz.func218 ?_;simp only[eK,Tryz.f218,seval];simp only[Qa,seval];refine Ni rfl rfl ?_;simp only[Qa,seval];refine Qk (PaI s) s.length ⟨_,_,0,rfl,rfl,QmE _,rfl,(by rfl),(by rfl),(by rfl)⟩ ?_;rintro _ st ⟨f,fr,i,rfl,rfl,hi,hx,h0,h7,m7⟩;simp only[Qa,seval];refine Nj (by exact h7) m7 (fun hlt=>?_) (fun hge=>?_)
 ·obtain⟨c,hc⟩:∃c,s[i]? = some c:=⟨s[i],Qmv hlt⟩;obtain⟨u1,u2⟩:=Rm hc;have hcl:=Qiw (XK s i).1;have hq:=Qf3 hc (XK s i).1 ⟨fun h=>by rw[u1 h],u2⟩;have hw:pq s i=true→(XK s i).2=1:=by
   intro h;rw[u1];rw[Y8 hc]at h;have hp:JH c=true:=by
    split at h
    ·exact V1 h
    ·exact h
   unfold JH Kq at hp;simp at hp;omega
  generalize XK s i=cw at hcl hq hw;obtain⟨r,w⟩:=cw;simp only[Qa,seval];refine aC hcl ?_;have hstep:Qp (pq s) (i+1)=pq s i:=by rw[Qp,hx,Qoc]
  have hend:pq s i=false→Xb s=false:=by
   intro h;rw[W2,Rk hlt h,Qoe]
  simp only at hq hw;generalize cl r=k at hq;cases hp:pq s i
  ·rw[hp]at hq;have he:=hend hp;simp only[he,Qa,seval];cases a1:(k==0)
   ·cases a2:((i:Int)==0)
    ·simp[a1,a2]at hq
    ·cases a3:(k != 1)
     ·simp[a1,a2,a3]at hq
     ·cases a4:(k != 2)
      ·simp[a1,a2,a3,a4]at hq
      ·simp only[a2,a3,a4,Qa,seval]
   ·simp only[Qa,seval]
  ·rw[hp]at hq;have hw:=hw hp;subst hw;simp only[Qa,seval];cases a1:(k==0)
   ·cases a2:((i:Int)==0)
    ·simp only[a2,Qa,seval];exact⟨s.length-(i+1),by omega,_,_,i+1,rfl,rfl,by omega,by rw[hstep,hp],(by exact h0),(by exact h7),(by rfl)⟩
    ·cases a3:(k != 1)
     ·simp only[a2,a3,Qa,seval];exact⟨s.length-(i+1),by omega,_,_,i+1,rfl,rfl,by omega,by rw[hstep,hp],(by exact h0),(by exact h7),(by rfl)⟩
     ·cases a4:(k != 2)
      ·simp only[a2,a3,a4,Qa,seval];exact⟨s.length-(i+1),by omega,_,_,i+1,rfl,rfl,by omega,by rw[hstep,hp],(by exact h0),(by exact h7),(by rfl)⟩
      ·simp[a1,a2,a3,a4]at hq
   ·simp[a1]at hq
 ·have hii:i=s.length:=by omega
  subst hii;have e1:decide (((s.length:Nat):Int)≥1)=decide (1≤s.length):=by rw[decide_eq_decide];omega
  have e2:decide (((s.length:Nat):Int)≤40)=decide (s.length≤40):=by rw[decide_eq_decide];omega
  have e3:Xb s=(decide (1≤s.length)&&decide (s.length≤40)):=by rw[W2,hx,QnK]
  simp only[h0,e1,e3,Qa,seval];cases a1:decide (1≤s.length)<;>simp only[Qoc,Qn1,h0,e2,Qa,seval]

theorem Qix (s:List UInt8):Qi Tryz.prog 216 [.str s] (.bool (ZN s)):=by
 refine wF Tryz.func216 ?_;simp only[eK,Tryz.f216,seval];simp only[QP,Qa,seval];have e:ZN s=U8.any fun w=>s==w:=rfl
 simp only[U8,List.any_cons,List.any_nil,Qow]at e
 repeat' (first|(refine QW (fun h=>?_) (fun h=>?_)<;>simp only[h,QP,Qa,seval])|(refine XM (fun h=>?_) (fun h=>?_)<;>simp only[h,Qj,QP,eE,seval])|(refine XN (fun h=>?_) (fun h=>?_)<;>simp only[h,Qj,QP,eE,seval]))
 all_goals(simp only[*,Qog,Qox,Qow]at e;simp only[e])

theorem Qiy (s:List UInt8):Qi Tryz.prog 319 [.str s,.str [46]] (.int .i64 (s.count 46:Nat)):=by
 refine wF Tryz.func319 ?_;simp only[eK,Tryz.f319,seval];have b0:(((1:Nat):Int)==0)=false:=rfl;have b1:(((1:Nat):Int)==1)=true:=rfl;have b2:([(46:UInt8)])[Int.toNat 0]? = some 46:=rfl;simp only[QmK,Qnr,QmU,Qa,seval];refine MD rfl rfl ?_;simp only[Ff,Lib.countByte,Qa,seval]
 try rfl

theorem Qiz (s:List UInt8):Qi Tryz.prog 345 [.str s,.int .u8 46] (.int .i64 (Lib.indexByte s 46)):=by
 refine wF Tryz.func345 ?_;simp only[eK,Tryz.f345,seval];simp only[Qa,seval];refine MD rfl rfl ?_;simp only[Ff,QmO,Qa,seval]
 try rfl

theorem QiA (s:List UInt8):Qi Tryz.prog 338 [.str s,.str [46]] (.int .i64 (Lib.indexByte s 46)):=by
 refine Qdc.fn (by simp) ?_;have b0:(((1:Nat):Int)==0)=false:=rfl;have b1:(((1:Nat):Int)==1)=true:=rfl;have b2:([(46:UInt8)])[Int.toNat 0]? = some 46:=rfl;have hk:=Qiz s;simp only[Ri,SZ,S0,S1,S2,S3,S4,S5,S6,S7,Ri,AM,QmK,Qnr,QmU,QP,Qa,seval];cases h:(([46]:List UInt8)==s)
 ·simp only[Qa,seval];refine aC hk ?_;simp only[Qa,seval]
 ·have hs:s=[46]:=by simpa using (QmA.1 h).symm
  subst hs;simp only[Qa,seval]
  try rfl

theorem QiB (s:List UInt8):Qi Tryz.prog 320 [.str s,.str [46]] (.int .i64 (Lib.indexByte s 46)):=by
 refine wF Tryz.func320 ?_;simp only[eK,Tryz.f320,seval];simp only[Qa,seval];refine aC (QiA s) ?_;simp only[Qa,seval]

theorem Tl {t:List UInt8}{o:Nat}(h:Lib.indexByte t 46=(o:Int)):o<t.length∧t=t.take o++46 :: t.drop (o+1)∧∀c∈t.take o,c≠46:=by
 obtain⟨h1,h2⟩:=Lib.indexByte_some h;have hlt:=(Qmu.1 h1).1;refine⟨hlt,?_,?_⟩
 ·have h3:t[o]=46:=(Qmu.1 h1).2;rw[←h3,←Qne hlt,QnN]
 ·intro c hc e;subst e;obtain⟨k,hk⟩:=QmH.1 hc;rw[Qna]at hk;split at hk
  ·exact h2 k ‹_› hk
  ·cases hk

theorem AZ {t:List UInt8}(h:Lib.indexByte t 46 = -1):Ql t=[t]:=by
 refine Y7 fun c hc e=>?_
 subst e;obtain⟨k,hk⟩:=QmH.1 hc;exact Lib.indexByte_none h k hk

theorem Tm {t:List UInt8}{o:Nat}(h:Lib.indexByte t 46=(o:Int)):Ql t=t.take o :: Ql (t.drop (o+1)):=by
 obtain⟨_,h2,h3⟩:=Tl h
 conv=>lhs;rw[h2]
 exact FG h3

theorem QdI (t:List UInt8):Lib.indexByte t 46 = -1∨∃o:Nat,Lib.indexByte t 46=(o:Int):=by
 have:=Lib.indexByte_ge t 46;by_cases h:Lib.indexByte t 46 = -1
 ·exact .inl h
 ·obtain⟨o,ho⟩:=Qof (a:=Lib.indexByte t 46) (by omega);exact .inr ⟨o,ho⟩

def SpI (s:List UInt8)(n:Nat)(k:Nat)(st:St):Prop :=
 ∃f fr t done,st=⟨f,[fr],[]⟩∧k=(Ql t).length∧Ql s=done++Ql t∧n=done.length+(Ql t).length∧t.length≤s.length∧
  f 0=.str t∧f 1=.str [46]∧f 2=.int .i64 0∧f 3=.int .i64 ((n-1:Nat):Int)∧f 9=.vec 0 31 1 0 n false∧f 10=.int .i64 (done.length:Nat)∧fr 31=.vec 1 1 (done.map Jq++List.replicate (Ql t).length (.str []))

theorem A1 (done:List (List UInt8))(x:List UInt8)(n:Nat)(h:0<n):(done.map Jq++List.replicate n (AV.str [])).set done.length (.str x)=(done++[x]).map Jq++List.replicate (n-1) (AV.str []):=by
 obtain⟨k,rfl⟩:∃k,n=k+1:=⟨n-1,by omega⟩;rw[List.set_append_right _ _ (by simp)];simp[Jq,List.replicate_succ]

theorem QiC (s:List UInt8)(hs:s.length≤17592186044000):Qi Tryz.prog 282 [.str s,.str [46],.int .i64 0,.int .i64 (-1)] (.list ((Ql s).map Jq)):=by
 have hl:=HW s;have hc:s.count 46≤s.length:=List.count_le_length;have hm:(Ql s).length≤s.length+1:=by omega
 have b0:((-1:Int)==0)=false:=rfl;have b1:decide ((-1:Int)<0)=true:=rfl;have e1:IntKind.i64.wrap ((s.count 46:Nat)+1:Int)=((Ql s).length:Nat):=by rw[QC];omega
 have e2:IntKind.i64.wrap ((s.length:Nat)+1:Int)=((s.length+1:Nat):Int):=by rw[QC];omega
 have e3':(((s.length+1:Nat):Int)<((Ql s).length:Nat))=False:=eq_false (by omega);have e4:IntKind.i64.wrap (((Ql s).length:Nat)-1:Int)=(((Ql s).length-1:Nat):Int):=by rw[QC];omega
 have hz:Zx 1 [AV.str []]=.str []:=rfl;refine wF Tryz.func282 ?_;simp only[eK,Tryz.f282,seval];simp only[b0,QP,Qa,seval];have b2:(([46]:List UInt8)==[])=false:=rfl;simp only[b2,Qa,seval];refine aC (Qiy s) ?_;simp only[e1,e2,e3',Qa,seval];refine GD (n:=(Ql s).length) (k:=(Ql s).length) rfl rfl (Qms _) (by omega) (by omega) rfl ?_;simp only[e4,hz,Qa,seval];refine Qk (SpI s (Ql s).length) _ ⟨_,_,s,[],rfl,rfl,rfl,by simp,Qms _,(by rfl),(by rfl),(by rfl),(by rfl),(by rfl),(by rfl),(by rfl)⟩ ?_;rintro _ st ⟨f,fr,t,done,rfl,rfl,hp,hn,ht,h0,h1,h2,h3,h9,h10,m31⟩;simp only[h3,h10,Qa,seval];have hpos:0<(Ql t).length:=QnR.2 (WE t);have ia:Qf [fr] 1 none (.vec 0 31 1 0 (Ql s).length false) ((done.length:Nat):Int)=some (.vptr 0 31 1 done.length 0):=by
  have e:Am.Qc [fr] 0 31=.vec 1 1 (done.map Jq++List.replicate (Ql t).length (.str [])):=m31;simp only[Qf,e,Qv,if_true,QnY];simp;omega
 have ist:∀x:List UInt8,Xa [fr] (.vptr 0 31 1 done.length 0) [.str x]=some [QG fr 31 (.vec 1 1 ((done++[x]).map Jq++List.replicate ((Ql t).length-1) (.str [])))]:=by
  intro x;have e:Am.Qc [fr] 0 31=.vec 1 1 (done.map Jq++List.replicate (Ql t).length (.str [])):=m31;have hy:(done.map Jq++List.replicate (Ql t).length (.str []))[done.length]? = some (.str []):=by
   rw[QnX (by simp)];simp[hpos]
  have hx:Jd (.str []) 0 [.str x]=.str x:=rfl;simp only[Xa,e,hy,if_true,←A1 done x _ hpos];simp[AV.cells,AV.rfL,AV.rf,Am.put,hx]
 have ew:IntKind.i64.wrap ((done.length:Nat)+1:Int)=((done.length+1:Nat):Int):=by rw[QC];omega
 rcases QdI t with hd|⟨o,ho⟩
 ·have hp1:=AZ hd;have hl1:(Ql t).length=1:=by rw[hp1];rfl
  have d1:decide (((done.length:Nat):Int)<(((Ql s).length-1:Nat):Int))=false:=Qoo (by omega);have hi:=ist t;have hrow:(done++[t]).map Jq++List.replicate ((Ql t).length-1) (AV.str [])=(Ql s).map Jq:=by
   rw[hl1,hp,hp1];simp
  have hlen:done.length+1=(Ql s).length:=by omega
  rw[hrow]at hi;rw[hlen]at ew;have hle:((Ql s).length≤(Ql s).length)=True:=eq_true (Qms _);have ht:(((Ql s).map Jq).drop 0).take (Ql s).length=(Ql s).map Jq:=by rw[Qnd];exact Qm5 (by simp)
  simp only[d1,ia,hi,h0,h9,h10,ew,eE,seval];simp only[Qv,if_true,QnY,QmE,hle,Qnm,and_true,Qnu,Qnl,Qow,XE,QnH,Zr,Qop];have el:Am.Qc [QG fr 31 (Ob.vec 1 1 ((Ql s).map Jq))] 0 31=.vec 1 1 ((Ql s).map Jq):=QU _ _ _;simp only[AV.still,el,Qoc,bne_self_eq_false,QmO,if_false,QmU,Qnq,hle,and_self,if_true,ht,Option.bind_some,AV.un,Qop,QnH]
 ·have hp1:=Tm ho;obtain⟨ho1,ho2,ho3⟩:=Tl ho;have hl1:(Ql t).length=(Ql (t.drop (o+1))).length+1:=by rw[hp1];simp
  have hpos2:0<(Ql (t.drop (o+1))).length:=QnR.2 (WE _);have d1:decide (((done.length:Nat):Int)<(((Ql s).length-1:Nat):Int))=true:=Qou (by omega);have d2:decide ((o:Int)<0)=false:=Qoo (by omega);have w1:IntKind.i64.wrap ((o:Int)+0)=(o:Int):=by rw[QC];omega
  have w2:IntKind.i64.wrap ((o:Int)+1)=((o+1:Nat):Int):=by rw[QC];omega
  have hi:=ist (t.take o);simp only[d1,h0,h1,Qa,seval];refine aC (QiB t) ?_;have hle1:(0≤o∧o≤t.length)=True:=eq_true ⟨QmE _,by omega⟩;have hle2:(o+1≤t.length∧t.length≤t.length)=True:=eq_true ⟨by omega,Qms _⟩;have ht2:(t.drop (o+1)).take (t.length-(o+1))=t.drop (o+1):=Qm5 (by simp);simp only[ho,d2,w1,w2,Qv,QnY,hle1,hle2,ht2,Qnu,h0,h1,h2,h9,h10,eE,seval];simp only[ia,hi,ew,Qa,seval];have hlen:(done++[t.take o]).length=done.length+1:=by simp
  have hk:(Ql t).length-1=(Ql (t.drop (o+1))).length:=by omega
  exact⟨(Ql (t.drop (o+1))).length,by omega,_,_,t.drop (o+1),done++[t.take o],rfl,rfl,by rw[hp,hp1];simp,by rw[hlen];omega,by simp;omega,(by rfl),(by exact h1),(by exact h2),(by exact h3),(by exact h9),by rw[hlen]<;>first|rfl|simp only[eE,seval],by rw[←hk]<;>exact QU _ _ _⟩

def V2 (c:UInt8):Bool:=decide (97≤c.toNat)&&decide (c.toNat≤122)
def V3 (c:UInt8):Bool:=decide (65≤c.toNat)&&decide (c.toNat≤90)

theorem QdJ (c:UInt8):Qi Tryz.prog 207 [.int .u8 (c.toNat:Nat)] (.bool (V2 c)):=by
 refine wF Tryz.func207 ?_;simp only[eK,Tryz.f207,seval];have e1:decide ((c.toNat:Int)≥97)=decide (97≤c.toNat):=by rw[decide_eq_decide];omega
 have e2:decide ((c.toNat:Int)≤122)=decide (c.toNat≤122):=by rw[decide_eq_decide];omega
 simp only[e1,V2,Qa,seval];cases h:decide (97≤c.toNat)<;>simp only[e2,Qoc,Qn1,Qa,seval]

theorem QdK (c:UInt8):Qi Tryz.prog 208 [.int .u8 (c.toNat:Nat)] (.bool (V3 c)):=by
 refine wF Tryz.func208 ?_;simp only[eK,Tryz.f208,seval];have e1:decide ((c.toNat:Int)≥65)=decide (65≤c.toNat):=by rw[decide_eq_decide];omega
 have e2:decide ((c.toNat:Int)≤90)=decide (c.toNat≤90):=by rw[decide_eq_decide];omega
 simp only[e1,V3,Qa,seval];cases h:decide (65≤c.toNat)<;>simp only[e2,Qoc,Qn1,Qa,seval]

theorem A2 (c:UInt8):JH c=(V2 c||V3 c || !((c.toNat:Int) != 95) || !(decide ((c.toNat:Int)<48)||decide ((c.toNat:Int) > 57))):=by
 unfold JH Kq V2 V3;generalize c.toNat=x;rw[Qnp];simp only[Qmy,QmT,Qmz,QmA,Qnt,bne_eq_false_iff_eq,Qno,Qov];omega

def PrI (s:List UInt8)(k:Nat)(st:St):Prop :=
 ∃f i,st=⟨f,[Qb],[]⟩∧k=s.length-i∧1≤i∧Qp (pq s) i=true∧f 0=.str s∧f 3=.int .i64 (i:Nat)

theorem A3 (s:List UInt8):Qi Tryz.prog 116 [.str s] (.bool (Xb s)):=by
 refine Qia.fn (by simp) ?_;simp only[Qa,seval];by_cases hl:s.length=0
 ·have d0:((s.length:Int)==0)=true:=by rw[hl];rfl
  have e:Xb s=false:=by rw[W2,hl];rfl
  simp only[d0,e,Qa,seval]
 have d0:((s.length:Int)==0)=false:=by rw[Qoi];omega
 by_cases hm:s.length≤40
 case neg=>
  have d1:decide ((s.length:Int) > 40)=true:=Qou (by omega);have e:Xb s=false:=by rw[W2,Qoo hm,Qoe,Qn1]
  simp only[d0,d1,e,Qa,seval]
 have d1:decide ((s.length:Int) > 40)=false:=Qoo (by omega);have hp:Xb s=Qp (pq s) s.length:=by rw[W2,Qou hm,Qou (by omega:1≤s.length)];rfl
 obtain⟨c,hc⟩:∃c,s[0]? = some c:=⟨s[0]'(by omega),Qmv (by omega)⟩;have hq0:Qp (pq s) 1=(V2 c||V3 c):=by
  show(true&&pq s 0)=_;rw[Y8 hc,QmD rfl];rfl
 have h1:=QdJ c;have h2:=QdK c;have hn:Qp (pq s) 1=false→Xb s=false:=fun h=>by
  rw[hp,Qoq];intro h';rw[QV.2 fun k hk=>QV.1 h' k (by omega)]at h;cases h
 have z1:Int.toNat 0=0:=rfl;have go:Qp (pq s) 1=true→∀(f:Fr),f 0=.str s→f 3=.int .i64 1→∀Q:Exit→St→Prop,(∀f,Qp (pq s) s.length=true→Q (.exit 0) ⟨f,[Qb],[]⟩)→(∀f,f 2=.bool false→Qp (pq s) s.length=false→Q .ret ⟨f,[Qb],[]⟩)→QR Tryz.prog (.loop S8) ⟨f,[Qb],[]⟩ Q:=by
  intro hq1 f h0 h3 Q hx hr;refine Qk (PrI s) _ ⟨_,1,rfl,rfl,Qms _,hq1,h0,h3⟩ ?_;clear h0 h3 hc hq0 h1 h2 hn;rintro _ st ⟨f,i,rfl,rfl,h1i,hx1,h0,h3⟩;simp only[h0,h3,Qa,seval];by_cases hlt:i<s.length
  ·obtain⟨c,hc⟩:∃c,s[i]? = some c:=⟨s[i],Qmv hlt⟩;have e1:=Qw i _ hlt (by simp only[maxLen];omega);have hs1:=QdJ c;have hs2:=QdK c;have hstep:Qp (pq s) (i+1)=JH c:=by
    rw[Qp,hx1,Qoc,Y8 hc,QmC (by omega)]
   have hend:JH c=false→Qp (pq s) s.length=false:=fun h=>by
    rw[Qoq];intro h';rw[QV.2 fun k hk=>QV.1 h' k (by omega)]at hstep;rw[h]at hstep;cases hstep
   have fin:∀f':Fr,JH c=true→f' 0=.str s→f' 3=.int .i64 ((i+1:Nat):Int)→∃k,k<s.length-i∧PrI s k ⟨f',[Qb],[]⟩:=by
    intro f' hp h0 h3;exact⟨s.length-(i+1),by omega,f',i+1,rfl,rfl,by omega,by rw[hstep,hp],h0,h3⟩
   have hpc:=A2 c;simp only[QD hlt,Qv,QnY,hc,h0,h3,Qa,seval];refine aC hs1 ?_;cases a1:V2 c
   ·simp only[Qv,QnY,hc,h0,h3,QnE,Qa,seval];refine aC hs2 ?_;cases a2:V3 c
    ·cases a3:((c.toNat:Int) != 95)
     ·rw[a1,a2,a3]at hpc;simp only[a3,Qv,QnY,hc,h0,h3,e1,QnE,Qa,seval];exact fin _ (by rw[hpc];rfl) (by exact h0) (by rfl)
     ·cases a4:decide ((c.toNat:Int)<48)
      ·cases a5:decide ((c.toNat:Int) > 57)
       ·rw[a1,a2,a3,a4,a5]at hpc;simp only[a3,a4,a5,Qv,QnY,hc,h0,h3,e1,QnE,Qa,seval];exact fin _ (by rw[hpc];rfl) (by exact h0) (by rfl)
       ·rw[a1,a2,a3,a4,a5]at hpc;simp only[a3,a4,a5,Qv,QnY,hc,h0,h3,QnE,Qa,seval];exact hr _ (by rfl) (hend (by rw[hpc];rfl))
      ·rw[a1,a2,a3,a4]at hpc;simp only[a3,a4,Qv,QnY,hc,h0,h3,QnE,Qa,seval];exact hr _ (by rfl) (hend (by rw[hpc];rfl))
    ·rw[a1,a2]at hpc;simp only[h3,e1,Qod,Qa,seval];exact fin _ (by rw[hpc];rfl) (by exact h0) (by rfl)
   ·rw[a1]at hpc;simp only[h3,e1,Qod,Qa,seval];exact fin _ (by rw[hpc];rfl) (by exact h0) (by rfl)
  ·simp only[QI hlt,Qa,seval];exact hx _ (QV.2 fun k hk=>QV.1 hx1 k (by omega))
 simp only[d0,d1,z1,hc,Qa,seval];refine aC h1 ?_;cases a1:V2 c
 ·simp only[z1,hc,QnE,Qa,seval];refine aC h2 ?_;cases a2:V3 c
  ·rw[a1,a2]at hq0;simp only[hn hq0,QnE,Qa,seval]
  ·rw[a1,a2]at hq0;simp only[Qod,Qa,seval];refine go hq0 _ (by rfl) (by rfl) _ (fun f h=>?_) (fun f h2 h=>?_)
   ·simp only[hp,h,Qa,seval]
   ·simp only[hp,h,h2,Qa,seval]
 ·rw[a1,Qog]at hq0;simp only[Qod,Qa,seval];refine go hq0 _ (by rfl) (by rfl) _ (fun f h=>?_) (fun f h2 h=>?_)
  ·simp only[hp,h,Qa,seval]
  ·simp only[hp,h,h2,Qa,seval]

theorem QdL (s:List UInt8):Qi Tryz.prog 115 [.str s] (.bool (ZN s)):=by
 refine wF Tryz.func115 ?_;simp only[eK,Tryz.f115,seval];simp only[QP,Qa,seval];have e:ZN s=U8.any fun w=>s==w:=rfl
 simp only[U8,List.any_cons,List.any_nil,Qow]at e
 repeat' (first|(refine QW (fun h=>?_) (fun h=>?_)<;>simp only[h,QP,Qa,seval])|(refine XM (fun h=>?_) (fun h=>?_)<;>simp only[h,Qj,QP,eE,seval])|(refine XN (fun h=>?_) (fun h=>?_)<;>simp only[h,Qj,QP,eE,seval]))
 all_goals(simp only[*,Qog,Qox,Qow]at e;simp only[e])

theorem z62 (s:List UInt8):Qi Tryz.prog 62 [.str s] (.bool (Wa s)):=by
 refine wF Tryz.func62 ?_;simp only[eK,Tryz.f62,seval];simp only[Wa,Qa,seval];refine aC (A3 s) ?_;cases Xb s
 ·simp only[Qn1,Qa,seval]
 ·simp only[Qoc,Qa,seval];refine aC (QdL s) ?_;simp only[Qa,seval]

def FuI (s:List UInt8)(k:Nat)(st:St):Prop :=
 ∃f i p,st=⟨f,[Qb],[]⟩∧k=s.length-i∧i≤s.length∧p.length≤i∧(∀c∈p,c≠(46:UInt8))∧(Ql s).all Xb=(Ql (p++s.drop i)).all Xb∧f 0=.str s∧f 3=.str p∧f 4=.int .i64 (i:Nat)

theorem QiD (s:List UInt8):Qi Tryz.prog 113 [.str s] (.bool (decide (s.length≤120)&&(Ql s).all Xb)):=by
 refine wF Tryz.func113 ?_;simp only[eK,Tryz.f113,seval];simp only[Qa,seval];by_cases hm:s.length≤120
 case neg=>
  have d1:decide ((s.length:Int) > 120)=true:=Qou (by omega);simp only[d1,Qoo hm,Qn1,Qa,seval]
 have d1:decide ((s.length:Int) > 120)=false:=Qoo (by omega);simp only[d1,Qou hm,Qoc,Qa,seval];refine Qk (FuI s) _ ⟨_,0,[],rfl,rfl,QmE _,Qms _,by simp,rfl,(by rfl),(by rfl),(by rfl)⟩ ?_;rintro _ st ⟨f,i,p,rfl,rfl,hi,hpl,hpd,hx,h0,h3,h4⟩;simp only[h0,h4,Qa,seval];by_cases hlt:i<s.length
 ·obtain⟨c,hc⟩:∃c,s[i]? = some c:=⟨s[i],Qmv hlt⟩;have e1:=Qw i _ hlt (by simp only[maxLen];omega);have hd:s.drop i=c :: s.drop (i+1):=by
   rw[Qne hlt];congr 1
   exact(Qmu.1 hc).2
  have hts:(s.drop i).take (i+1-i)=[c]:=by
   rw[hd,show i+1-i=1 by omega];rfl
  simp only[QD hlt,Qv,QnY,hc,h0,h4,Qa,seval];by_cases hdot:c=46
  ·subst hdot;have b0:((((46:UInt8).toNat:Nat):Int) != 46)=false:=rfl;have hs:(Ql s).all Xb=(Xb p&&(Ql (s.drop (i+1))).all Xb):=by
    rw[hx,hd,FG hpd];rfl
   simp only[h3,Qa,seval];refine aC (A3 p) ?_;cases hp:Xb p
   ·rw[hp,Qn1]at hs;simp only[hs,QnE,Qa,seval]
   ·rw[hp,Qoc]at hs;simp only[h4,e1,Qod,Qa,seval];exact⟨s.length-(i+1),by omega,_,i+1,[],rfl,rfl,by omega,QmE _,by simp,by rw[hs];rfl,(by exact h0),(by rfl),(by rfl)⟩
  ·have b0:(((c.toNat:Nat):Int) != 46)=true:=by
    rw[QmY];intro h
    apply hdot
    rw[←UInt8.toNat_inj];have:c.toNat=46:=by omega
    rw[this];rfl
   have hle:(i≤i+1∧i+1≤s.length)=True:=eq_true ⟨by omega,by omega⟩;have hsum:(p.length≤9223372036854775806)=True:=eq_true (by omega);simp only[b0,h0,h3,h4,e1,KY,Jc,XD,Qv,QnY,hle,hts,QP,hsum,Qa,seval];exact⟨s.length-(i+1),by omega,_,i+1,p++[c],rfl,rfl,by omega,by simp;omega,fun x hx=>by
    rcases QnP.1 hx with h|h
    ·exact hpd x h
    ·simp at h;subst h;exact hdot,by rw[hx,hd];simp,(by exact h0),(by rfl),(by rfl)⟩
 ·have hx':(Ql s).all Xb=Xb p:=by
   rw[hx,Qm8 (by omega),Qnz,Y7 hpd];simp
  simp only[QI hlt,h3,hx',Qa,seval];refine aC (A3 p) ?_;simp only[Qa,seval]

def Uq (s:List UInt8):Nat→Option Nat
 |0=>none
 |j+1=>if s[j]? = some 46 then some j else Uq s j

theorem H3 (s:List UInt8):∀n,match Uq s n with
  |none=>∀k,k<n→s[k]?≠some 46
  |some j=>j<n∧s[j]? = some 46∧∀k,j<k→k<n→s[k]?≠some 46
 |0=>by simp[Uq]
 |n+1=>by
  unfold Uq;split
  ·rename_i h;split at h
   ·cases h
   ·rename_i h';have:=H3 s n;rw[h]at this;intro k hk;rcases Nat.lt_succ_iff_lt_or_eq.1 hk with h1|rfl
    ·exact this k h1
    ·exact h'
  ·rename_i j h;split at h
   ·rename_i h';cases h;exact⟨by omega,h',fun k h1 h2=>by omega⟩
   ·rename_i h';have:=H3 s n;rw[h]at this;exact⟨by omega,this.2.1,fun k h1 h2=>by
     rcases Nat.lt_succ_iff_lt_or_eq.1 h2 with h3|rfl
     ·exact this.2.2 k h1 h3
     ·exact h'⟩

def Jr (s:List UInt8):List UInt8×List UInt8:=match Uq s s.length with
 |none=>([],s)
 |some j=>(s.take j,s.drop (j+1))

theorem V4 (s:List UInt8):((Jr s).1=[]∧(Jr s).2=s∧∀c∈s,c≠46)∨(s=(Jr s).1++46 :: (Jr s).2∧∀c∈(Jr s).2,c≠46):=by
 have h:=H3 s s.length;unfold Jr;cases hl:Uq s s.length with
 |none=>
  rw[hl]at h;refine .inl ⟨rfl,rfl,fun c hc e=>?_⟩;subst e;obtain⟨k,hk⟩:=QmH.1 hc;exact h k (Qmu.1 hk).1 hk
 |some j=>
  rw[hl]at h;obtain⟨h1,h2,h3⟩:=h;refine .inr ⟨?_,fun c hc e=>?_⟩
  ·have:s[j]=46:=(Qmu.1 h2).2;show s=s.take j++46 :: s.drop (j+1);rw[←this,←Qne h1,QnN]
  ·subst e;obtain⟨k,hk⟩:=QmH.1 hc;rw[Qnb]at hk;exact h3 (j+1+k) (by omega) (Qmu.1 hk).1 hk

def SdI (s:List UInt8)(k:Nat)(st:St):Prop :=
 ∃f,st=⟨f,[Qb],[]⟩∧k≤s.length∧Uq s s.length=Uq s k∧f 0=.str s∧f 4=.int .i64 ((k:Int)-1)

theorem QiE (s:List UInt8)(hs:s.length≤120):Qi Tryz.prog 114 [.str s] (.tup [.str (Jr s).1,.str (Jr s).2]):=by
 refine wF Tryz.func114 ?_;simp only[eK,Tryz.f114,seval];have w0:IntKind.i64.wrap ((s.length:Int)-1)=(s.length:Int)-1:=by rw[QC];omega
 simp only[w0,Qa,seval];refine Qk (SdI s) _ ⟨_,rfl,Qms _,rfl,(by rfl),(by rfl)⟩ ?_;rintro k st ⟨f,rfl,hk,hx,h0,h4⟩;simp only[h4,Qa,seval];cases k with
 |zero=>
  have d0:decide (((0:Nat):Int)-1≥0)=false:=rfl;have e:Jr s=([],s):=by unfold Jr;rw[hx];rfl
  simp only[e,h0,Qa,seval]
 |succ j=>
  have j1:((j+1:Nat):Int)-1=(j:Int):=by omega
  have d0:decide (((j:Nat):Int)≥0)=true:=Qou (by omega);have w1:IntKind.i64.wrap ((j:Int)-1)=(j:Int)-1:=by rw[QC];omega
  have w2:IntKind.i64.wrap ((j:Int)+1)=((j+1:Nat):Int):=by rw[QC];omega
  obtain⟨c,hc⟩:∃c,s[j]? = some c:=⟨s[j]'(by omega),Qmv (by omega)⟩;simp only[j1,Qv,QnY,hc,h0,h4,Qa,seval];by_cases hdot:c=46
  ·subst hdot;have b0:((((46:UInt8).toNat:Nat):Int)==46)=true:=rfl;have e:Jr s=(s.take j,s.drop (j+1)):=by
    unfold Jr;rw[hx];show(match (if s[j]? = some 46 then some j else Uq s j)with|none=>([],s)|some j=>(s.take j,s.drop (j+1)))=_;rw[QmD hc]
   have hle:(0≤j∧j≤s.length)=True:=eq_true ⟨by omega,by omega⟩;have hle2:(j+1≤s.length∧s.length≤s.length)=True:=eq_true ⟨by omega,Qms _⟩;have ht:((s.drop 0).take j)=s.take j:=by simp
   have ht2:((s.drop (j+1)).take (s.length-(j+1)))=s.drop (j+1):=Qm5 (by simp);simp only[w2,j1,e,KY,Jc,XD,Qnu,Qv,QnY,hle,hle2,ht2,h0,h4,Qa,seval]
  ·have b0:(((c.toNat:Nat):Int)==46)=false:=by
    rw[Qoi];intro h
    apply hdot
    rw[←UInt8.toNat_inj];have:c.toNat=46:=by omega
    rw[this];rfl
   have hne:¬s[j]? = some 46:=fun h=>by rw[hc]at h;cases h;exact hdot rfl
   simp only[b0,j1,w1,h4,Qa,seval];exact⟨j,by omega,_,rfl,by omega,by rw[hx];show(if s[j]? = some 46 then some j else Uq s j)=_;rw[QmC hne],(by exact h0),(by rfl)⟩

def Tn (u:List UInt8):Bool:=if u=[]then false else(Ql u).any ZN

def DfI (s:List UInt8)(k:Nat)(st:St):Prop :=
 ∃f u,st=⟨f,[Qb],[]⟩∧k=u.length∧u.length≤120∧(u≠[]→(Ql u).all Xb=true)∧(Ql s).any ZN=Tn u∧f 0=.str u

theorem z61 (s:List UInt8):Qi Tryz.prog 61 [.str s] (.bool (Wb s)):=by
 refine wF Tryz.func61 ?_;simp only[eK,Tryz.f61,seval];simp only[Wb,Qa,seval];refine aC (QiD s) ?_;cases hf:(decide (s.length≤120)&&(Ql s).all Xb)
 ·simp only[Qn1,QnE,Qa,seval]
 simp only[Qoc,Qod,Qa,seval];obtain⟨hl,ha⟩:=Qmw.1 hf;have hl:=of_decide_eq_true hl;have hne:s≠[]:=by
  rintro rfl;cases ha
 refine Qk (DfI s) _ ⟨_,s,rfl,rfl,hl,fun _=>ha,by unfold Tn;rw[QmC hne],(by rfl)⟩ ?_;rintro _ st ⟨f,u,rfl,rfl,hul,hua,hx,h0⟩;simp only[h0,QP,Qa,seval];by_cases hu:u=[]
 ·subst hu;have b0:(!(([]:List UInt8)==[]))=false:=rfl;have e:(Ql s).any ZN=false:=hx;simp only[b0,e,QnE,Qa,seval]
 ·have b0:(!(u==[]))=true:=by simp[hu]
  simp only[b0,h0,Qa,seval];refine aC (QiE u hul) ?_;simp only[Qa,seval];refine aC (QdL (Jr u).2) ?_;have hw:Tn u=(Tn (Jr u).1||ZN (Jr u).2):=by
   unfold Tn;rw[QmC hu];rcases V4 u with⟨h1,h2,h3⟩|⟨h1,h2⟩
   ·rw[h1,h2,QmD rfl,Y7 h3];simp
   ·have hp:Ql u=Ql (Jr u).1++[(Jr u).2]:=by
     conv=>lhs;rw[h1]
     exact FH h2
    have ha':=hua hu;rw[hp,QnO,QmT]at ha';have hn:(Jr u).1≠[]:=by
     intro h;rw[h]at ha';cases ha'.1
    rw[QmC hn,hp];simp
  cases hq:ZN (Jr u).2
  ·rw[hq,Qow]at hw;simp only[Qa,seval];have hlen:(Jr u).1.length<u.length∧((Jr u).1≠[]→(Ql (Jr u).1).all Xb=true):=by
    rcases V4 u with⟨h1,h2,h3⟩|⟨h1,h2⟩
    ·rw[h1];exact⟨QnR.2 hu,fun h=>absurd rfl h⟩
    ·have hp:Ql u=Ql (Jr u).1++[(Jr u).2]:=by
      conv=>lhs;rw[h1]
      exact FH h2
     have ha':=hua hu;rw[hp,QnO,QmT]at ha';refine⟨?_,fun _=>ha'.1⟩;have:=congrArg List.length h1;simp at this;omega
   exact⟨(Jr u).1.length,hlen.1,_,(Jr u).1,rfl,rfl,by omega,hlen.2,by rw[hx,hw],(by rfl)⟩
  ·rw[hq,Qox]at hw;have e:(Ql s).any ZN=true:=hx.trans hw;simp only[e,Qod,Qa,seval]

theorem XL {α:Type}{l:List α}{q:α→Bool}:(l.any fun x=>!q x)=!l.all q:=by
 induction l with
 |nil=>rfl
 |cons x l ih=>simp[ih]

theorem QdM (s:List UInt8)(hs:s.length≤17592186044000):Qi Tryz.prog 215 [.str s,.str [46]] (.list ((Ql s).map Jq)):=by
 refine wF Tryz.func215 ?_;simp only[eK,Tryz.f215,seval];simp only[Qa,seval];refine aC (QiC s hs) ?_;simp only[Qa,seval]

def IfI (s:List UInt8)(k:Nat)(st:St):Prop :=
 ∃f i,st=⟨f,[Qb],[]⟩∧k=(Ql s).length-i∧((Ql s).take i).all Xb=true∧f 0=.str s∧f 6=.list ((Ql s).map Jq)∧f 7=.int .i64 ((Ql s).length:Nat)∧f 8=.int .i64 (i:Nat)

theorem QiF (s:List UInt8)(hs:s.length≤17592186044000):Qi Tryz.prog 213 [.str s] (.bool (decide (s.length≤120)&&(Ql s).all Xb)):=by
 have hl:=HW s;have hc:s.count 46≤s.length:=List.count_le_length;refine wF Tryz.func213 ?_;simp only[eK,Tryz.f213,seval];simp only[Qa,seval];refine aC (QdM s hs) ?_;simp only[Qnq,Qa,seval];refine Qk (IfI s) _ ⟨_,0,rfl,rfl,rfl,(by rfl),(by rfl),(by rfl),(by rfl)⟩ ?_;rintro _ st ⟨f,i,rfl,rfl,hx,h0,h6,h7,h8⟩;simp only[h7,h8,Qa,seval];by_cases hlt:i<(Ql s).length
 ·obtain⟨x,hi⟩:∃x,(Ql s)[i]? = some x:=⟨(Ql s)[i],Qmv hlt⟩;have hg:((Ql s).map Jq)[i]? = some (.str x):=by simp[hi,Jq]
  have e1:=Qw i _ hlt (by simp only[maxLen];omega);have ht:=U7 (q:=Xb) hi;rw[hx,Qoc]at ht;simp only[QD hlt,Qv,QnY,Qf,hg,h6,h8,eE,seval];refine aC (QdH x) ?_;cases hp:Xb x
  ·have hf:(Ql s).all Xb=false:=by
    rw[Qoq];intro h';rw[QmI.1 h' x (QmJ hi)]at hp;cases hp
   simp only[hf,QnE,Qoe,Qa,seval]
  ·rw[hp]at ht;simp only[h8,e1,Qod,Qa,seval];exact⟨(Ql s).length-(i+1),by omega,_,i+1,rfl,rfl,ht,(by exact h0),(by exact h6),(by exact h7),(by rfl)⟩
 ·rw[Qm5 (by omega)]at hx;have e:decide ((s.length:Int)≤120)=decide (s.length≤120):=by rw[decide_eq_decide];omega
  simp only[QI hlt,h0,hx,e,QnK,Qa,seval]

theorem Qf4 (s:List UInt8)(m:Qh):Qd Tryz.prog 216 [Jq s] m fun y m1=>y=.bool (ZN s)∧m1=m:=by
 refine wG Tryz.func216 ?_;simp only[eK,Tryz.f216,seval];simp only[Jq,QP,Qa,seval];have e:ZN s=U8.any fun w=>s==w:=rfl
 simp only[U8,List.any_cons,List.any_nil,Qow]at e
 repeat' (first|(refine QW (fun h=>?_) (fun h=>?_)<;>simp only[h,QP,Qa,seval])|(refine XM (fun h=>?_) (fun h=>?_)<;>simp only[h,Qj,QP,eE,seval])|(refine XN (fun h=>?_) (fun h=>?_)<;>simp only[h,Qj,QP,eE,seval]))
 all_goals(simp only[*,Qog,Qox,Qow]at e;simp only[e])

theorem QdN (s:List UInt8):Qi Tryz.prog 130 [.str s] (.bool (Wa s)):=by
 refine wF Tryz.func130 ?_;simp only[eK,Tryz.f130,seval];simp only[Wa,Qa,seval];refine aC (QdH s) ?_;cases Xb s
 ·simp only[Qn1,Qa,seval]
 ·simp only[Qoc,Qa,seval];refine aC (Qix s) ?_;simp only[Qa,seval]

theorem QdO (s:List UInt8)(hs:s.length≤17592186044000):Qi Tryz.prog 127 [.str s] (.bool (Wb s)):=by
 have hl:=HW s;have hc:s.count 46≤s.length:=List.count_le_length;refine wF Tryz.func127 ?_;simp only[eK,Tryz.f127,seval];simp only[Wb,Qa,seval];refine aC (QiF s hs) ?_;cases hf:(decide (s.length≤120)&&(Ql s).all Xb)
 ·simp only[Qn1,Qa,seval]
 ·simp only[Qoc,Qa,seval];refine aC (QdM s hs) ?_;simp only[Qa,seval];refine Qg (Qir (Ql s) (by simp only[maxLen];omega) ZN 216 [] _ fun o _=>Qf4 o _) (by simp only[Qm3,Qnx,Qa,seval]<;>rfl) ?_;simp only[Qa,seval]

section
variable (m:Qh)

theorem QiG (g:PG):Qd Tryz.prog 123 [Qm g] m fun y m1=>y=.bool (!Wc g)∧m1=m:=by
 refine wG Tryz.func123 ?_;simp only[eK,Tryz.f123,seval];have e:decide ((g.ops.length:Int) > 64)=!Wc g:=by unfold Wc;exact(by rw[Qnp];simp only[Qmz,Qnt,Qov];omega)
 simp only[Qm,PG.cells,Qnq,e,eE,seval]

theorem QiH (x:PE):Qd Tryz.prog 125 [QE x] m fun y m1=>y=.bool (!YH x)∧m1=m:=by
 refine wG Tryz.func125 ?_;simp only[eK,Tryz.f125,seval];have e1:decide ((x.items.length:Int)<1)=!decide (1≤x.items.length):=(by rw[Qnp];simp only[Qmz,Qnt,Qov];omega);have e2:decide ((x.items.length:Int) > 64)=!decide (x.items.length≤64):=(by rw[Qnp];simp only[Qmz,Qnt,Qov];omega);have e3:decide ((x.free.length:Int) > 16)=!decide (x.free.length≤16):=(by rw[Qnp];simp only[Qmz,Qnt,Qov];omega);simp only[QE,PE.cells,Qnq,e1,YH,eE,seval];cases a1:decide (1≤x.items.length)<;>cases a2:decide (x.items.length≤64)<;>cases a3:decide (x.free.length≤16)<;>simp only[a2,a3,Qod,QnE,QnK,Qoe,Qnq,e2,e3,eE,seval]

theorem QiI (o:PO):Qd Tryz.prog 129 [Qz o] m fun y m1=>y=.bool (!Wa o.name)∧m1=m:=by
 refine wG Tryz.func129 ?_;simp only[eK,Tryz.f129,seval];simp only[Qz,PO.cells,eE,seval];refine aC (QdN o.name) ?_;simp only[Qa,seval]

theorem QiJ (o:PI):Qd Tryz.prog 133 [Xn o] m fun y m1=>y=.bool (!Wa o.name)∧m1=m:=by
 refine wG Tryz.func133 ?_;simp only[eK,Tryz.f133,seval];simp only[Xn,PI.cells,eE,seval];refine aC (QdN o.name) ?_;simp only[Qa,seval]

theorem QiK (g:PG)(hs:g.name.length≤17592186044000)(hl:g.ops.length≤maxLen):Qd Tryz.prog 126 [Qm g] m fun y m1=>y=.bool (!KD g)∧m1=m:=by
 refine wG Tryz.func126 ?_;simp only[eK,Tryz.f126,seval];simp only[Qm,PG.cells,KD,eE,seval];refine aC (QdO g.name hs) ?_;cases Wb g.name
 ·simp only[Qn1,QnE,Qa,seval]
 ·simp only[Qoc,Qod,eE,seval];refine Qg (V0 g.ops hl (fun o=>!Wa o.name) 129 [] _ fun o _=>QiI _ o) (by simp only[Qm3,Qnx,Qa,seval]<;>rfl) ?_;simp only[XL,Qa,seval]

theorem QiL (x:PE)(hs:x.name.length≤17592186044000)(hl:x.items.length≤maxLen):Qd Tryz.prog 131 [QE x] m fun y m1=>y=.bool (!Un x)∧m1=m:=by
 refine wG Tryz.func131 ?_;simp only[eK,Tryz.f131,seval];simp only[QE,PE.cells,Un,eE,seval];refine aC (QdO x.name hs) ?_;cases Wb x.name
 ·simp only[Qn1,QnE,Qa,seval]
 ·simp only[Qoc,Qod,eE,seval];refine Qg (Rl x.items hl (fun o=>!Wa o.name) 133 [] _ fun o _=>QiJ _ o) (by simp only[Qm3,Qnx,Qa,seval]<;>rfl) ?_;simp only[XL,Qa,seval]

theorem QiM (x y:PG):Qd Tryz.prog 135 [Qm x,Qm y] m fun r m1=>r=.bool ((Xt PG.name) x y)∧m1=m:=by
 refine wG Tryz.func135 ?_;simp only[eK,Tryz.f135,seval];simp only[Qm,PG.cells,QP,Xt,eE,seval]

theorem QiN (x y:PE):Qd Tryz.prog 137 [QE x,QE y] m fun r m1=>r=.bool ((Xt PE.name) x y)∧m1=m:=by
 refine wG Tryz.func137 ?_;simp only[eK,Tryz.f137,seval];simp only[QE,PE.cells,QP,Xt,eE,seval]

theorem QiO (x y:PO):Qd Tryz.prog 140 [Qz x,Qz y] m fun r m1=>r=.bool ((Kk PO.num) x y)∧m1=m:=by
 refine wG Tryz.func140 ?_;simp only[eK,Tryz.f140,seval];simp only[Qz,PO.cells,Kk,eE,seval]

theorem QiP (x y:PI):Qd Tryz.prog 143 [Xn x,Xn y] m fun r m1=>r=.bool ((Kk PI.num) x y)∧m1=m:=by
 refine wG Tryz.func143 ?_;simp only[eK,Tryz.f143,seval];simp only[Xn,PI.cells,Kk,eE,seval]

theorem QiQ (g:PG)(hl:g.ops.length≤maxLen):Qd Tryz.prog 138 [Qm g] m fun y m1=>y=.bool (!We g)∧m1=m:=by
 refine wG Tryz.func138 ?_;simp only[eK,Tryz.f138,seval];simp only[Qm,PG.cells,We,eE,seval];refine Qg (Qit g.ops hl (Kk PO.num) 140 [] _ fun x _ y _=>QiO _ x y) (by simp only[Qm3,Qnx,Qa,seval]<;>rfl) ?_;simp only[Qa,seval]

theorem QiR (x:PE)(hl:x.items.length≤maxLen):Qd Tryz.prog 141 [QE x] m fun y m1=>y=.bool (!Uo x)∧m1=m:=by
 refine wG Tryz.func141 ?_;simp only[eK,Tryz.f141,seval];simp only[QE,PE.cells,Uo,eE,seval];refine Qg (Qiv x.items hl (Kk PI.num) 143 [] _ fun x _ y _=>QiP _ x y) (by simp only[Qm3,Qnx,Qa,seval]<;>rfl) ?_;simp only[Qa,seval]

end

section
variable {M:Nat}(P:PL)(hP:P.ok M)(hM:M≤17592186044000)
include hP hM

omit hM in
theorem z67:Qi Tryz.prog 67 [P.av] (.bool (!Dh P)):=by
 have e0:P.av=.agg [.list (P.progs.map Qm),.list (P.enums.map QE)]:=rfl;have e1:decide ((if (P.progs.length:Int)<(P.enums.length:Int)then(P.enums.length:Int)else(P.progs.length:Int)) > 64)=!(decide (P.progs.length≤64)&&decide (P.enums.length≤64)):=by
  rw[Bool.not_and];split<;>exact(by rw[Qnp];simp only[Qmz,Qnt,Qov,Qmy];omega)
 refine wF Tryz.func67 ?_;simp only[eK,Tryz.f67,seval];simp only[e0,Qnq,e1,Dh,eE,seval];cases(decide (P.progs.length≤64)&&decide (P.enums.length≤64))
 ·simp only[QnE,Qn1,Qa,seval]
 simp only[Qod,Qoc,eE,seval];refine Qg (BK P.progs hP.len1 (fun g=>!Wc g) 123 [] _ fun o _=>QiG _ o) (by simp only[Qm3,Qnx,Qa,seval]<;>rfl) ?_;simp only[XL,Qa,seval];cases P.progs.all Wc
 ·simp only[QnE,Qn1,Qa,seval]
 simp only[Qod,Qoc,eE,seval];refine Qg (DE P.enums hP.len2 (fun g=>!YH g) 125 [] _ fun o _=>QiH _ o) (by simp only[Qm3,Qnx,Qa,seval]<;>rfl) ?_;simp only[XL,Qa,seval]

omit hM in
theorem QiS (hN1:∀g∈P.progs,g.name.length≤17592186044000)(hN2:∀g∈P.enums,g.name.length≤17592186044000):Qi Tryz.prog 68 [P.av] (.bool (!FI P)):=by
 have e0:P.av=.agg [.list (P.progs.map Qm),.list (P.enums.map QE)]:=rfl;refine wF Tryz.func68 ?_;simp only[eK,Tryz.f68,seval];simp only[e0,FI,eE,seval];refine Qg (BK P.progs hP.len1 (fun g=>!KD g) 126 [] _ fun o ho=>QiK _ o (hN1 o ho) (hP.progs o ho).len) (by simp only[Qm3,Qnx,Qa,seval]<;>rfl) ?_;simp only[XL,Qa,seval];cases P.progs.all KD
 ·simp only[QnE,Qn1,Qa,seval]
 simp only[Qod,Qoc,eE,seval];refine Qg (DE P.enums hP.len2 (fun g=>!Un g) 131 [] _ fun o ho=>QiL _ o (hN2 o ho) (hP.enums o ho).len1) (by simp only[Qm3,Qnx,Qa,seval]<;>rfl) ?_;simp only[XL,Qa,seval]

omit hM in
theorem z69:Qi Tryz.prog 69 [P.av] (.bool (!HX P)):=by
 have e0:P.av=.agg [.list (P.progs.map Qm),.list (P.enums.map QE)]:=rfl;refine wF Tryz.func69 ?_;simp only[eK,Tryz.f69,seval];simp only[e0,HX,eE,seval];refine Qg (Qis P.progs hP.len1 (Xt PG.name) 135 [] _ fun x _ y _=>QiM _ x y) (by simp only[Qm3,Qnx,Qa,seval]<;>rfl) ?_;simp only[Qa,seval];cases ZR P.progs (Xt PG.name)
 ·simp only[QnE,Qn1,Qa,seval]
 simp only[Qod,Qoc,eE,seval];refine Qg (Qiu P.enums hP.len2 (Xt PE.name) 137 [] _ fun x _ y _=>QiN _ x y) (by simp only[Qm3,Qnx,Qa,seval]<;>rfl) ?_;simp only[Qa,seval];cases ZR P.enums (Xt PE.name)
 ·simp only[QnE,Qn1,Qa,seval]
 simp only[Qod,Qoc,eE,seval];refine Qg (BK P.progs hP.len1 (fun g=>!We g) 138 [] _ fun o ho=>QiQ _ o (hP.progs o ho).len) (by simp only[Qm3,Qnx,Qa,seval]<;>rfl) ?_;simp only[XL,Qa,seval];cases P.progs.all We
 ·simp only[QnE,Qn1,Qa,seval]
 simp only[Qod,Qoc,eE,seval];refine Qg (DE P.enums hP.len2 (fun g=>!Uo g) 141 [] _ fun o ho=>QiR _ o (hP.enums o ho).len1) (by simp only[Qm3,Qnx,Qa,seval]<;>rfl) ?_;simp only[XL,Qa,seval]

end

theorem IC (n c:Nat):AV.shN n (.fn (.func c) [] [])=.fn (.func c) [] []:=by
 induction n with
 |zero=>rfl
 |succ n ih=>rw[AV.shN,ih];rfl

theorem QiT (nm:PO→List UInt8)(c:Nat)(hn:∀x,Qi Tryz.prog c [Qz x] (.str (nm x)))(y x:PO)(fr:Nat→Ob)(m:Qh)(h3:fr 3=.cells [.fn (.func c) [] []])(h6:fr 6=.cells x.cells) :
  Qd Tryz.prog 220 [Qz y,.ptr 3 3 0,.ptr 3 6 0] (Qb :: Qb :: Qb :: fr :: m) fun r m1=>r=.bool (nm y==nm x)∧m1=Qb :: Qb :: Qb :: fr :: m:=by
 have hy:=hn y;have hx:=hn x;have g3:∀n,AV.shN n (.fn (.func c) [] [])=.fn (.func c) [] []:=fun n=>IC n c
 simp only[Qz,PO.cells]at hy hx h6;refine wG Tryz.func220 ?_;simp only[eK,Tryz.f220,seval];simp only[Qz,PO.cells,h3,g3,eE,seval];refine J6 (fa:=[]) (fb:=[]) (by rfl) hy rfl rfl rfl (.inl rfl) ?_;simp only[h3,h6,g3,eE,seval];refine J6 (fa:=[]) (fb:=[]) (by rfl) hx rfl rfl rfl (.inl rfl) ?_;simp only[QP,Qa,seval]

section
variable (L:List PO)(hl:L.length≤maxLen)(nm:PO→List UInt8)(c:Nat)(m:Qh)

def ReO (k:Nat)(st:St):Prop :=
 ∃f fr i,st=⟨f,fr :: m,[]⟩∧k=L.length-i∧Qp (uniq L nm) i=true∧f 0=.list (L.map Qz)∧f 3=.ptr 0 3 0∧f 7=.list (L.map Qz)∧f 8=.int .i64 (L.length:Nat)∧f 9=.int .i64 (i:Nat)∧fr 3=.cells [.fn (.func c) [] []]∧∀s∈[6],(fr s).isRow=false

include hl in
theorem QiU (hn:∀x,Qi Tryz.prog c [Qz x] (.str (nm x))) :
  Qd Tryz.prog 146 [.list (L.map Qz),.fn (.func c) [] []] m fun y m1=>y=.bool (!YG L nm)∧m1=m:=by
 refine wG Tryz.func146 ?_;simp only[eK,Tryz.f146,seval];simp only[Qnq,eE,seval];refine Qk (ReO L nm c m) _ ⟨_,_,0,rfl,rfl,rfl,(by rfl),(by rfl),(by rfl),(by rfl),(by rfl),(by rfl),by simp<;>rfl⟩ ?_;rintro _ st ⟨f0,fr0,i,rfl,rfl,hx,h00,h30,h70,h80,h90,m30,r6⟩;refine QL (a:=_) [6] r6 ?_;intro f fr hf hm hn6;have h0:f 0=.list (L.map Qz):=by rw[hf,h00]<;>rfl
 have h3:f 3=.ptr 0 3 0:=by rw[hf,h30]<;>rfl
 have h7:f 7=.list (L.map Qz):=by rw[hf,h70]<;>rfl
 have h8:f 8=.int .i64 (L.length:Nat):=by rw[hf,h80]<;>rfl
 have h9:f 9=.int .i64 (i:Nat):=by rw[hf,h90]<;>rfl
 have m3:fr 3=.cells [.fn (.func c) [] []]:=by rw[hm 3 (by decide),m30]<;>rfl
 have n6:=hn6 6 (by decide);clear hf hm hn6 h00 h30 h70 h80 h90 m30 r6;simp only[h8,h9,Qa,seval];by_cases hlt:i<L.length
 ·obtain⟨x,hi⟩:∃x,L[i]? = some x:=⟨L[i],Qmv hlt⟩;have hg:(L.map Qz)[i]? = some (Qz x):=by simp[hi]
  have e1:=Qw i _ hlt hl;have hle:(i≤L.length)=True:=eq_true (by omega);have ht:((L.map Qz).drop 0).take (i-0)=(L.take i).map Qz:=by simp
  have hstep:Qp (uniq L nm) (i+1)=!(L.take i).any fun y=>nm y==nm x:=by
   rw[Qp,hx,Qoc,GJ hi,BI]
  have hcl:=fun(fr:Nat→Ob) (h3:fr 3=.cells [.fn (.func c) [] []]) (h6:fr 6=.cells x.cells)=>V0 (L.take i) (by simp;omega) (fun y=>nm y==nm x) 220 [.ptr 0 3 0,.ptr 0 6 0] (fr :: m) fun y _=>QiT nm c hn y x fr m h3 h6
  simp only[QD hlt,Qv,QnY,Qf,hg,Qz,PO.cells,n6,h0,h7,h9,KY,Jc,XD,Qn8,Qnq,QmE,Qms,hle,true_or,Qnu,←List.map_take,eE,seval];refine Qg (hcl _ (by exact m3) (by rfl)) (by simp only[Qm3,Qnx,h3,Qa,seval]<;>rfl) ?_;cases hp:(L.take i).any fun y=>nm y==nm x
  ·rw[hp]at hstep;simp only[h9,e1,Qa,seval];exact⟨L.length-(i+1),by omega,_,_,i+1,rfl,rfl,hstep,(by exact h0),(by exact h3),(by exact h7),(by exact h8),(by rfl),(by exact m3),by simp<;>rfl⟩
  ·rw[hp]at hstep;have hf:YG L nm=false:=by
    rw[Qoq];intro h';rw[QV.2 fun k hk=>QV.1 h' k (by omega)]at hstep;cases hstep
   simp only[hf,QnE,Qa,seval]
 ·have hf:YG L nm=true:=QV.2 fun k hk=>QV.1 hx k (by omega)
  simp only[QI hlt,hf,Qod,Qa,seval]

end

theorem QiV (nm:PI→List UInt8)(c:Nat)(hn:∀x,Qi Tryz.prog c [Xn x] (.str (nm x)))(y x:PI)(fr:Nat→Ob)(m:Qh)(h3:fr 3=.cells [.fn (.func c) [] []])(h6:fr 6=.cells x.cells) :
  Qd Tryz.prog 221 [Xn y,.ptr 3 3 0,.ptr 3 6 0] (Qb :: Qb :: Qb :: fr :: m) fun r m1=>r=.bool (nm y==nm x)∧m1=Qb :: Qb :: Qb :: fr :: m:=by
 have hy:=hn y;have hx:=hn x;have g3:∀n,AV.shN n (.fn (.func c) [] [])=.fn (.func c) [] []:=fun n=>IC n c
 simp only[Xn,PI.cells]at hy hx h6;refine wG Tryz.func221 ?_;simp only[eK,Tryz.f221,seval];simp only[Xn,PI.cells,h3,g3,eE,seval];refine J6 (fa:=[]) (fb:=[]) (by rfl) hy rfl rfl rfl (.inl rfl) ?_;simp only[h3,h6,g3,eE,seval];refine J6 (fa:=[]) (fb:=[]) (by rfl) hx rfl rfl rfl (.inl rfl) ?_;simp only[QP,Qa,seval]

section
variable (L:List PI)(hl:L.length≤maxLen)(nm:PI→List UInt8)(c:Nat)(m:Qh)

def ReI (k:Nat)(st:St):Prop :=
 ∃f fr i,st=⟨f,fr :: m,[]⟩∧k=L.length-i∧Qp (uniq L nm) i=true∧f 0=.list (L.map Xn)∧f 3=.ptr 0 3 0∧f 7=.list (L.map Xn)∧f 8=.int .i64 (L.length:Nat)∧f 9=.int .i64 (i:Nat)∧fr 3=.cells [.fn (.func c) [] []]∧∀s∈[6],(fr s).isRow=false

include hl in
theorem QiW (hn:∀x,Qi Tryz.prog c [Xn x] (.str (nm x))) :
  Qd Tryz.prog 149 [.list (L.map Xn),.fn (.func c) [] []] m fun y m1=>y=.bool (!YG L nm)∧m1=m:=by
 refine wG Tryz.func149 ?_;simp only[eK,Tryz.f149,seval];simp only[Qnq,eE,seval];refine Qk (ReI L nm c m) _ ⟨_,_,0,rfl,rfl,rfl,(by rfl),(by rfl),(by rfl),(by rfl),(by rfl),(by rfl),by simp<;>rfl⟩ ?_;rintro _ st ⟨f0,fr0,i,rfl,rfl,hx,h00,h30,h70,h80,h90,m30,r6⟩;refine QL (a:=_) [6] r6 ?_;intro f fr hf hm hn6;have h0:f 0=.list (L.map Xn):=by rw[hf,h00]<;>rfl
 have h3:f 3=.ptr 0 3 0:=by rw[hf,h30]<;>rfl
 have h7:f 7=.list (L.map Xn):=by rw[hf,h70]<;>rfl
 have h8:f 8=.int .i64 (L.length:Nat):=by rw[hf,h80]<;>rfl
 have h9:f 9=.int .i64 (i:Nat):=by rw[hf,h90]<;>rfl
 have m3:fr 3=.cells [.fn (.func c) [] []]:=by rw[hm 3 (by decide),m30]<;>rfl
 have n6:=hn6 6 (by decide);clear hf hm hn6 h00 h30 h70 h80 h90 m30 r6;simp only[h8,h9,Qa,seval];by_cases hlt:i<L.length
 ·obtain⟨x,hi⟩:∃x,L[i]? = some x:=⟨L[i],Qmv hlt⟩;have hg:(L.map Xn)[i]? = some (Xn x):=by simp[hi]
  have e1:=Qw i _ hlt hl;have hle:(i≤L.length)=True:=eq_true (by omega);have ht:((L.map Xn).drop 0).take (i-0)=(L.take i).map Xn:=by simp
  have hstep:Qp (uniq L nm) (i+1)=!(L.take i).any fun y=>nm y==nm x:=by
   rw[Qp,hx,Qoc,GJ hi,BI]
  have hcl:=fun(fr:Nat→Ob) (h3:fr 3=.cells [.fn (.func c) [] []]) (h6:fr 6=.cells x.cells)=>Rl (L.take i) (by simp;omega) (fun y=>nm y==nm x) 221 [.ptr 0 3 0,.ptr 0 6 0] (fr :: m) fun y _=>QiV nm c hn y x fr m h3 h6
  simp only[QD hlt,Qv,QnY,Qf,hg,Xn,PI.cells,n6,h0,h7,h9,KY,Jc,XD,Qn8,Qnq,QmE,Qms,hle,true_or,Qnu,←List.map_take,eE,seval];refine Qg (hcl _ (by exact m3) (by rfl)) (by simp only[Qm3,Qnx,h3,Qa,seval]<;>rfl) ?_;cases hp:(L.take i).any fun y=>nm y==nm x
  ·rw[hp]at hstep;simp only[h9,e1,Qa,seval];exact⟨L.length-(i+1),by omega,_,_,i+1,rfl,rfl,hstep,(by exact h0),(by exact h3),(by exact h7),(by exact h8),(by rfl),(by exact m3),by simp<;>rfl⟩
  ·rw[hp]at hstep;have hf:YG L nm=false:=by
    rw[Qoq];intro h';rw[QV.2 fun k hk=>QV.1 h' k (by omega)]at hstep;cases hstep
   simp only[hf,QnE,Qa,seval]
 ·have hf:YG L nm=true:=QV.2 fun k hk=>QV.1 hx k (by omega)
  simp only[QI hlt,hf,Qod,Qa,seval]

end

theorem QiX (o:PO):Qi Tryz.prog 147 [Qz o] (.str o.name):=by
 refine wF Tryz.func147 ?_;simp only[eK,Tryz.f147,seval];simp only[Qz,PO.cells,eE,seval]

theorem QiY (o:PI):Qi Tryz.prog 150 [Xn o] (.str o.name):=by
 refine wF Tryz.func150 ?_;simp only[eK,Tryz.f150,seval];simp only[Xn,PI.cells,eE,seval]

theorem QiZ (x:PE)(g:PG)(fr:Nat→Ob)(m:Qh)(h2:fr 2=.cells g.cells):Qd Tryz.prog 145 [QE x,.ptr 3 2 0] (Qb :: Qb :: Qb :: fr :: m) fun y m1=>y=.bool (x.name==g.name)∧m1=Qb :: Qb :: Qb :: fr :: m:=by
 simp only[PG.cells]at h2;refine wG Tryz.func145 ?_;simp only[eK,Tryz.f145,seval];simp only[QE,PE.cells,h2,QP,eE,seval]

theorem Qi0 (x:PE)(hl:x.items.length≤maxLen)(m:Qh):Qd Tryz.prog 148 [QE x] m fun y m1=>y=.bool (!U9 x)∧m1=m:=by
 refine wG Tryz.func148 ?_;simp only[eK,Tryz.f148,seval];simp only[QE,PE.cells,U9,eE,seval];refine Qg (QiW x.items hl PI.name 150 _ QiY) (by simp only[Qm3,Qnx,Qa,seval]<;>rfl) ?_;simp only[Qa,seval]

section
variable {M:Nat}(P:PL)(hP:P.ok M)
include hP

theorem Qi1 (g:PG)(hl:g.ops.length≤maxLen)(fr:Nat→Ob)(h1:fr 1=.cells [.list (P.progs.map Qm),.list (P.enums.map QE)]) :
  Qd Tryz.prog 144 [Qm g,.ptr 3 1 0] [Qb,Qb,Qb,fr] fun y m1=>y=.bool (!JT P g)∧m1=[Qb,Qb,Qb,fr]:=by
 have e:JT P g=(!(P.enums.any fun e=>e.name==g.name)&&YG g.ops PO.name):=by rw[JT,BI]
 refine wG Tryz.func144 ?_;simp only[eK,Tryz.f144,seval];simp only[Qm,PG.cells,h1,e,eE,seval];refine Qg (DE P.enums hP.len2 (fun e=>e.name==g.name) 145 [.ptr 0 2 0] _ fun o _=>QiZ o g _ _ (by rfl)) (by simp only[Qm3,Qnx,Qa,seval]<;>rfl) ?_;cases P.enums.any fun e=>e.name==g.name
 ·simp only[QnE,Qoc,eE,seval];refine Qg (QiU g.ops hl PO.name 147 _ QiX) (by simp only[Qm3,Qnx,Qa,seval]<;>rfl) ?_;simp only[Qa,seval]
 ·simp only[Qod,Qn1,QnE,Qa,seval]

theorem z70:Qi Tryz.prog 70 [P.av] (.bool (!VY P)):=by
 have e0:P.av=.agg [.list (P.progs.map Qm),.list (P.enums.map QE)]:=rfl;refine wF Tryz.func70 ?_;simp only[eK,Tryz.f70,seval];simp only[e0,VY,eE,seval];refine Qg (BK P.progs hP.len1 (fun g=>!JT P g) 144 [.ptr 0 1 0] _ fun o ho=>Qi1 P hP o (hP.progs o ho).len _ (by rfl)) (by simp only[Qm3,Qnx,Qa,seval]<;>rfl) ?_;simp only[XL,Qa,seval];cases P.progs.all (JT P)
 ·simp only[QnE,Qn1,Qa,seval]
 simp only[Qod,Qoc,eE,seval];refine Qg (DE P.enums hP.len2 (fun g=>!U9 g) 148 [] _ fun o ho=>Qi0 o (hP.enums o ho).len1 _) (by simp only[Qm3,Qnx,Qa,seval]<;>rfl) ?_;simp only[XL,Qa,seval]

end

theorem Qi2 (x:PS)(n:Int)(fr:Nat→Ob)(m:Qh)(h3:fr 3=.cells [.int .i64 n]):Qd Tryz.prog 286 [Z9 x,.ptr 2 3 0] (Qb :: Qb :: fr :: m) fun y m1=>y=.bool (decide (x.lo≤n)&&decide (n≤x.hi))∧m1=Qb :: Qb :: fr :: m:=by
 refine wG Tryz.func286 ?_;simp only[eK,Tryz.f286,seval];simp only[Z9,PS.cells,h3,eE,seval];cases h:decide (x.lo≤n)<;>simp only[h3,Qoc,Qn1,eE,seval]

theorem Qi3 (L:List PS)(hl:L.length≤maxLen)(n:Int):Qi Tryz.prog 223 [.list (L.map Z9),.int .i64 n] (.bool (kept L n)):=by
 refine wF Tryz.func223 ?_;simp only[eK,Tryz.f223,seval];simp only[eE,seval];refine Qg (Qip L hl (fun x=>decide (x.lo≤n)&&decide (n≤x.hi)) 286 [.ptr 0 3 0] _ fun o _=>Qi2 o n _ _ (by rfl)) (by simp only[Qm3,Qnx,Qa,seval]<;>rfl) ?_;simp only[kept,Qa,seval]

theorem Qi4 (o:PO)(m:Qh):Qd Tryz.prog 152 [Qz o] m fun y m1=>y=.bool (!JU o)∧m1=m:=by
 refine wG Tryz.func152 ?_;simp only[eK,Tryz.f152,seval];have e1:decide (o.num<1)=!decide (o.num≥1):=(by rw[Qnp];simp only[Qmz,Qnt,Qov];omega);have e2:decide (o.num > 65535)=!decide (o.num≤65535):=(by rw[Qnp];simp only[Qmz,Qnt,Qov];omega);simp only[Qz,PO.cells,JU,e1,eE,seval];cases decide (o.num≥1)<;>simp only[Qod,QnE,Qoc,Qn1,e2,eE,seval]

theorem Qi5 (g:PG)(hl:g.ops.length≤maxLen)(m:Qh):Qd Tryz.prog 151 [Qm g] m fun y m1=>y=.bool (!g.ops.all JU)∧m1=m:=by
 refine wG Tryz.func151 ?_;simp only[eK,Tryz.f151,seval];simp only[Qm,PG.cells,eE,seval];refine Qg (V0 g.ops hl (fun o=>!JU o) 152 [] _ fun o _=>Qi4 o _) (by simp only[Qm3,Qnx,Qa,seval]<;>rfl) ?_;simp only[XL,Qa,seval]

theorem Qi6 (o:PI)(x:PE)(hl:x.free.length≤maxLen)(fr:Nat→Ob)(m:Qh)(h1:fr 1=.cells x.cells):Qd Tryz.prog 222 [Xn o,.ptr 3 1 0] (Qb :: Qb :: Qb :: fr :: m) fun y m1=>y=.bool (!YI x o)∧m1=Qb :: Qb :: Qb :: fr :: m:=by
 have hr:Qi Tryz.prog 223 [.list (x.free.map fun n=>AV.agg n.cells),.int .i64 o.num] (.bool (kept x.free o.num)):=Qi3 x.free hl o.num;simp only[PE.cells]at h1;refine wG Tryz.func222 ?_;simp only[eK,Tryz.f222,seval];have e2:decide (o.num > 2147483647)=!decide (o.num≤2147483647):=(by rw[Qnp];simp only[Qmz,Qnt,Qov];omega);simp only[Xn,PI.cells,YI,e2,eE,seval];cases decide (o.num≤2147483647)
 ·simp only[QnE,Qn1,Qa,seval]
 ·simp only[Qod,Qoc,h1,eE,seval];refine aC hr ?_;simp only[Bool.not_not,Qa,seval]

def Y9 (l:List PS)(i:Nat):Bool:=Q6 l Nq i&&X7 l FJ i
theorem MU (l:List PS):Qp (Y9 l) l.length=(l.all Nq&&ZR l FJ):=by
 unfold Y9 ZR;rw[DD,U6]

def OuI (x:PE)(m:Qh)(k:Nat)(st:St):Prop :=
 ∃f fr i,st=⟨f,fr :: m,[]⟩∧k=x.free.length-i∧Qp (Y9 x.free) i=true∧f 1=.ptr 0 1 0∧f 6=.list (x.free.map Z9)∧f 7=.int .i64 (x.free.length:Nat)∧f 8=.int .i64 (i:Nat)∧fr 1=.cells x.cells∧∀s∈[4],(fr s).isRow=false

theorem Qi7 (x:PE)(h0:x.items≠[])(hl1:x.items.length≤maxLen)(hl:x.free.length≤maxLen)(m:Qh):Qd Tryz.prog 153 [QE x] m fun y m1=>y=.bool (!YJ x)∧m1=m:=by
 have hsp:=MU x.free;have z1:Int.toNat 0=0:=rfl;have z0:(0≤(0:Int))=True:=by simp
 refine wG Tryz.func153 ?_;simp only[eK,Tryz.f153,seval];simp only[QE,PE.cells,Qnq,eE,seval];refine Qk (OuI x m) _ ⟨_,_,0,rfl,rfl,rfl,(by rfl),(by rfl),(by rfl),(by rfl),(by rfl),by simp<;>rfl⟩ ?_;rintro _ st ⟨f0,fr0,i,rfl,rfl,hx,h10,h60,h70,h80,m10,r4⟩;refine QL (a:=_) [4] r4 ?_;intro f fr hf hm hn4;have h1:f 1=.ptr 0 1 0:=by rw[hf,h10]<;>rfl
 have h6:f 6=.list (x.free.map Z9):=by rw[hf,h60]<;>rfl
 have h7:f 7=.int .i64 (x.free.length:Nat):=by rw[hf,h70]<;>rfl
 have h8:f 8=.int .i64 (i:Nat):=by rw[hf,h80]<;>rfl
 have m1:fr 1=.cells x.cells:=by rw[hm 1 (by decide),m10]<;>rfl
 have n4:=hn4 4 (by decide);clear hf hm hn4 h10 h60 h70 h80 m10 r4;simp only[PE.cells]at m1;simp only[h7,h8,Qa,seval];by_cases hlt:i<x.free.length
 ·obtain⟨y,hi⟩:∃y,x.free[i]? = some y:=⟨x.free[i],Qmv hlt⟩;have hg:(x.free.map Z9)[i]? = some (Z9 y):=by simp[hi]
  have e1:=Qw i _ hlt hl;have hstep:Qp (Y9 x.free) (i+1)=(Nq y&&X7 x.free FJ i):=by
   rw[Qp,hx,Qoc,Y9,Xs hi]
  have hend:Qp (Y9 x.free) (i+1)=false→YJ x=false:=by
   intro h;unfold YJ;rw[←hsp];have:Qp (Y9 x.free) x.free.length=false:=by
    rw[Qoq];intro h';rw[QV.2 fun k hk=>QV.1 h' k (by omega)]at h;cases h
   rw[this];rfl
  have fin:∀(f':Fr) (fr':Nat→Ob),Qp (Y9 x.free) (i+1)=true→f' 1=.ptr 0 1 0→f' 6=.list (x.free.map Z9)→f' 7=.int .i64 (x.free.length:Nat)→f' 8=.int .i64 ((i+1:Nat):Int)→fr' 1=.cells x.cells→(∀s∈[4],(fr' s).isRow=false)→∃k,k<x.free.length-i∧OuI x m k ⟨f',fr' :: m,[]⟩:=by
   intro f' fr' a b c d e g h;exact⟨x.free.length-(i+1),by omega,f',fr',i+1,rfl,rfl,a,b,c,d,e,g,h⟩
  have s1:Nq y=(!decide (y.lo<0) && !decide (y.hi > 2147483647) && !decide (y.hi<y.lo)):=by
   unfold Nq;exact(by rw[Qnp];simp only[Qmz,Qnt,Qov,QmT];omega)
  rw[s1]at hstep;simp only[QD hlt,Qv,QnY,Qf,hg,Z9,PS.cells,n4,h6,h8,eE,seval];cases a1:decide (y.lo<0)
  case true=>
   rw[a1,Qod,Qn1,Qn1,Qn1]at hstep;simp only[hend hstep,QnE,Qa,seval]
  cases a2:decide (y.hi > 2147483647)
  case true=>
   rw[a1,a2,Qod,Qoe,Qn1,Qn1]at hstep;simp only[a2,hend hstep,QnE,eE,seval]
  cases a3:decide (y.hi<y.lo)
  case true=>
   rw[a1,a2,a3,Qod,Qoe,Qn1]at hstep;simp only[a2,a3,hend hstep,QnE,eE,seval]
  rw[a1,a2,a3]at hstep;simp only[QnE,Qoc]at hstep;cases i with
  |zero=>
   have d0:decide (((0:Nat):Int) > 0)=false:=rfl;rw[AY]at hstep;simp only[a2,a3,h8,eE,seval];exact fin _ _ hstep (by exact h1) (by exact h6) (by exact h7) (by rfl) (by exact m1) (by simp<;>rfl)
  |succ j=>
   have d0:decide (((j+1:Nat):Int) > 0)=true:=Qou (by omega);obtain⟨z,hj⟩:∃z,x.free[j]? = some z:=⟨x.free[j]'(by omega),Qmv (by omega)⟩;have hgj:(x.free.map fun n=>AV.agg n.cells)[j]? = some (.agg z.cells):=by simp[hj]
   simp only[PS.cells]at hgj;rw[K9 hj hi]at hstep;have w:=H2 j _ hlt hl;have s2:FJ z y=!decide (y.lo≤z.hi):=by unfold FJ;exact(by rw[Qnp];simp only[Qmz,Qnt,Qov];omega)
   rw[s2]at hstep;simp only[a2,a3,d0,w,Qv,QnY,Qf,hgj,PS.cells,h1,m1,eE,seval];cases a4:decide (y.lo≤z.hi)
   ·rw[a4]at hstep;simp only[h8,e1,Qa,seval];exact fin _ _ hstep (by exact h1) (by exact h6) (by exact h7) (by rfl) (by exact m1) (by simp<;>rfl)
   ·rw[a4]at hstep;simp only[hend hstep,QnE,Qa,seval]
 ·have hfr:Qp (Y9 x.free) x.free.length=true:=QV.2 fun k hk=>QV.1 hx k (by omega)
  obtain⟨it,its,hits⟩:∃it its,x.items=it :: its:=by
   cases h:x.items with
   |nil=>exact absurd h h0
   |cons a b=>exact⟨a,b,rfl⟩
  have hr:YJ x=(it.num==0&&x.items.all (YI x)):=by
   unfold YJ;rw[←hsp,hfr,Qoc,Ha,hits]
  have hg0:(x.items.map fun n=>AV.agg n.cells)[0]? = some (.agg it.cells):=by simp[hits]
  have hne:(it.num != 0)=!(it.num==0):=rfl;simp only[PI.cells]at hg0;simp only[QI hlt,Qf,z0,z1,hg0,PI.cells,hr,hne,QmK,Qnr,h1,m1,eE,seval];cases it.num==0
  ·simp only[QnE,Qn1,Qa,seval]
  ·simp only[Qod,Qoc,m1,h1,eE,seval];refine Qg (Rl x.items hl1 (fun o=>!YI x o) 222 [.ptr 0 1 0] _ fun o _=>Qi6 o x hl _ _ (by exact m1)) (by simp only[Qm3,Qnx,h1,Qa,seval]<;>rfl) ?_;simp only[XL,Qa,seval]

theorem z71 {M:Nat}(P:PL)(hP:P.ok M)(hi:∀e∈P.enums,e.items≠[]):Qi Tryz.prog 71 [P.av] (.bool (!VZ P)):=by
 have e0:P.av=.agg [.list (P.progs.map Qm),.list (P.enums.map QE)]:=rfl;refine wF Tryz.func71 ?_;simp only[eK,Tryz.f71,seval];simp only[e0,VZ,eE,seval];refine Qg (BK P.progs hP.len1 (fun g=>!g.ops.all JU) 151 [] _ fun o ho=>Qi5 o (hP.progs o ho).len _) (by simp only[Qm3,Qnx,Qa,seval]<;>rfl) ?_;simp only[XL,Qa,seval];cases P.progs.all fun g=>g.ops.all JU
 ·simp only[QnE,Qn1,Qa,seval]
 simp only[Qod,Qoc,eE,seval];refine Qg (DE P.enums hP.len2 (fun g=>!YJ g) 153 [] _ fun o ho=>Qi7 o (hi o ho) (hP.enums o ho).len1 (hP.enums o ho).len2 _) (by simp only[Qm3,Qnx,Qa,seval]<;>rfl) ?_;simp only[XL,Qa,seval]

end Go.Proofs.YtkhpgmeokilhaaaGreatDoor.Va

namespace Go.Proofs.YtkhpgmeokilhaaaGreatDoor.Va
open Go Am Rc Bt

def bt (s:List UInt8)(i lo hi:Nat):Bool :=
 match s[i]? with
 |some b=>decide (lo≤b.toNat)&&decide (b.toNat≤hi)
 |none=>false
def tl (s:List UInt8):Nat→Nat→Bool
 |_,0=>true
 |i,n+1=>bt s i 128 191&&tl s (i+1) n
def Nr (s:List UInt8)(i b:Nat):Nat :=
 if b<128 then 1
 else if 194≤b∧b≤223∧tl s (i+1) 1=true then 2
 else if b=224∧bt s (i+1) 160 191=true∧tl s (i+2) 1=true then 3
 else if b=237∧bt s (i+1) 128 159=true∧tl s (i+2) 1=true then 3
 else if 225≤b∧b≤239∧b≠237∧tl s (i+1) 2=true then 3
 else if b=240∧bt s (i+1) 144 191=true∧tl s (i+2) 2=true then 4
 else if 241≤b∧b≤243∧tl s (i+1) 3=true then 4
 else if b=244∧bt s (i+1) 128 143=true∧tl s (i+2) 2=true then 4
 else 0
def sz (s:List UInt8)(i:Nat):Nat :=
 match s[i]? with
 |none=>0
 |some c=>Nr s i c.toNat
def Ua (s:List UInt8):Nat→Nat→Int
 |0,_=>-1
 |k+1,i=>if i<s.length then(if sz s i=0 then(i:Int)else Ua s k (i+sz s i))else -1
def Hz (s:List UInt8):Bool:=decide (Ua s s.length 0<0)

theorem Qi8 (c:UInt8)(n:Nat):decide ((c.toNat:Int)≥(n:Int))=decide (n≤c.toNat):=by simp
theorem Qi9 (c:UInt8)(n:Nat):decide ((c.toNat:Int)≤(n:Int))=decide (c.toNat≤n):=by simp

theorem V5 (s:List UInt8)(i lo hi:Nat):Qi Tryz.prog 317 [.str s,.int .i64 (i:Nat),.int .u8 (lo:Nat),.int .u8 (hi:Nat)] (.bool (bt s i lo hi)):=by
 refine wF Tryz.func317 ?_;simp only[eK,Tryz.f317,seval];by_cases hlt:i<s.length
 ·obtain⟨c,hc⟩:∃c,s[i]? = some c:=⟨s[i],Qmv hlt⟩;have hb:bt s i lo hi=(decide (lo≤c.toNat)&&decide (c.toNat≤hi)):=by simp only[bt,hc]
  simp only[QD hlt,Qv,QnY,hc,Qi8,Qa,seval];by_cases h1:lo≤c.toNat
  ·have d1:decide (lo≤c.toNat)=true:=by simpa using h1
   simp only[d1,Qv,QnY,hc,hb,Qi9,Qoc,Qa,seval]
  ·have d1:decide (lo≤c.toNat)=false:=by simpa using h1
   simp only[d1,hb,Qn1,Qa,seval]
 ·have hb:bt s i lo hi=false:=by simp only[bt,QnU (Nat.le_of_not_lt hlt)]
  simp only[QI hlt,hb,Qa,seval]

def Qf5 (s:List UInt8)(i n:Nat)(k:Nat)(st:St):Prop :=
 ∃f j,st=⟨f,[Qb],[]⟩∧k=n-j∧j≤n∧tl s i n=tl s (i+j) (n-j)∧f 0=.str s∧f 1=.int .i64 (i:Nat)∧f 2=.int .i64 (n:Nat)∧f 7=.int .i64 (j:Nat)

theorem Km (a b:Nat)(h:a+b≤maxLen):IntKind.i64.wrap ((a:Int)+(b:Int))=((a+b:Nat):Int):=by
 simp only[maxLen]at h;rw[QC];omega

theorem DG (s:List UInt8)(i n:Nat)(hi:i+n≤maxLen):Qi Tryz.prog 316 [.str s,.int .i64 (i:Nat),.int .i64 (n:Nat)] (.bool (tl s i n)):=by
 refine wF Tryz.func316 ?_;simp only[eK,Tryz.f316,seval];simp only[Qa,seval];refine Qk (Qf5 s i n) _ ⟨_,0,rfl,rfl,QmE _,rfl,rfl,rfl,rfl,rfl⟩ ?_;rintro _ st ⟨f,j,rfl,rfl,hj,ht,h0,h1,h2,h7⟩;simp only[h2,h7,Qa,seval];by_cases hlt:j<n
 ·have e0:=Km i j (by omega);have e1:=Qw j _ hlt (by omega);simp only[QD hlt,h0,h1,h7,e0,Qa,seval];refine aC (V5 s (i+j) 128 191) ?_;have hs:tl s i n=(bt s (i+j) 128 191&&tl s (i+(j+1)) (n-(j+1))):=by
   rw[ht];obtain⟨m,hm⟩:∃m,n-j=m+1:=⟨n-j-1,by omega⟩;rw[hm,show n-(j+1)=m by omega];rfl
  cases hb:bt s (i+j) 128 191
  ·rw[hb]at hs;simp only[hs,Qn1,Qa,seval]
  ·rw[hb,Qoc]at hs;simp only[h7,e1,Qa,seval];exact⟨n-(j+1),by omega,_,j+1,rfl,rfl,by omega,hs,(by exact h0),(by exact h1),(by exact h2),(by rfl)⟩
 ·have hs:tl s i n=true:=by
   rw[ht,show n-j=0 by omega];rfl
  simp only[QI hlt,hs,Qa,seval]

def V6 (s:List UInt8)(i:Nat)(c:UInt8)(D:Nat)(cond:Prop)(g:List Am.Item):Prop :=
 ∀Q:St→Prop,(∀f' B,(B=true↔cond)→f' 0=.str s→f' 1=.int .i64 (i:Nat)→f' 5=.int .u8 (c.toNat:Nat)→f' D=.bool B→Q ⟨f',[Qb],[]⟩)→
  ∀f,f 0=.str s→f 1=.int .i64 (i:Nat)→f 5=.int .u8 (c.toNat:Nat)→QB Tryz.prog g ⟨f,[Qb],[]⟩ Q

section
variable {s:List UInt8}{i:Nat}{c:UInt8}(hi:i<s.length)(hs:s.length+8≤maxLen)
include hi hs

theorem Qja:V6 s i c 12 (194≤c.toNat∧c.toNat≤223∧tl s (i+1) 1=true) VK:=by
 intro Q hQ f h0 h1 h5;have e1:IntKind.i64.wrap ((i:Int)+1)=((i+1:Nat):Int):=Km i 1 (by omega);have e2:IntKind.i64.wrap ((i:Int)+2)=((i+2:Nat):Int):=Km i 2 (by omega);simp only[VK,h5,Qa,seval]
 repeat' (first|(refine QW (fun h=>?_) (fun h=>?_)<;>simp only[h,h0,h1,h5,e1,e2,eE,seval])|(refine XM (fun h=>?_) (fun h=>?_)<;>simp only[h,Qj,h0,h1,h5,e1,Qa,seval])|(refine XN (fun h=>?_) (fun h=>?_)<;>simp only[h,Qj,h0,h1,h5,e1,e2,eE,seval])|((with_reducible apply XR (k:=316));(case hy=>rfl);(case h1=>rfl);(case hk=>exact DG s (i+1) 1 (by omega));(case h2=>rfl);(case h3=>first|exact .inl rfl|exact .inr rfl);simp only[Qa,seval]))
 all_goals(refine hQ _ _ ?_ (by exact h0) (by exact h1) (by exact h5) rfl)
 all_goals simp only[Qmz,Qov]at *
 all_goals
  constructor
  ·intro hh
   first
    |cases hh
    |(refine⟨by omega,?_⟩;first|exact hh|(refine⟨by omega,?_⟩;first|exact hh|(refine⟨by omega,?_⟩;exact hh))|exact⟨by assumption,hh⟩)
  ·intro hh
   first
    |exact hh.2.2.2
    |exact hh.2.2
    |(exfalso;omega)
    |(exfalso;simp_all;done)

theorem Qjb:V6 s i c 25 (c.toNat=224∧bt s (i+1) 160 191=true∧tl s (i+2) 1=true) VL:=by
 intro Q hQ f h0 h1 h5;have e1:IntKind.i64.wrap ((i:Int)+1)=((i+1:Nat):Int):=Km i 1 (by omega);have e2:IntKind.i64.wrap ((i:Int)+2)=((i+2:Nat):Int):=Km i 2 (by omega);simp only[VL,h5,Qa,seval]
 repeat' (first|(refine QW (fun h=>?_) (fun h=>?_)<;>simp only[h,h0,h1,h5,e1,e2,eE,seval])|(refine XM (fun h=>?_) (fun h=>?_)<;>simp only[h,Qj,h0,h1,e1,e2,Qa,seval])|(refine XN (fun h=>?_) (fun h=>?_)<;>simp only[h,Qj,h0,h1,h5,e1,e2,eE,seval])|((with_reducible apply XR (k:=317));(case hy=>rfl);(case h1=>rfl);(case hk=>exact V5 s (i+1) 160 191);(case h2=>rfl);(case h3=>first|exact .inl rfl|exact .inr rfl);simp only[Qa,seval])|((with_reducible apply XR (k:=316));(case hy=>rfl);(case h1=>rfl);(case hk=>exact DG s (i+2) 1 (by omega));(case h2=>rfl);(case h3=>first|exact .inl rfl|exact .inr rfl);simp only[Qa,seval]))
 all_goals(refine hQ _ _ ?_ (by exact h0) (by exact h1) (by exact h5) rfl)
 all_goals simp only[QmA,Qoi,ne_eq]at *
 all_goals
  constructor
  ·intro hh
   first
    |cases hh
    |(refine⟨by omega,?_⟩;first|exact hh|(refine⟨by omega,?_⟩;first|exact hh|(refine⟨by omega,?_⟩;exact hh))|exact⟨by assumption,hh⟩)
  ·intro hh
   first
    |exact hh.2.2.2
    |exact hh.2.2
    |(exfalso;omega)
    |(exfalso;simp_all;done)

theorem Qjc:V6 s i c 40 (c.toNat=237∧bt s (i+1) 128 159=true∧tl s (i+2) 1=true) VM:=by
 intro Q hQ f h0 h1 h5;have e1:IntKind.i64.wrap ((i:Int)+1)=((i+1:Nat):Int):=Km i 1 (by omega);have e2:IntKind.i64.wrap ((i:Int)+2)=((i+2:Nat):Int):=Km i 2 (by omega);simp only[VM,h5,Qa,seval]
 repeat' (first|(refine QW (fun h=>?_) (fun h=>?_)<;>simp only[h,h0,h1,h5,e1,e2,eE,seval])|(refine XM (fun h=>?_) (fun h=>?_)<;>simp only[h,Qj,h0,h1,e1,e2,Qa,seval])|(refine XN (fun h=>?_) (fun h=>?_)<;>simp only[h,Qj,h0,h1,h5,e1,e2,eE,seval])|((with_reducible apply XR (k:=317));(case hy=>rfl);(case h1=>rfl);(case hk=>exact V5 s (i+1) 128 159);(case h2=>rfl);(case h3=>first|exact .inl rfl|exact .inr rfl);simp only[Qa,seval])|((with_reducible apply XR (k:=316));(case hy=>rfl);(case h1=>rfl);(case hk=>exact DG s (i+2) 1 (by omega));(case h2=>rfl);(case h3=>first|exact .inl rfl|exact .inr rfl);simp only[Qa,seval]))
 all_goals(refine hQ _ _ ?_ (by exact h0) (by exact h1) (by exact h5) rfl)
 all_goals simp only[QmA,Qoi,ne_eq]at *
 all_goals
  constructor
  ·intro hh
   first
    |cases hh
    |(refine⟨by omega,?_⟩;first|exact hh|(refine⟨by omega,?_⟩;first|exact hh|(refine⟨by omega,?_⟩;exact hh))|exact⟨by assumption,hh⟩)
  ·intro hh
   first
    |exact hh.2.2.2
    |exact hh.2.2
    |(exfalso;omega)
    |(exfalso;simp_all;done)

theorem Qf6:V6 s i c 55 (225≤c.toNat∧c.toNat≤239∧c.toNat≠237∧tl s (i+1) 2=true) BD:=by
 intro Q hQ f h0 h1 h5;have e1:IntKind.i64.wrap ((i:Int)+1)=((i+1:Nat):Int):=Km i 1 (by omega);have e2:IntKind.i64.wrap ((i:Int)+2)=((i+2:Nat):Int):=Km i 2 (by omega);simp only[BD,h5,Qa,seval]
 repeat' (first|(refine QW (fun h=>?_) (fun h=>?_)<;>simp only[h,h0,h1,h5,e1,e2,eE,seval])|(refine XM (fun h=>?_) (fun h=>?_)<;>simp only[h,Qj,h0,h1,h5,e1,Qa,seval])|(refine XN (fun h=>?_) (fun h=>?_)<;>simp only[h,Qj,h0,h1,h5,e1,e2,eE,seval])|((with_reducible apply XR (k:=316));(case hy=>rfl);(case h1=>rfl);(case hk=>exact DG s (i+1) 2 (by omega));(case h2=>rfl);(case h3=>first|exact .inl rfl|exact .inr rfl);simp only[Qa,seval]))
 all_goals(refine hQ _ _ ?_ (by exact h0) (by exact h1) (by exact h5) rfl)
 all_goals simp only[Qmz,Qov,QmY,bne_eq_false_iff_eq,ne_eq]at *
 all_goals
  constructor
  ·intro hh
   first
    |cases hh
    |(refine⟨by omega,?_⟩;first|exact hh|(refine⟨by omega,?_⟩;first|exact hh|(refine⟨by omega,?_⟩;exact hh))|exact⟨by assumption,hh⟩)
  ·intro hh
   first
    |exact hh.2.2.2
    |exact hh.2.2
    |(exfalso;omega)
    |(exfalso;simp_all;done)

theorem Qf7:V6 s i c 72 (c.toNat=240∧bt s (i+1) 144 191=true∧tl s (i+2) 2=true) BE:=by
 intro Q hQ f h0 h1 h5;have e1:IntKind.i64.wrap ((i:Int)+1)=((i+1:Nat):Int):=Km i 1 (by omega);have e2:IntKind.i64.wrap ((i:Int)+2)=((i+2:Nat):Int):=Km i 2 (by omega);simp only[BE,h5,Qa,seval]
 repeat' (first|(refine QW (fun h=>?_) (fun h=>?_)<;>simp only[h,h0,h1,h5,e1,e2,eE,seval])|(refine XM (fun h=>?_) (fun h=>?_)<;>simp only[h,Qj,h0,h1,e1,e2,Qa,seval])|(refine XN (fun h=>?_) (fun h=>?_)<;>simp only[h,Qj,h0,h1,h5,e1,e2,eE,seval])|((with_reducible apply XR (k:=317));(case hy=>rfl);(case h1=>rfl);(case hk=>exact V5 s (i+1) 144 191);(case h2=>rfl);(case h3=>first|exact .inl rfl|exact .inr rfl);simp only[Qa,seval])|((with_reducible apply XR (k:=316));(case hy=>rfl);(case h1=>rfl);(case hk=>exact DG s (i+2) 2 (by omega));(case h2=>rfl);(case h3=>first|exact .inl rfl|exact .inr rfl);simp only[Qa,seval]))
 all_goals(refine hQ _ _ ?_ (by exact h0) (by exact h1) (by exact h5) rfl)
 all_goals simp only[QmA,Qoi,ne_eq]at *
 all_goals
  constructor
  ·intro hh
   first
    |cases hh
    |(refine⟨by omega,?_⟩;first|exact hh|(refine⟨by omega,?_⟩;first|exact hh|(refine⟨by omega,?_⟩;exact hh))|exact⟨by assumption,hh⟩)
  ·intro hh
   first
    |exact hh.2.2.2
    |exact hh.2.2
    |(exfalso;omega)
    |(exfalso;simp_all;done)

theorem Qf8:V6 s i c 87 (241≤c.toNat∧c.toNat≤243∧tl s (i+1) 3=true) BF:=by
 intro Q hQ f h0 h1 h5;have e1:IntKind.i64.wrap ((i:Int)+1)=((i+1:Nat):Int):=Km i 1 (by omega);have e2:IntKind.i64.wrap ((i:Int)+2)=((i+2:Nat):Int):=Km i 2 (by omega);simp only[BF,h5,Qa,seval]
 repeat' (first|(refine QW (fun h=>?_) (fun h=>?_)<;>simp only[h,h0,h1,h5,e1,e2,eE,seval])|(refine XM (fun h=>?_) (fun h=>?_)<;>simp only[h,Qj,h0,h1,h5,e1,Qa,seval])|(refine XN (fun h=>?_) (fun h=>?_)<;>simp only[h,Qj,h0,h1,h5,e1,e2,eE,seval])|((with_reducible apply XR (k:=316));(case hy=>rfl);(case h1=>rfl);(case hk=>exact DG s (i+1) 3 (by omega));(case h2=>rfl);(case h3=>first|exact .inl rfl|exact .inr rfl);simp only[Qa,seval]))
 all_goals(refine hQ _ _ ?_ (by exact h0) (by exact h1) (by exact h5) rfl)
 all_goals simp only[Qmz,Qov]at *
 all_goals
  constructor
  ·intro hh
   first
    |cases hh
    |(refine⟨by omega,?_⟩;first|exact hh|(refine⟨by omega,?_⟩;first|exact hh|(refine⟨by omega,?_⟩;exact hh))|exact⟨by assumption,hh⟩)
  ·intro hh
   first
    |exact hh.2.2.2
    |exact hh.2.2
    |(exfalso;omega)
    |(exfalso;simp_all;done)

theorem Qf9:V6 s i c 100 (c.toNat=244∧bt s (i+1) 128 143=true∧tl s (i+2) 2=true) BG:=by
 intro Q hQ f h0 h1 h5;have e1:IntKind.i64.wrap ((i:Int)+1)=((i+1:Nat):Int):=Km i 1 (by omega);have e2:IntKind.i64.wrap ((i:Int)+2)=((i+2:Nat):Int):=Km i 2 (by omega);simp only[BG,h5,Qa,seval]
 repeat' (first|(refine QW (fun h=>?_) (fun h=>?_)<;>simp only[h,h0,h1,h5,e1,e2,eE,seval])|(refine XM (fun h=>?_) (fun h=>?_)<;>simp only[h,Qj,h0,h1,e1,e2,Qa,seval])|(refine XN (fun h=>?_) (fun h=>?_)<;>simp only[h,Qj,h0,h1,h5,e1,e2,eE,seval])|((with_reducible apply XR (k:=317));(case hy=>rfl);(case h1=>rfl);(case hk=>exact V5 s (i+1) 128 143);(case h2=>rfl);(case h3=>first|exact .inl rfl|exact .inr rfl);simp only[Qa,seval])|((with_reducible apply XR (k:=316));(case hy=>rfl);(case h1=>rfl);(case hk=>exact DG s (i+2) 2 (by omega));(case h2=>rfl);(case h3=>first|exact .inl rfl|exact .inr rfl);simp only[Qa,seval]))
 all_goals(refine hQ _ _ ?_ (by exact h0) (by exact h1) (by exact h5) rfl)
 all_goals simp only[QmA,Qoi,ne_eq]at *
 all_goals
  constructor
  ·intro hh
   first
    |cases hh
    |(refine⟨by omega,?_⟩;first|exact hh|(refine⟨by omega,?_⟩;first|exact hh|(refine⟨by omega,?_⟩;exact hh))|exact⟨by assumption,hh⟩)
  ·intro hh
   first
    |exact hh.2.2.2
    |exact hh.2.2
    |(exfalso;omega)
    |(exfalso;simp_all;done)

end

theorem Qjd (s:List UInt8)(i:Nat)(hi:i<s.length)(hs:s.length+8≤maxLen):Qi Tryz.prog 279 [.str s,.int .i64 (i:Nat)] (.int .i64 (sz s i:Nat)):=by
 refine Qib.fn (by simp) ?_;obtain⟨c,hc⟩:∃c,s[i]? = some c:=⟨s[i],Qmv hi⟩;have hz:sz s i=Nr s i c.toNat:=by simp only[sz,hc]
 unfold Nr at hz;simp only[S9,Ta,Tb,Tc,Td,Te,Tf,ML,MM,MN,MO,MP,QdA,QdB,Qv,QnY,hc,Qa,seval];refine QW (fun h=>?_) (fun h=>?_)
 ·have h:c.toNat<128:=by simp at h;omega
  rw[hz,QmD h];simp only[Qa,seval]
  try rfl
 have h:¬c.toNat<128:=by simp at h;omega
 rw[hz,QmC h];simp only[Qa,seval];refine Qja hi hs _ (fun f B hB h0 h1 h5 hd=>?_) _ (by rfl) (by rfl) (by rfl);by_cases hB1:B=true
 ·rw[QmD (hB.1 hB1)];subst hB1;simp only[hd,Qa,seval]
  try rfl
 rw[QmC (fun hh=>hB1 (hB.2 hh))];have hB2:B=false:=by simpa using hB1
 subst hB2;simp only[hd,Qa,seval];refine Qjb hi hs _ (fun f B hB h0 h1 h5 hd=>?_) _ (by exact h0) (by exact h1) (by exact h5);by_cases hB1:B=true
 ·rw[QmD (hB.1 hB1)];subst hB1;simp only[hd,Qa,seval]
  try rfl
 rw[QmC (fun hh=>hB1 (hB.2 hh))];have hB2:B=false:=by simpa using hB1
 subst hB2;simp only[hd,Qa,seval];refine Qjc hi hs _ (fun f B hB h0 h1 h5 hd=>?_) _ (by exact h0) (by exact h1) (by exact h5);by_cases hB1:B=true
 ·rw[QmD (hB.1 hB1)];subst hB1;simp only[hd,Qa,seval]
  try rfl
 rw[QmC (fun hh=>hB1 (hB.2 hh))];have hB2:B=false:=by simpa using hB1
 subst hB2;simp only[hd,Qa,seval];refine Qf6 hi hs _ (fun f B hB h0 h1 h5 hd=>?_) _ (by exact h0) (by exact h1) (by exact h5);by_cases hB1:B=true
 ·rw[QmD (hB.1 hB1)];subst hB1;simp only[hd,Qa,seval]
  try rfl
 rw[QmC (fun hh=>hB1 (hB.2 hh))];have hB2:B=false:=by simpa using hB1
 subst hB2;simp only[hd,Qa,seval];refine Qf7 hi hs _ (fun f B hB h0 h1 h5 hd=>?_) _ (by exact h0) (by exact h1) (by exact h5);by_cases hB1:B=true
 ·rw[QmD (hB.1 hB1)];subst hB1;simp only[hd,Qa,seval]
  try rfl
 rw[QmC (fun hh=>hB1 (hB.2 hh))];have hB2:B=false:=by simpa using hB1
 subst hB2;simp only[hd,Qa,seval];refine Qf8 hi hs _ (fun f B hB h0 h1 h5 hd=>?_) _ (by exact h0) (by exact h1) (by exact h5);by_cases hB1:B=true
 ·rw[QmD (hB.1 hB1)];subst hB1;simp only[hd,Qa,seval]
  try rfl
 rw[QmC (fun hh=>hB1 (hB.2 hh))];have hB2:B=false:=by simpa using hB1
 subst hB2;simp only[hd,Qa,seval];refine Qf9 hi hs _ (fun f B hB h0 h1 h5 hd=>?_) _ (by exact h0) (by exact h1) (by exact h5);by_cases hB1:B=true
 ·rw[QmD (hB.1 hB1)];subst hB1;simp only[hd,Qa,seval]
  try rfl
 rw[QmC (fun hh=>hB1 (hB.2 hh))];have hB2:B=false:=by simpa using hB1
 subst hB2;simp only[hd,Qa,seval]
 try rfl

theorem ID (s:List UInt8)(i:Nat)(hi:i<s.length)(_h:sz s i≠0):i+sz s i≤s.length:=by
 have tl1:∀n j,tl s j n=true→n≠0→j+n≤s.length:=by
  intro n
  induction n with
  |zero=>intro j _ h;exact absurd rfl h
  |succ n ih=>
   intro j hj _;simp only[tl,QmT]at hj;have hb:j<s.length:=by
    have h1:=hj.1;unfold bt at h1;split at h1
    ·rename_i b hb;exact(Qmu.1 hb).1
    ·cases h1
   by_cases h0:n=0
   ·subst h0;omega
   ·have:=ih (j+1) hj.2 h0;omega
 obtain⟨c,hc⟩:∃c,s[i]? = some c:=⟨s[i],Qmv hi⟩;simp only[sz,hc]at _h ⊢;unfold Nr at _h ⊢
 (repeat' split)<;>first
  |omega
  |(rename_i hh;have:=tl1 _ _ hh.2.2 (by decide);omega)
  |(rename_i hh;have:=tl1 _ _ hh.2.2.2 (by decide);omega)
  |simp_all

def Qje (s:List UInt8)(k:Nat)(st:St):Prop :=
 ∃f i,st=⟨f,[Qb],[]⟩∧i≤s.length∧s.length-i≤k∧Ua s s.length 0=Ua s k i∧f 0=.str s∧f 3=.int .i64 (i:Nat)

theorem Qjf (s:List UInt8)(hs:s.length+8≤maxLen):Qi Tryz.prog 210 [.str s] (.int .i64 (Ua s s.length 0)):=by
 refine wF Tryz.func210 ?_;simp only[eK,Tryz.f210,seval];simp only[Qa,seval];refine Qk (Qje s) s.length ⟨_,0,rfl,QmE _,Qms _,rfl,rfl,rfl⟩ ?_;rintro k st ⟨f,i,rfl,hi,hk,hb,h0,h3⟩;simp only[h0,h3,Qa,seval];by_cases hlt:i<s.length
 ·simp only[QD hlt,h0,h3,Qa,seval];refine aC (Qjd s i hlt hs) ?_;obtain⟨k,rfl⟩:∃n,k=n+1:=⟨k-1,by omega⟩;have hbk:Ua s (k+1) i=if sz s i=0 then(i:Int)else Ua s k (i+sz s i):=by
   show(if i<s.length then _ else _)=_;rw[QmD hlt]
  by_cases hz:sz s i=0
  ·have b0:((sz s i:Int)==0)=true:=by simp[hz]
   simp only[b0,h3,hb,hbk,QmD hz,Qa,seval]
  ·have b0:((sz s i:Int)==0)=false:=by simp;omega
   have hle:=ID s i hlt hz;have e0:=Km i (sz s i) (by omega);simp only[b0,h3,e0,Qa,seval];exact⟨k,by omega,_,i+sz s i,rfl,hle,by omega,by rw[hb,hbk,QmC hz],(by exact h0),(by rfl)⟩
 ·have hbk:Ua s k i = -1:=by
   cases k with
   |zero=>rfl
   |succ k=>
    show(if i<s.length then _ else _)=_;rw[QmC hlt]
  simp only[QI hlt,hb,hbk,Qa,seval]

theorem QdP (s:List UInt8)(hs:s.length+8≤maxLen):Qi Tryz.prog 120 [.str s] (.bool (Hz s)):=by
 refine wF Tryz.func120 ?_;simp only[eK,Tryz.f120,seval];simp only[Qa,seval];refine aC (Qjf s hs) ?_;simp only[Qa,seval]
 try rfl

def Yb (s:List UInt8)(i:Nat):Bool:=(s.drop i).take 3==[239,191,189]

theorem Qjg (s t:List UInt8):Qi Tryz.prog 339 [.str s,.str t] (.bool (s.take t.length==t)):=by
 refine wF Tryz.func339 ?_;simp only[eK,Tryz.f339,seval];by_cases h:t.length≤s.length
 ·have d0:decide ((s.length:Int)≥(t.length:Int))=true:=by simp;omega
  have s1:(0≤t.length∧t.length≤s.length)=True:=by simp;omega
  simp only[d0,Qv,s1,QnY,QP,Qnu,Qnd,Qa,seval]
 ·have d0:decide ((s.length:Int)≥(t.length:Int))=false:=by simp;omega
  have e0:(s.take t.length==t)=false:=by
   rw[Qoi];intro hh;have:=congrArg List.length hh;simp at this;omega
  simp only[d0,e0,Qa,seval]

theorem Qjh (s t:List UInt8):Qi Tryz.prog 322 [.str s,.str t] (.bool (s.take t.length==t)):=by
 refine wF Tryz.func322 ?_;simp only[eK,Tryz.f322,seval];simp only[Qa,seval];refine aC (Qjg s t) ?_;simp only[Qa,seval]

theorem Qji (s:List UInt8)(i:Nat)(hi:i≤s.length)(c:Nat):Qi Tryz.prog 287 [.str s,.int .i64 (i:Nat),.int .i32 (c:Nat)] (.bool (decide (c=65533) && !Yb s i)):=by
 refine wF Tryz.func287 ?_;simp only[eK,Tryz.f287,seval];by_cases hc:c=65533
 ·have b0:((c:Int)==65533)=true:=by simp[hc]
  have s1:(i≤s.length∧s.length≤s.length)=True:=by simp;omega
  simp only[b0,Qv,s1,QnY,Qa,seval];refine aC (Qjh (List.take (s.length-i) (List.drop i s)) [239,191,189]) ?_;have ht:List.take (s.length-i) (List.drop i s)=List.drop i s:=Qm5 (by simp);simp only[ht,Yb,hc,Qa,seval]
 ·have b0:((c:Int)==65533)=false:=by simp;omega
  simp only[b0,hc,Qa,seval];simp

end Go.Proofs.YtkhpgmeokilhaaaGreatDoor.Va

namespace Go.Proofs.YtkhpgmeokilhaaaGreatDoor.Vp

def Yc:Nat→Nat→List UInt8
 |0,u=>[UInt8.ofNat u]
 |k+1,u=>if u<128 then [UInt8.ofNat u]else UInt8.ofNat (u % 128+128) :: Yc k (u / 128)

def put (u:Nat):List UInt8:=Yc 9 u

def Ke:Nat→Nat→List UInt8→Nat×Nat×Nat
 |_,_,[]=>(0,0,4)
 |i,acc,c :: t=>
  if i=9∧1<c.toNat then(0,0,6)
  else if c.toNat<128 then(acc+c.toNat*128 ^ i,i+1,0)
  else Ke (i+1) (acc+(c.toNat-128)*128 ^ i) t

def take (s:List UInt8):Nat×Nat×Nat:=Ke 0 0 s

theorem toNat_ofNat (n:Nat)(h:n<256):(UInt8.ofNat n).toNat=n:=by
 simp[UInt8.toNat_ofNat'];omega

theorem A4 (k u:Nat):1≤(Yc k u).length∧(Yc k u).length≤k+1:=by
 induction k generalizing u with
 |zero=>simp[Yc]
 |succ k ih=>
  unfold Yc;split
  ·simp
  ·have:=ih (u / 128);simp;omega

theorem put_len (u:Nat):1≤(put u).length∧(put u).length≤10:=A4 9 u

theorem Rn (k u:Nat)(h:u<128):Yc k u=[UInt8.ofNat u]:=by
 cases k<;>simp[Yc,h]

theorem A5 (k u:Nat)(h:¬u<128):Yc (k+1) u=UInt8.ofNat (u % 128+128) :: Yc k (u / 128):=by
 simp[Yc,h]

def V7 (i:Nat):Nat:=2 ^ (64-7*i)

theorem To (i u:Nat)(hi:i<9)(h:u<V7 i):u / 128<V7 (i+1):=by
 unfold V7 at *;have e:64-7*i=(64-7*(i+1))+7:=by omega
 rw[e,Nat.pow_add]at h;omega

theorem Ro (i acc:Nat)(s:List UInt8)(hi:i≤9)(ha:acc<128 ^ i)(h:(Ke i acc s).2.2=0) :
  i<(Ke i acc s).2.1∧(Ke i acc s).2.1≤i+s.length∧(Ke i acc s).2.1≤10∧(Ke i acc s).1<2 ^ 64:=by
 induction s generalizing i acc with
 |nil=>simp[Ke]at h
 |cons c t ih=>
  unfold Ke at h ⊢;split
  ·rename_i h1;rw[QmD h1]at h;simp at h
  ·rename_i h1;rw[QmC h1]at h;have hp:128 ^ i=2 ^ (7*i):=by rw[show(128:Nat)=2 ^ 7 from rfl,←Nat.pow_mul]
   split
   ·rename_i h2;refine⟨Nat.lt_succ_self i,by simp,by show i+1≤10;omega,?_⟩;show acc+c.toNat*128 ^ i<2 ^ 64;rcases Nat.lt_or_ge i 9 with h9|h9
    ·have:c.toNat*128 ^ i≤127*128 ^ i:=QnC _ (by omega);have h3:acc+c.toNat*128 ^ i<128 ^ (i+1):=by rw[Nat.pow_succ];omega
     have h4:128 ^ (i+1)≤128 ^ 9:=Nat.pow_le_pow_right (by omega) (by omega);omega
    ·obtain rfl:i=9:=by omega
     have:c.toNat≤1:=by omega
     omega
   ·rename_i h2;rw[QmC h2]at h;have h9:i<9:=by
     rcases Nat.lt_or_ge i 9 with h9|h9
     ·exact h9
     ·exact absurd ⟨by omega,by omega⟩ h1
    have hc:=c.toNat_lt;have h3:acc+(c.toNat-128)*128 ^ i<128 ^ (i+1):=by
     have:(c.toNat-128)*128 ^ i≤127*128 ^ i:=QnC _ (by omega);rw[Nat.pow_succ];omega
    obtain⟨a,b,d,e⟩:=ih (i+1) _ (by omega) h3 h;exact⟨by omega,by simp;omega,d,e⟩

theorem Mn (s:List UInt8)(h:(take s).2.2=0):0<(take s).2.1∧(take s).2.1≤s.length∧(take s).2.1≤10∧(take s).1<2 ^ 64:=by
 have:=Ro 0 0 s (by omega) (by omega) h
 simpa [take]using this

theorem Rp (i acc:Nat)(s t:List UInt8)(h:(Ke i acc s).2.2≠4):Ke i acc (s++t)=Ke i acc s:=by
 induction s generalizing i acc with
 |nil=>simp[Ke]at h
 |cons c r ih=>
  simp only[QmR];unfold Ke at h ⊢;split
  ·rfl
  ·rename_i h1;rw[QmC h1]at h;split
   ·rfl
   ·rename_i h2;rw[QmC h2]at h;exact ih _ _ h

theorem Qa1 (i acc:Nat)(s:List UInt8)(hi:i≤9)(hl:10≤i+s.length):(Ke i acc s).2.2≠4:=by
 induction s generalizing i acc with
 |nil=>simp at hl;omega
 |cons c r ih=>
  unfold Ke;split
  ·simp
  ·rename_i h1;split
   ·simp
   ·rename_i h2;exact ih _ _ (by omega) (by simp at hl;omega)

theorem take_take (s:List UInt8):take (s.take 10)=take s:=by
 rcases Nat.lt_or_ge s.length 10 with h|h
 ·rw[Qm5 (by omega)]
 ·have:=Rp 0 0 (s.take 10) (s.drop 10) (Qa1 0 0 _ (by omega) (by simp;omega));rw[QnN]at this;exact this.symm

end Go.Proofs.YtkhpgmeokilhaaaGreatDoor.Vp

namespace Go.Proofs.YtkhpgmeokilhaaaGreatDoor.Va
open Go Am Rc Bt Vp

theorem Kr (s:List UInt8)(j:Nat)(c:UInt8)(h:s[j]? = some c):(⟨⟨s⟩⟩:ByteArray).get! j=c:=by
 show(⟨s⟩:Array UInt8)[j]! = c;simp[h]

theorem BL (a:UInt8)(n:Nat)(hn:n<256):(a==UInt8.ofNat n)=decide (a.toNat=n):=by
 rw[Qnp,QmA,Qmz]
 constructor
 ·rintro rfl;rw[toNat_ofNat _ hn]
 ·intro h;rw[←UInt8.toNat_inj,toNat_ofNat _ hn,h]

set_option maxHeartbeats 4000000 in
theorem Qjj (s:List UInt8)(i:Nat)(a b c d:UInt8)(t:List UInt8)(hr:s.drop i=a :: b :: c :: d :: t):(decide ((XK s i).1=65533) && !Yb s i)=decide (sz s i=0)∧(sz s i≠0→(XK s i).2=sz s i):=by
 have hsz:∀j,(s[i+j]? = (a :: b :: c :: d :: t)[j]?):=fun j=>by rw[←hr,Qnb]
 have hn:ByteArray.size ⟨⟨s⟩⟩=s.length:=rfl;have hl:s.length=i+(a :: b :: c :: d :: t).length:=by
  have h:=congrArg List.length hr;simp at h ⊢;omega
 have h0:=hsz 0;have h1:=hsz 1;have h2:=hsz 2;have h3:=hsz 3;simp only[Qm2]at h0;have g0:=Kr s i a h0;have g1:=Kr s (i+1) b h1;have g2:=Kr s (i+2) c h2;have g3:=Kr s (i+3) d h3;have l1:(i+1<s.length)=True:=by simp at hl ⊢;omega
 have l2:(i+2<s.length)=True:=by simp at hl ⊢;omega
 have l3:(i+3<s.length)=True:=by simp at hl ⊢;omega
 have wa:=a.toNat_lt;have wb:=b.toNat_lt;have wc:=c.toNat_lt;have wd:=d.toNat_lt;have hrep:Yb s i=(decide (a.toNat=239)&&(decide (b.toNat=191)&&decide (c.toNat=189))):=by
  rw[←BL a 239 (by decide),←BL b 191 (by decide),←BL c 189 (by decide)];simp[Yb,hr]
 simp only[QnD,Qny]at h0 h1 h2 h3;generalize hD:XK s i=D;generalize hS:sz s i=S;rw[hrep];simp only[XK,Utf8.decode,Utf8.valid,Utf8.runeError,hn,l1,l2,l3,Qm2,g0,g1,g2,g3,sz,h0,Nr,tl,bt,Qmr,seval,h1,h2,h3,decide_true,Qoc,QnK,QmT,Qmy,Qmz,QmA,ge_iff_le]at hD hS;clear hsz hr hl h0 h1 h2 h3 g0 g1 g2 g3 l1 l2 l3 hrep hn;generalize a.toNat=x at *;generalize b.toNat=y at *;generalize c.toNat=z at *;generalize d.toNat=u at *
 (repeat' split at hD)<;>subst hD<;>(repeat' split at hS)<;>subst hS<;>refine⟨?_,?_⟩<;>(try rw[Qnp])<;>(try simp only[QmT,Qmz,Qnt,Qoy,Qov])<;>first|omega|(intro _;rfl)|(simp;done)|(simp;omega)

theorem A6 (s:List UInt8)(i:Nat)(hi:i<s.length):(decide ((XK s i).1=65533) && !Yb s i)=decide (sz s i=0)∧(sz s i≠0→(XK s i).2=sz s i):=by
 have hsz:∀j,(s[i+j]? = (s.drop i)[j]?):=fun j=>by rw[Qnb]
 have hn:ByteArray.size ⟨⟨s⟩⟩=s.length:=rfl;have hl:s.length=i+(s.drop i).length:=by simp;omega
 generalize hr:s.drop i=r at hsz hl;have h0:=hsz 0;have h1:=hsz 1;have h2:=hsz 2;have h3:=hsz 3;simp only[Qm2]at h0
 match r,hl with
 | [],hl=>simp at hl;omega
 | [a],hl=>
  have g0:=Kr s i a h0;have l1:(i+1<s.length)=False:=by simp at hl ⊢;omega
  have l2:(i+2<s.length)=False:=by simp at hl ⊢;omega
  have l3:(i+3<s.length)=False:=by simp at hl ⊢;omega
  have wa:=a.toNat_lt;have hrep:Yb s i=false:=by simp[Yb,hr]
  simp only[QnD,List.getElem?_nil,Qny]at h0 h1 h2 h3;simp only[XK,Utf8.decode,Utf8.runeError,hn,l1,l2,l3,Qm2,g0,sz,h0,Nr,tl,bt,Qmr,seval,h1,h2,h3,hrep,decide_false,Qn1,Qoe,QnK,QmO,and_false]
  (repeat' split)<;>refine⟨?_,?_⟩<;>(try rw[Qnp])<;>(try simp only[Qmz,QnE,QnK])<;>first|omega|(intro _;rfl)|(intro _;omega)|(simp;done)|(simp;omega)
 | [a,b],hl=>
  have g0:=Kr s i a h0;have g1:=Kr s (i+1) b h1;have l1:(i+1<s.length)=True:=by simp at hl ⊢;omega
  have l2:(i+2<s.length)=False:=by simp at hl ⊢;omega
  have l3:(i+3<s.length)=False:=by simp at hl ⊢;omega
  have wa:=a.toNat_lt;have wb:=b.toNat_lt;have hrep:Yb s i=false:=by simp[Yb,hr]
  simp only[QnD,List.getElem?_nil,Qny]at h0 h1 h2 h3;simp only[XK,Utf8.decode,Utf8.runeError,hn,l1,l2,l3,Qm2,g0,g1,sz,h0,Nr,tl,bt,Qmr,seval,h1,h2,h3,hrep,decide_false,decide_true,Qn1,Qoe,Qoc,QnK,QmO,and_false,QmT,Qmz,QmA,ge_iff_le]
  (repeat' split)<;>refine⟨?_,?_⟩<;>(try rw[Qnp])<;>(try simp only[Qmz,QnE,QnK])<;>first|omega|(intro _;rfl)|(intro _;omega)|(simp;done)|(simp;omega)
 | [a,b,c],hl=>
  have g0:=Kr s i a h0;have g1:=Kr s (i+1) b h1;have g2:=Kr s (i+2) c h2;have l1:(i+1<s.length)=True:=by simp at hl ⊢;omega
  have l2:(i+2<s.length)=True:=by simp at hl ⊢;omega
  have l3:(i+3<s.length)=False:=by simp at hl ⊢;omega
  have wa:=a.toNat_lt;have wb:=b.toNat_lt;have wc:=c.toNat_lt;have hrep:Yb s i=(decide (a.toNat=239)&&(decide (b.toNat=191)&&decide (c.toNat=189))):=by
   rw[←BL a 239 (by decide),←BL b 191 (by decide),←BL c 189 (by decide)];simp[Yb,hr]
  simp only[QnD,List.getElem?_nil,Qny]at h0 h1 h2 h3;simp only[XK,Utf8.decode,Utf8.valid,Utf8.runeError,hn,l1,l2,l3,Qm2,g0,g1,g2,sz,h0,Nr,tl,bt,Qmr,seval,h1,h2,h3,hrep,decide_false,decide_true,Qn1,Qoe,Qoc,QnK,QmO,and_false,QmT,Qmy,Qmz,QmA,ge_iff_le]
  (repeat' split)<;>refine⟨?_,?_⟩<;>(try rw[Qnp])<;>(try simp only[QmT,Qmz,Qnt,Qov,Qoy])<;>first|omega|(intro _;rfl)|(intro _;omega)|(simp;done)|(simp;omega)
 |a :: b :: c :: d :: t,hl=>exact Qjj s i a b c d t hr

def Qjk (s:List UInt8)(k:Nat)(st:St):Prop :=
 ∃f fr i,st=⟨f,[fr],[]⟩∧i≤s.length∧s.length-i≤k∧Ua s s.length 0=Ua s k i∧f 0=.str s∧f 6=.ptr 0 6 0∧fr 6=.iter (.str s) i

theorem Qjl (s:List UInt8):Qi Tryz.prog 224 [.str s] (.int .i64 (Ua s s.length 0)):=by
 refine wF Tryz.func224 ?_;simp only[eK,Tryz.f224,seval];simp only[Qa,seval];refine Ni rfl rfl ?_;simp only[Qa,seval];refine Qk (Qjk s) s.length ⟨_,_,0,rfl,QmE _,Qms _,rfl,(by rfl),(by rfl),(by rfl)⟩ ?_;rintro k st ⟨f,fr,i,rfl,hi,hk,hb,h0,h6,m6⟩;simp only[Qa,seval];refine Nj (by exact h6) m6 (fun hlt=>?_) (fun hge=>?_)
 ·obtain⟨hd,hw⟩:=A6 s i hlt;obtain⟨k,rfl⟩:∃n,k=n+1:=⟨k-1,by omega⟩;have hbk:Ua s (k+1) i=if sz s i=0 then(i:Int)else Ua s k (i+sz s i):=by
   show(if i<s.length then _ else _)=_;rw[QmD hlt]
  have hwr:=Qji s i hi (XK s i).1;rw[hd]at hwr;generalize XK s i=cw at hw hwr;obtain⟨c,w⟩:=cw;simp only[h0,Qa,seval];refine aC hwr ?_;by_cases hz:sz s i=0
  ·simp only[hz,decide_true,hb,hbk,Qa,seval]
  ·have hw:=hw hz;simp only at hw;have hle:=ID s i hlt hz;simp only[hz,decide_false,Qa,seval];exact⟨k,by omega,_,_,i+sz s i,rfl,hle,by omega,by rw[hb,hbk,QmC hz],(by exact h0),(by exact h6),by rw[←hw]<;>first|rfl|simp only[eE,seval]⟩
 ·have hbk:Ua s k i = -1:=by
   cases k with
   |zero=>rfl
   |succ k=>
    show(if i<s.length then _ else _)=_;rw[QmC (by omega)]
  simp only[hb,hbk,Qa,seval]

theorem Rq (s:List UInt8):Qi Tryz.prog 157 [.str s] (.bool (Hz s)):=by
 refine wF Tryz.func157 ?_;simp only[eK,Tryz.f157,seval];simp only[Qa,seval];refine aC (Qjl s) ?_;simp only[Qa,seval]
 try rfl

end Go.Proofs.YtkhpgmeokilhaaaGreatDoor.Va

namespace Go.Proofs.YtkhpgmeokilhaaaGreatDoor.Va
open Go Am Rc Bt

def Wf (k:Int)(b:Nat):Bool :=
 if k=1 then decide ((b:Int)≤1)else if k=2 then decide (IntKind.i64.wrap (b:Int)≥-2147483648)&&decide (IntKind.i64.wrap (b:Int)≤2147483647)
 else if k=4 then decide ((b:Int)<4294967296)else if k=9 then decide ((b:Int)<2147483648)else true

theorem Qjm (k:Int)(b:Nat):Qi Tryz.prog 325 [.int .i64 k,.int .u64 (b:Nat)] (.bool (Wf k b)):=by
 have e1:decide ((b:Int)≤4294967295)=decide ((b:Int)<4294967296):=by rw[decide_eq_decide];omega
 have e2:decide ((b:Int)≤2147483647)=decide ((b:Int)<2147483648):=by rw[decide_eq_decide];omega
 refine wF Tryz.func325 ?_;simp only[eK,Tryz.f325,seval];simp only[Qa,seval];unfold Wf;by_cases h1:k=1
 ·subst h1;have b1:((1:Int)==1)=true:=rfl;simp only[b1,Qa,seval]
 ·have b1:(k==1)=false:=by simp[h1]
  by_cases h2:k=2
  ·subst h2;have b2:((2:Int)==2)=true:=rfl;simp only[b1,b2,h1,Qa,seval];cases hd:decide (IntKind.i64.wrap (b:Int)≥-2147483648)<;>simp only[Qoc,Qn1,Qa,seval]
  ·have b2:(k==2)=false:=by simp[h2]
   by_cases h9:k=9
   ·subst h9;have b9:((9:Int)==9)=true:=rfl;simp only[b1,b2,b9,h1,h2,e2,Qa,seval]
   ·have b9:(k==9)=false:=by simp[h9]
    by_cases h4:k=4
    ·subst h4;have b4:((4:Int)==4)=true:=rfl;simp only[b1,b2,b9,b4,h1,h2,e1,Qa,seval]
    ·have b4:(k==4)=false:=by simp[h4]
     simp only[b1,b2,b9,b4,h1,h2,h4,h9,Qa,seval]

end Go.Proofs.YtkhpgmeokilhaaaGreatDoor.Va

namespace Go.Proofs.YtkhpgmeokilhaaaGreatDoor.Ev
open Go Am Rc

noncomputable def tab:Nn:=fun k=>match k with
 |20=>some (r20,o20,57)
 |22=>some (r22,o22,54)
 |38=>some (r38,o38,77)
 |44=>some (r44,o44,93)
 |53=>some (Ij,MJ,8)
 |78=>some (r78,o78,107)
 |102=>some (VF,DA,8)
 |169=>some (Rg,BC,8)
 |178=>some (QcU,QcV,153)
 |179=>some (Qc7,Qc8,95)
 |197=>some (AL,Rh,8)
 |338=>some (Ri,AM,143)
 |k=>ct k

theorem QdQ:GH Tryz.prog tab:=by
 intro k c rs N h;unfold tab at h;split at h
 ·cases h;exact k20
 ·cases h;exact k22
 ·cases h;exact k38
 ·cases h;exact k44
 ·cases h;exact k53
 ·cases h;exact k78
 ·cases h;exact Rf
 ·cases h;exact AK
 ·cases h;exact QcW
 ·cases h;exact Qc9
 ·cases h;exact Qda
 ·cases h;exact Qdc
 ·exact Qfc h

def nat:W0:=fun _ _ _=>none

theorem nat_ok:WR Tryz.prog nat:=by
 intro k args m v m' h;cases h

end Go.Proofs.YtkhpgmeokilhaaaGreatDoor.Ev

namespace Go.Proofs.YtkhpgmeokilhaaaGreatDoor.Va
open Go Am Rc Bt

def vo (k:Int)(b:Nat)(t:List UInt8)(l p s r:List AV):AV:=.agg [.int .i64 k,.int .u64 (b:Nat),.str t,.list l,.list p,.list s,.list r]

section
variable (k:Int)(b:Nat)(t:List UInt8)(l p s r:List AV)

def Ub:Bool:=(l.length:Int)==0&&(p.length:Int)==0&&(s.length:Int)==0&&(r.length:Int)==0
def zer:Bool:=isk k&&Ub l p s r&&(b:Int)==0&&t==[]
def emp:Bool:=(k==11&&(l.length:Int)==0)||(k==12&&(p.length:Int)==0)||zer k b t l p s r

theorem Qjn:Qi Tryz.prog 277 [vo k b t l p s r] (.bool (Ub l p s r)):=by
 refine wF Tryz.func277 ?_;simp only[eK,Tryz.f277,seval];simp only[vo,Ub,eE,seval];cases h0:((l.length:Int)==0)<;>cases h1:((p.length:Int)==0)<;>cases h2:((s.length:Int)==0)<;>simp only[h1,h2,Qoc,Qn1,eE,seval]

theorem QdS (hl:l.length≤140737488351232)(hp:p.length≤140737488351232)(hs:s.length≤140737488351232)(hr:r.length≤140737488351232) :
  Qi Tryz.prog 204 [vo k b t l p s r] (.bool (Ub l p s r&&(if Zh k=true then(b:Int)==0 else t==[]))):=by
 refine wF Tryz.func204 ?_;simp only[eK,Tryz.f204,seval];have w:IntKind.i64.wrap (IntKind.i64.wrap (IntKind.i64.wrap ((l.length:Int)+(p.length:Int))+(s.length:Int))+(r.length:Int))=(l.length+p.length+s.length+r.length:Nat):=by
  simp only[QC];omega
 simp only[vo,w,eE,seval];by_cases h:l.length+p.length+s.length+r.length=0
 ·have d:decide (((l.length+p.length+s.length+r.length:Nat):Int) > 0)=false:=Qoo (by omega);have e:Ub l p s r=true:=by
   unfold Ub;simp only[QmT,QmA];omega
  simp only[d,e,Qoc,eE,seval];refine aC (QdD k) ?_;cases Zh k
  ·simp only[QmO,QP,eE,seval]
  ·simp only[eE,seval]
 ·have d:decide (((l.length+p.length+s.length+r.length:Nat):Int) > 0)=true:=Qou (by omega);have e:Ub l p s r=false:=by
   unfold Ub;rw[Qoq];simp only[ne_eq,QmT,QmA];omega
  simp only[d,e,Qn1,Qa,seval]

end

open Br

def key (o:PO):Bool:=if o.card=5 then decide (o.key≥1)&&decide (o.key≤7)&&o.key != 6 else o.key==0
def FK (P:PL)(o:PO):Bool :=
 if o.kind=10 then decide (o.target≥0)&&decide (o.target<(P.progs.length:Int))&&o.card != 3
 else if o.kind=9 then decide (o.target≥0)&&decide (o.target<(P.enums.length:Int))else isk o.kind&&o.target == -1
def Kn (P:PL)(o:PO):Bool:=Hz o.alias&&decide ((o.alias.length:Int)≤4096)&&decide (o.card≥1)&&decide (o.card≤5)&&key o&&FK P o
def Js (o:PO):Bool:=o.union == -1||o.card==2
def JI:List PO→Int→Int→Option Int
 | [],n,_=>some n
 |o :: l,n,b=>if o.union=n then JI l (n+1) n else if o.union = -1∨o.union=b then JI l n o.union else none
def JE (g:PG):Bool:=match JI g.ops 0 (-1)with
 |some n=>g.unions==n
 |none=>false
def XO (k kd:Int)(b:Nat)(t:List UInt8)(l p s r:List AV):Bool :=
 isk k&&kd==k&&Ub l p s r&&(if Zh kd=true then(b:Int)==0 else t==[])&&Wf k b&&decide ((t.length:Int)≤4096)&&(k != 7||Hz t)
def alias:List UInt8:=[97,108,105,97,115]
def nok:List AV→Bool
 | [.int _ kd,.int _ b,.str t,.list l,.list p,.list s,.list r]=>XO 7 kd b.toNat t l p s r
 |_=>false
def Ww (i:PI):Bool:=match i.notes with
 | []=>true
 | [n]=>n.name==alias&&nok n.val
 |_=>false
def Wg (P:PL)(g:PG):Bool:=JE g&&g.ops.all fun o=>Kn P o&&Js o
def Wh (x:PE):Bool:=x.notes.isEmpty&&x.items.all Ww
def args (P:PL):Bool:=P.progs.all (Wg P)&&P.enums.all Wh

theorem Qa2 {α:Type}(l:List α)(p q:α→Bool):(l.all fun x=>p x&&q x)=(l.all p&&l.all q):=by
 induction l with
 |nil=>rfl
 |cons x l ih=>
  simp only[QnI,ih];cases p x<;>cases q x<;>cases l.all p<;>cases l.all q<;>rfl

theorem A7 (k kd:Int)(b:Nat)(t:List UInt8)(l p s r:List AV)(hl:l.length≤140737488351232)(hp:p.length≤140737488351232)(hs:s.length≤140737488351232)(hr:r.length≤140737488351232) :
  Qi Tryz.prog 297 [.int .i64 k,vo kd b t l p s r] (.bool (XO k kd b t l p s r)):=by
 have hle:=QdS kd b t l p s r hl hp hs hr;have hw:=Qjm k b;simp only[vo]at hle;have n1:(kd != k)=!(kd==k):=rfl;have n2:(k != 7)=!(k==7):=rfl;have n3:decide ((t.length:Int) > 4096)=!decide ((t.length:Int)≤4096):=(by rw[Qnp];simp only[Qmz,Qnt,Qov];omega);refine wF Tryz.func297 ?_;simp only[eK,Tryz.f297,seval];simp only[vo,XO,n2,eE,seval];refine aC (BH k) ?_;cases isk k
 ·simp only[Qn1,QnE,Qa,seval]
 simp only[Qoc,Qod,n1,eE,seval];cases a1:(kd==k)
 ·simp only[Qn1,QnE,Qa,seval]
 simp only[Qoc,Qod,eE,seval];refine aC hle ?_;cases(Ub l p s r&&(if Zh kd=true then(b:Int)==0 else t==[]))
 ·simp only[Qn1,QnE,Qa,seval]
 simp only[Qoc,Qod,eE,seval];refine aC hw ?_;cases Wf k b
 ·simp only[Qn1,QnE,Qa,seval]
 simp only[Qoc,Qod,n3,eE,seval];cases a2:decide ((t.length:Int)≤4096)
 ·simp only[Qn1,QnE,Qa,seval]
 simp only[Qoc,Qod,n2,Qa,seval];cases a3:(k==7)
 ·simp only[QnE,Qog,Qa,seval]
 ·simp only[Qod,Qoh,eE,seval];refine aC (Rq t) ?_;simp only[Qa,seval]

theorem Qjo (o:PO):Qi Tryz.prog 158 [Qz o] (.bool (key o)):=by
 refine wF Tryz.func158 ?_;simp only[eK,Tryz.f158,seval];simp only[Qz,PO.cells,key,eE,seval];by_cases h:o.card=5
 ·have b0:(o.card != 5)=false:=by simp[h]
  simp only[b0,QmD h,eE,seval];cases a1:decide (o.key≥1)<;>cases a2:decide (o.key≤7)<;>simp only[a2,Qoc,Qn1,eE,seval]
 ·have b0:(o.card != 5)=true:=by simp[h]
  simp only[b0,QmC h,eE,seval]

section
variable (P:PL)

theorem Qjp (o:PO):Qi Tryz.prog 159 [P.av,Qz o] (.bool (FK P o)):=by
 have e0:P.av=.agg [.list (P.progs.map Qm),.list (P.enums.map QE)]:=rfl;refine wF Tryz.func159 ?_;simp only[eK,Tryz.f159,seval];simp only[e0,Qz,PO.cells,FK,eE,seval];by_cases h:o.kind=10
 ·have b0:(o.kind==10)=true:=by simp[h]
  simp only[b0,QmD h,eE,seval];cases a1:decide (o.target≥0)<;>cases a2:decide (o.target<(P.progs.length:Int))<;>simp only[a2,Qoc,Qn1,Qnq,eE,seval]
 ·have b0:(o.kind==10)=false:=by simp[h]
  by_cases h9:o.kind=9
  ·have b1:(o.kind==9)=true:=by simp[h9]
   simp only[b0,b1,QmC h,QmD h9,eE,seval];cases a1:decide (o.target≥0)<;>simp only[Qoc,Qn1,Qnq,eE,seval]
  ·have b1:(o.kind==9)=false:=by simp[h9]
   simp only[b0,b1,QmC h,QmC h9,eE,seval];refine aC (BH o.kind) ?_;cases isk o.kind<;>simp only[Qoc,Qn1,eE,seval]

def UnI (g:PG)(k:Nat)(st:St):Prop :=
 ∃f fr i n b,st=⟨f,[fr],[]⟩∧k=g.ops.length-i∧i≤g.ops.length∧(g.ops.take i).all Js=true∧JI g.ops 0 (-1)=JI (g.ops.drop i) n b∧0≤n∧n≤i∧-1≤b∧b<n∧f 1=.ptr 0 1 0∧f 3=.int .i64 (n-1)∧f 4=.int .i64 b∧
  f 8=.list (g.ops.map fun o=>.agg o.cells)∧f 9=.int .i64 (g.ops.length:Nat)∧f 10=.int .i64 (i:Nat)∧fr 1=.cells g.cells∧∀s∈[6],(fr s).isRow=false

theorem FL {l:List PO}{i:Nat}{o:PO}(h:l[i]? = some o)(n b:Int):JI (l.drop i) n b=if o.union=n then JI (l.drop (i+1)) (n+1) n else if o.union = -1∨o.union=b then JI (l.drop (i+1)) n o.union else none:=by
 have hlt:i<l.length:=(Qmu.1 h).1;rw[Qne hlt,show l[i]=o from(Qmu.1 h).2];rfl

theorem Qjq (g:PG)(hl:g.ops.length≤9223372036854775000):Qi Tryz.prog 155 [Qm g] (.bool (g.ops.all Js&&JE g)):=by
 refine wF Tryz.func155 ?_;simp only[eK,Tryz.f155,seval];simp only[Qm,PG.cells,Qnq,eE,seval];refine Qk (UnI g) _ ⟨_,_,0,0,-1,rfl,rfl,QmE _,rfl,rfl,by decide,by decide,by decide,by decide,(by rfl),(by rfl),(by rfl),(by rfl),(by rfl),(by rfl),(by rfl),by simp<;>rfl⟩ ?_;rintro _ st ⟨f0,fr0,i,n,b,rfl,rfl,hil,hu,hj,hn0,hni,hb1,hbn,h10,h30,h40,h80,h90,hA0,m10,r6⟩;refine QL (a:=_) [6] r6 ?_;intro f fr hf hm hn6;have h1:f 1=.ptr 0 1 0:=by rw[hf,h10]<;>rfl
 have h3:f 3=.int .i64 (n-1):=by rw[hf,h30]<;>rfl
 have h4:f 4=.int .i64 b:=by rw[hf,h40]<;>rfl
 have h8:f 8=.list (g.ops.map fun o=>.agg o.cells):=by rw[hf,h80]<;>rfl
 have h9:f 9=.int .i64 (g.ops.length:Nat):=by rw[hf,h90]<;>rfl
 have hA:f 10=.int .i64 (i:Nat):=by rw[hf,hA0]<;>rfl
 have m1:fr 1=.cells g.cells:=by rw[hm 1 (by decide),m10]<;>rfl
 have n6:=hn6 6 (by decide);clear hf hm hn6 h10 h30 h40 h80 h90 hA0 m10 r6;simp only[PG.cells]at m1;have w0:IntKind.i64.wrap (n-1+1)=n:=by rw[QC];omega
 simp only[h9,hA,Qa,seval];by_cases hlt:i<g.ops.length
 ·obtain⟨o,hi⟩:∃o,g.ops[i]? = some o:=⟨g.ops[i],Qmv hlt⟩;have hg:(g.ops.map fun o=>AV.agg o.cells)[i]? = some (.agg o.cells):=by simp[hi]
  have e1:=Qw i _ hlt (by simp only[maxLen];omega);have ht:=U7 (q:=Js) hi;rw[hu,Qoc]at ht;have hbad:Js o=false→g.ops.all Js=false:=fun h=>by
   rw[Qoq];intro h';rw[QmI.1 h' o (QmJ hi)]at h;cases h
  rw[FL hi]at hj;have fin:∀(f':Fr) (fr':Nat→Ob) (n':Int),Js o=true→(if o.union=n then n'=n+1 else n'=n)→JI g.ops 0 (-1)=JI (g.ops.drop (i+1)) n' o.union→(o.union=n∨o.union = -1∨o.union=b)→f' 1=.ptr 0 1 0→f' 3=.int .i64 (n'-1)→f' 4=.int .i64 o.union→
    f' 8=.list (g.ops.map fun o=>.agg o.cells)→f' 9=.int .i64 (g.ops.length:Nat)→f' 10=.int .i64 ((i+1:Nat):Int)→fr' 1=.cells g.cells→(∀s∈[6],(fr' s).isRow=false)→∃k,k<g.ops.length-i∧UnI g k ⟨f',[fr'],[]⟩:=by
   intro f' fr' n' a b' c d e1 e3 e4 e8 e9 eA em er;refine⟨g.ops.length-(i+1),by omega,f',fr',i+1,n',o.union,rfl,rfl,by omega,by rw[ht,a],c,?_,?_,?_,?_,e1,e3,e4,e8,e9,eA,em,er⟩<;>split at b'<;>omega
  simp only[PO.cells]at hg;simp only[QD hlt,Qv,QnY,Qf,hg,PO.cells,n6,h8,hA,eE,seval];by_cases a1:o.union = -1
  ·have b1:(o.union != -1)=false:=by simp[a1]
   have hk:Js o=true:=by simp[Js,a1]
   rw[QmC (by omega),QmD (.inl a1)]at hj;have mx:(if n-1<o.union then o.union else n-1)=n-1:=QmC (by omega);simp only[b1,h3,hA,mx,e1,eE,seval];exact fin _ _ n hk (by rw[QmC (by omega)]) hj (.inr (.inl a1)) (by exact h1) (by rfl) (by rfl) (by exact h8) (by exact h9) (by rfl) (by exact m1) (by simp<;>rfl)
  have b1:(o.union != -1)=true:=by simp[a1]
  by_cases a2:o.card=2
  case neg=>
   have b2:(o.card != 2)=true:=by simp[a2]
   have hk:Js o=false:=by simp[Js,a1,a2]
   simp only[b1,b2,hbad hk,Qn1,eE,seval]
  have b2:(o.card != 2)=false:=by simp[a2]
  have hk:Js o=true:=by simp[Js,a2]
  by_cases a3:o.union=n
  ·have b3:(o.union != n)=false:=by simp[a3]
   rw[QmD a3,←a3]at hj;have mx:(if n-1<o.union then o.union else n-1)=o.union:=QmD (by omega);simp only[b1,b2,b3,h3,hA,w0,mx,e1,eE,seval];exact fin _ _ (o.union+1) hk (by rw[QmD a3,a3]) hj (.inl a3) (by exact h1) (by simp only[Qa,seval];congr 1;omega) (by rfl) (by exact h8) (by exact h9) (by rfl) (by exact m1) (by simp<;>rfl)
  have b3:(o.union != n)=true:=by simp[a3]
  by_cases a4:o.union=b
  ·have b4:(o.union != b)=false:=by simp[a4]
   rw[QmC a3,QmD (.inr a4)]at hj;have mx:(if n-1<o.union then o.union else n-1)=n-1:=QmC (by omega);simp only[b1,b2,b3,b4,h3,h4,hA,w0,mx,e1,eE,seval];exact fin _ _ n hk (by rw[QmC a3]) hj (.inr (.inr a4)) (by exact h1) (by rfl) (by rfl) (by exact h8) (by exact h9) (by rfl) (by exact m1) (by simp<;>rfl)
  ·have b4:(o.union != b)=true:=by simp[a4]
   rw[QmC a3,QmC (by omega)]at hj;have hun:JE g=false:=by unfold JE;rw[hj]
   simp only[b1,b2,b3,b4,hun,Qoe,h3,h4,w0,eE,seval]
 ·rw[Qm5 (by omega)]at hu;rw[Qm8 (by omega)]at hj;have hun:JE g=(g.unions==n):=by unfold JE;rw[hj];rfl
  simp only[QI hlt,h1,h3,m1,w0,hu,hun,Qoc,eE,seval]

theorem Qjr (o:PO)(fr2 fr:Nat→Ob)(h1:fr 1=.cells [.list (P.progs.map Qm),.list (P.enums.map QE)]):Qd Tryz.prog 156 [Qz o,.ptr 7 1 0] [Qb,Qb,Qb,fr2,Qb,Qb,Qb,fr] fun y m1=>y=.bool (!Kn P o)∧m1=[Qb,Qb,Qb,fr2,Qb,Qb,Qb,fr]:=by
 have n1:decide ((o.alias.length:Int) > 4096)=!decide ((o.alias.length:Int)≤4096):=(by rw[Qnp];simp only[Qmz,Qnt,Qov];omega);have n2:decide (o.card<1)=!decide (o.card≥1):=(by rw[Qnp];simp only[Qmz,Qnt,Qov];omega);have n3:decide (o.card > 5)=!decide (o.card≤5):=(by rw[Qnp];simp only[Qmz,Qnt,Qov];omega);have hk:=Qjo o;have ha:Qi Tryz.prog 159 [.agg [.list (P.progs.map Qm),.list (P.enums.map QE)],Qz o] (.bool (FK P o)):=Qjp P o;simp only[Qz,PO.cells]at hk ha;refine wG Tryz.func156 ?_;simp only[eK,Tryz.f156,seval];simp only[Qz,PO.cells,Kn,eE,seval];refine aC (Rq o.alias) ?_;cases Hz o.alias
 ·simp only[Qn1,QnE,Qa,seval]
 simp only[Qoc,Qod,n1,eE,seval];cases a1:decide ((o.alias.length:Int)≤4096)
 ·simp only[Qn1,QnE,Qa,seval]
 simp only[n2,Qoc,Qod,eE,seval];cases a2:decide (o.card≥1)
 ·simp only[Qn1,QnE,Qa,seval]
 simp only[n3,Qoc,Qod,eE,seval];cases a3:decide (o.card≤5)
 ·simp only[Qn1,QnE,Qa,seval]
 simp only[Qoc,Qod,eE,seval];refine aC hk ?_;cases key o
 ·simp only[Qn1,QnE,Qa,seval]
 simp only[Qoc,Qod,h1,eE,seval];refine aC ha ?_;simp only[Qa,seval]

theorem Qjs (g:PG)(hl:g.ops.length≤9223372036854775000)(fr:Nat→Ob)(h1:fr 1=.cells [.list (P.progs.map Qm),.list (P.enums.map QE)]) :
  Qd Tryz.prog 154 [Qm g,.ptr 3 1 0] [Qb,Qb,Qb,fr] fun y m1=>y=.bool (!Wg P g)∧m1=[Qb,Qb,Qb,fr]:=by
 have hu:=Qjq g hl;have e:Wg P g=((g.ops.all Js&&JE g)&&g.ops.all (Kn P)):=by
  unfold Wg;rw[show(g.ops.all fun o=>Kn P o&&Js o)=(g.ops.all (Kn P)&&g.ops.all Js)from Qa2 ..];cases JE g<;>cases g.ops.all (Kn P)<;>cases g.ops.all Js<;>rfl
 simp only[Qm,PG.cells]at hu;refine wG Tryz.func154 ?_;simp only[eK,Tryz.f154,seval];simp only[Qm,PG.cells,e,eE,seval];refine aC hu ?_;cases(g.ops.all Js&&JE g)
 ·simp only[Qn1,QnE,Qa,seval]
 simp only[Qoc,Qod,eE,seval];refine Qg (V0 g.ops (by simp only[maxLen];omega) (fun o=>!Kn P o) 156 [.ptr 4 1 0] _ fun o _=>Qjr P o _ fr h1) (by simp only[Qm3,Qnx,Qa,seval]<;>rfl) ?_;simp only[XL,Qa,seval]

end

noncomputable def Rr:Nn:=fun k=>match k with
 |288=>some (rk 288 Tryz.f288,Cg.rs Tryz.f288,Tryz.f288.ntmps)
 |_=>none
theorem MV:GH Tryz.prog Rr:=by
 intro k c rs N h;unfold Rr at h;split at h
 ·cases h;exact kc Tryz.func288 rfl (by decide)
 ·cases h
def Tp:Option (AV×Qh)→Bool
 |some (.mp ks vs,_)=>match J3 (.s alias) ks vs with
  |some (.agg [.int .i64 a,.int .i64 b])=>a==7&&b==84&&keys true ks
  |_=>false
 |_=>false
theorem Tq:Tp (Ux Ev.nat Rr (ZM Ev.nat Rr 300) 288 [] [])=true:=by decide +kernel
theorem QdU:∃ks vs,Qi Tryz.prog 288 [] (.mp ks vs)∧J3 (.s alias) ks vs=some (.agg [.int .i64 7,.int .i64 84])∧keys true ks=true:=by
 have h:=Tq;unfold Tp at h;split at h
 ·rename_i ks vs m' h1;split at h
  ·rename_i a b h2;simp only[QmT,QmA]at h;obtain⟨⟨rfl,rfl⟩,h3⟩:=h;exact⟨ks,vs,(Y5 Ev.nat_ok MV (SO Ev.nat_ok MV 300) _ _ _ _ _ h1).mono fun _ _ e=>e.1,h2,h3⟩
  ·cases h
 ·cases h

theorem Qjt:Qi Tryz.prog 323 [.str alias] (.int .i64 7):=by
 obtain⟨ks,vs,h1,h2,h3⟩:=QdU;have hg:AV.gr (.agg [.int .i64 7,.int .i64 84])=true:=rfl;refine wF Tryz.func323 ?_;simp only[eK,Tryz.f323,seval];simp only[Qa,seval];refine aC h1 ?_;simp only[WX,Am.KZ,h3,cond_true,h2,hg,Qa,seval]

section
variable (kd:Int)(b:Nat)(t:List UInt8)(l p s r:List AV)(hl:l.length≤140737488351232)(hp:p.length≤140737488351232)(hs:s.length≤140737488351232)(hr:r.length≤140737488351232)

def nv:AV:=.agg [.str alias,.int .i64 kd,.int .u64 (b:Nat),.str t,.list l,.list p,.list s,.list r]

include hl hp hs hr in
theorem Qju:Qi Tryz.prog 289 [nv kd b t l p s r] (.bool (XO 7 kd b t l p s r)):=by
 have hf:=A7 7 kd b t l p s r hl hp hs hr;have b0:((7:Int) != 0)=true:=rfl;simp only[vo]at hf;refine wF Tryz.func289 ?_;simp only[eK,Tryz.f289,seval];simp only[nv,eE,seval];refine aC Qjt ?_;simp only[b0,eE,seval];refine aC hf ?_;simp only[Qa,seval]

include hl hp hs hr in
theorem Qjv (last:List UInt8):Qi Tryz.prog 225 [nv kd b t l p s r,.int .i64 4,.str last,.bool false] (.int .i64 (if XO 7 kd b t l p s r=true then 0 else 12)):=by
 have hf:=Qju kd b t l p s r hl hp hs hr;obtain⟨ks,vs,h1,h2,h3⟩:=QdU;have hg:AV.gr (.agg [.int .i64 7,.int .i64 84])=true:=rfl;have b0:decide ((4:Int)<1)=false:=rfl;have b1:decide ((4:Int) > 6)=false:=rfl;have b2:(0≤(4:Int))=True:=by simp
 have b3:(bits .and .i64 (Int.fdiv 84 (2 ^ min 4 64)) 1==0)=false:=by decide
 have b4:(bits .and .i64 ((84:Int).fdiv (2 ^ (min (4:Int).toNat IntKind.i64.bits))) 1==0)=false:=by decide
 simp only[nv]at hf;refine wF Tryz.func225 ?_;simp only[eK,Tryz.f225,seval];simp only[nv,eE,seval];refine aC h1 ?_;simp only[Am.KZ,h3,cond_true,h2,hg,b2,b3,eE,seval];refine aC hf ?_;cases XO 7 kd b t l p s r
 ·simp only[QnE,QmO,Qa,seval]
 ·simp only[Qod,Qa,seval]

def NcI (k:Nat)(st:St):Prop :=
 ∃f fr i,st=⟨f,[fr],[]⟩∧k=1-i∧i≤1∧(i=0→∃last,f 5=.str last)∧(i=1→XO 7 kd b t l p s r=true)∧f 1=.int .i64 4∧f 12=.list [nv kd b t l p s r]∧f 13=.int .i64 1∧f 14=.int .i64 (i:Nat)∧∀s∈[7],(fr s).isRow=false

include hl hp hs hr in
theorem Qjw:Qi Tryz.prog 162 [.list [nv kd b t l p s r],.int .i64 4] (.int .i64 (if XO 7 kd b t l p s r=true then 0 else 12)):=by
 have b0:decide (((1:Nat):Int) > 8)=false:=rfl;refine wF Tryz.func162 ?_;simp only[eK,Tryz.f162,seval];simp only[QmK,Qnr,QmU,Qa,seval];refine Qk (NcI kd b t l p s r) 1 ⟨_,_,0,rfl,rfl,QmE _,fun _=>⟨[],(by rfl)⟩,(fun h=>by cases h),(by rfl),(by rfl),(by rfl),(by rfl),by simp<;>rfl⟩ ?_;rintro _ st ⟨f0,fr0,i,rfl,rfl,hi,hl5,hf,h10,h120,h130,h140,r7⟩;refine QL (a:=_) [7] r7 ?_;intro f fr hff hm hn7;have h1:f 1=.int .i64 4:=by rw[hff,h10]<;>rfl
 have h12:f 12=.list [nv kd b t l p s r]:=by rw[hff,h120]<;>rfl
 have h13:f 13=.int .i64 1:=by rw[hff,h130]<;>rfl
 have h14:f 14=.int .i64 (i:Nat):=by rw[hff,h140]<;>rfl
 have h5:i=0→∃last,f 5=.str last:=fun h=>by
  obtain⟨la,e⟩:=hl5 h;exact⟨la,by rw[hff,e]<;>rfl⟩
 have n7:=hn7 7 (by decide);clear hff hm hn7 h10 h120 h130 h140 r7 hl5;have ho:=fun la=>Qjv kd b t l p s r hl hp hs hr la
 simp only[nv]at ho h12;simp only[h13,h14,Qa,seval];rcases Nat.le_one_iff_eq_zero_or_eq_one.1 hi with rfl|rfl
 ·obtain⟨la,h5⟩:=h5 rfl;have c0:decide (((0:Nat):Int)<1)=true:=rfl;have c1:decide (((0:Nat):Int) > 0)=false:=rfl;have e1:IntKind.i64.wrap (((0:Nat):Int)+1)=((1:Nat):Int):=rfl;have z0:(0≤((0:Nat):Int))=True:=by simp
  have z1:Int.toNat ((0:Nat):Int)=0:=rfl;simp only[Qf,n7,h1,h5,h12,h14,eE,seval];refine aC (ho la) ?_;cases hfv:XO 7 kd b t l p s r
  ·have d0:((12:Int) != 0)=true:=rfl;simp only[d0,QmO,Qa,seval]
  ·have d0:((0:Int) != 0)=false:=rfl;simp only[d0,h14,eE,seval];exact⟨0,by omega,_,_,1,rfl,rfl,Qms _,(fun h=>by cases h),fun _=>hfv,(by exact h1),(by exact h12),(by exact h13),(by rfl),by simp<;>rfl⟩
 ·have c0:decide (((1:Nat):Int)<1)=false:=rfl;simp only[hf rfl,Qa,seval]

end

theorem IE {M:Nat}{n:PN}(h:n.ok Tryz.prog M 32)(hM:M≤140737488351232):∃kd b t l p s r,n.val=[.int .i64 kd,.int .u64 ((b:Nat):Int),.str t,.list l,.list p,.list s,.list r]∧t.length≤M∧l.length≤140737488351232∧p.length≤140737488351232∧s.length≤140737488351232∧r.length≤140737488351232:=by
 obtain⟨_,k,hk⟩:=h;obtain⟨k,h⟩:=ZF Tryz.underlying32 hk;simp only[Xh.HasL]at h;obtain⟨_,_,e,h0,_,_,rfl,h1,_,_,rfl,h2,_,_,rfl,h3,_,_,rfl,h4,_,_,rfl,h5,_,_,rfl,h6,rfl⟩:=h;obtain⟨a0,rfl,w0⟩:=XU Tryz.underlying3 h0;obtain⟨a1,rfl,w1⟩:=XU Tryz.underlying26 h1;obtain⟨a2,rfl,w2⟩:=J7 Tryz.underlying9 h2;obtain⟨_,l3,rfl,w3,_⟩:=Yl Tryz.underlying27 h3;obtain⟨_,l4,rfl,w4,_⟩:=Yl Tryz.underlying28 h4;obtain⟨_,l5,rfl,w5,_⟩:=Yl Tryz.underlying29 h5;obtain⟨_,l6,rfl,w6,_⟩:=Yl Tryz.underlying30 h6;have hb:0≤a1:=Vz w1;obtain⟨b,rfl⟩:=Qof hb;exact⟨a0,b,a2,_,_,_,_,e,w2,by simp;omega,by simp;omega,by simp;omega,by simp;omega⟩

theorem Qjx {M:Nat}(hM:M≤140737488351232)(x:PI)(hx:x.ok M)(m:Qh):Qd Tryz.prog 161 [Xn x] m fun y m1=>y=.bool (!Ww x)∧m1=m:=by
 have z0:(0≤(0:Int))=True:=by simp
 have z1:Int.toNat 0=0:=rfl;refine wG Tryz.func161 ?_;simp only[eK,Tryz.f161,seval];simp only[Xn,PI.cells,Qnq,eE,seval];rcases hn:x.notes with _|⟨n,_|⟨n2,ns⟩⟩
 ·have c0:decide (((0:Nat):Int) > 1)=false:=rfl;have c1:(((0:Nat):Int)==1)=false:=rfl;have e:Ww x=true:=by unfold Ww;rw[hn]
  simp only[Qnr,Qnx,e,Qod,eE,seval]
 ·obtain⟨kd,b,t,l,p,s,r,hv,ht,h3,h4,h5,h6⟩:=IE (hx.notes n (by rw[hn];simp)) hM;have c0:decide (((1:Nat):Int) > 1)=false:=rfl;have c1:(((1:Nat):Int)==1)=true:=rfl;have e:Ww x=(n.name==alias&&XO 7 kd b t l p s r):=by
   unfold Ww;rw[hn];show(n.name==alias&&nok n.val)=_;rw[hv];rfl
  have en:XS n.cells=.agg [.str n.name,.int .i64 kd,.int .u64 ((b:Nat):Int),.str t,.list l,.list p,.list s,.list r]:=by
   rw[PN.cells,hv];rfl
  have hne:(!(n.name==[97,108,105,97,115]))=!(n.name==alias):=rfl;have hc:=Qjw kd b t l p s r h3 h4 h5 h6;simp only[nv]at hc;simp only[QmK,Qnr,Qm3,Qnx,QmU,en,Qf,z0,z1,Qny,QP,hne,e,eE,seval];by_cases ha:n.name=alias
  ·have b0:(n.name==alias)=true:=by simp[ha]
   rw[←ha]at hc;simp only[b0,Qod,Qoc,eE,seval];refine aC hc ?_;cases XO 7 kd b t l p s r
   ·have d0:((12:Int) != 0)=true:=rfl;simp only[QmO,d0,QnE,Qa,seval]
   ·have d0:((0:Int) != 0)=false:=rfl;simp only[d0,Qod,Qa,seval]
  ·have b0:(n.name==alias)=false:=by simp[ha]
   simp only[b0,QnE,Qn1,Qa,seval]
 ·have c0:decide ((((ns.length+1+1:Nat)):Int) > 1)=true:=Qou (by omega);have e:Ww x=false:=by unfold Ww;rw[hn]
  simp only[QmK,c0,e,QnE,Qa,seval]

theorem Qjy {M:Nat}(hM:M≤140737488351232)(x:PE)(hx:x.ok M)(m:Qh):Qd Tryz.prog 160 [QE x] m fun y m1=>y=.bool (!Wh x)∧m1=m:=by
 have n1:decide ((x.notes.length:Int) > 0)=!x.notes.isEmpty:=by
  cases x.notes with
  |nil=>rfl
  |cons a l=>simp
 refine wG Tryz.func160 ?_;simp only[eK,Tryz.f160,seval];simp only[QE,PE.cells,Qnq,Wh,n1,eE,seval];cases a1:x.notes.isEmpty
 ·simp only[QnE,Qn1,Qa,seval]
 simp only[Qod,Qoc,eE,seval];refine Qg (Rl x.items hx.len1 (fun o=>!Ww o) 161 [] _ fun o ho=>Qjx hM o (hx.items o ho) _) (by simp only[Qm3,Qnx,Qa,seval]<;>rfl) ?_;simp only[XL,Qa,seval]

theorem z72 {M:Nat}(hM:M≤140737488351232)(P:PL)(hP:P.ok M)(hl:∀g∈P.progs,g.ops.length≤64):Qi Tryz.prog 72 [P.av] (.bool (!args P)):=by
 have e0:P.av=.agg [.list (P.progs.map Qm),.list (P.enums.map QE)]:=rfl;refine wF Tryz.func72 ?_;simp only[eK,Tryz.f72,seval];simp only[e0,args,eE,seval];refine Qg (BK P.progs hP.len1 (fun g=>!Wg P g) 154 [.ptr 0 1 0] _ fun o ho=>Qjs P o (Qmt (hl o ho) (by decide)) _ (by rfl)) (by simp only[Qm3,Qnx,Qa,seval]<;>rfl) ?_;simp only[XL,Qa,seval];cases P.progs.all (Wg P)
 ·simp only[QnE,Qn1,Qa,seval]
 simp only[Qod,Qoc,eE,seval];refine Qg (DE P.enums hP.len2 (fun g=>!Wh g) 160 [] _ fun o ho=>Qjy hM o (hP.enums o ho) _) (by simp only[Qm3,Qnx,Qa,seval]<;>rfl) ?_;simp only[XL,Qa,seval]

def ZA (B:List Bool)(o:PO):Bool:=o.card==1&&o.kind==10 && !(B[o.target.toNat]?.getD false)
def H4 (G:List PG)(B:List Bool)(i:Nat):List Bool:=match G[i]? with
 |some g=>B.set i (!g.ops.any (ZA B))
 |none=>B
def JJ (G:List PG)(B:List Bool):Nat→List Bool
 |0=>B
 |i+1=>H4 G (JJ G B i) i
def its (G:List PG):Nat→List Bool
 |0=>List.replicate G.length false
 |c+1=>JJ G (its G c) G.length
def fin (P:PL):Bool:=(its P.progs P.progs.length).all id

def Tgt (P:PL):Prop:=∀g∈P.progs,∀o∈g.ops,o.kind=10→0≤o.target∧o.target<(P.progs.length:Int)

theorem Qa3 (G:List PG)(B:List Bool)(i:Nat):(H4 G B i).length=B.length:=by
 unfold H4;split<;>simp
theorem GK (G:List PG)(B:List Bool):∀i,(JJ G B i).length=B.length
 |0=>rfl
 |i+1=>by rw[JJ,Qa3,GK G B i]
theorem GL (G:List PG):∀c,(its G c).length=G.length
 |0=>by simp[its]
 |c+1=>by rw[its,GK,GL G c]

def MX (G:List PG)(B:List Bool):Prop:=∀(i:Nat) (g:PG),G[i]? = some g→B[i]? = some true→g.ops.any (ZA B)=false

theorem Tr {B B':List Bool}(h:∀k:Nat,B[k]?.getD false=true→B'[k]?.getD false=true){o:PO}(hn:ZA B o=false):ZA B' o=false:=by
 unfold ZA at *;cases hc:(o.card==1&&o.kind==10)
 ·rfl
 ·rw[hc]at hn;simp only[Qoc,Bool.not_eq_false']at hn ⊢;rw[h _ hn]

theorem Qa4 {G:List PG}{B:List Bool}(h:MX G B)(i:Nat):MX G (H4 G B i)∧∀k:Nat,B[k]?.getD false=true→(H4 G B i)[k]?.getD false=true:=by
 have mono:∀k:Nat,B[k]?.getD false=true→(H4 G B i)[k]?.getD false=true:=by
  intro k hk;unfold H4;split
  ·rename_i g hg;by_cases hki:i=k
   ·subst hki;have hb:B[i]? = some true:=by
     cases hB:B[i]? with
     |none=>rw[hB]at hk;cases hk
     |some b=>rw[hB]at hk;simp at hk;rw[hk]
    have hlt:=(Qmu.1 hb).1;rw[List.getElem?_set_self hlt,h i g hg hb];rfl
   ·rw[Qoz hki];exact hk
  ·exact hk
 refine⟨fun j g hg hb=>?_,mono⟩;rw[List.any_eq_false];intro o ho;rw[QoA];have hB:B[j]? = some true∨g.ops.any (ZA B)=false:=by
  unfold H4 at hb;split at hb
  ·rename_i g' hg';by_cases hij:i=j
   ·subst hij;rw[hg]at hg';cases hg'
    right
    by_cases hlt:i<B.length
    ·rw[List.getElem?_set_self hlt]at hb
     simpa using hb
    ·rw[QnU (by simp;omega)]at hb;cases hb
   ·rw[Qoz hij]at hb;exact .inl hb
  ·exact .inl hb
 have ha:g.ops.any (ZA B)=false:=hB.elim (h j g hg) id;rw[List.any_eq_false]at ha;exact Tr mono (by simpa using ha o ho)

theorem BM {G:List PG}{B:List Bool}(h:MX G B):∀i,MX G (JJ G B i)
 |0=>h
 |i+1=>(Qa4 (BM h i) i).1
theorem MY (G:List PG):∀c,MX G (its G c)
 |0=>by
  intro i g _ hb;rw[its,List.getElem?_replicate]at hb;split at hb<;>cases hb
 |c+1=>BM (MY G c) _

theorem QdW {G:List PG}{B:List Bool}(h:MX G B){i:Nat}{g:PG}{b:Bool}(hg:G[i]? = some g)(hb:B[i]? = some b):H4 G B i=B.set i (b || !g.ops.any (ZA B)):=by
 unfold H4;rw[hg];cases b with
 |false=>rfl
 |true=>
  show B.set i _=B.set i (true||_);rw[h i g hg hb];rfl

theorem Rs {P:Program}{f:Fr}{d:Nat}{its:List Am.Item}{m:Qh}{ds:List DF}{K:St→Prop}{k l s:Nat}{args:List RA}{ys:List AV}{v:AV}(hk:Qd P k ys m fun x m1=>x=v∧m1=m)(hy:args.map (RA.ev f)=ys)(h:QB P its ⟨QG f d v,m,ds⟩ K) :
  QB P (⟨some d,.callK l s (.f k) args,none⟩ :: its) ⟨f,m,ds⟩ K:=by
 refine⟨k,[],[],v,m,rfl,?_,rfl,h⟩;show Qd P k (args.map (RA.ev f)++[]) m fun x m1=>x=v∧m1=m
 rw[Qnz,hy];exact hk

theorem Qjz (B:List Bool)(hl:B.length≤maxLen):Qi Tryz.prog 226 [.list (B.map AV.bool),.bool false] (.int .i64 (XW (fun b=>!b) B 0)):=by
 let I:Nat→St→Prop:=fun k st=>∃f i,st=⟨f,[Qb],[]⟩∧k=B.length-i∧XW (fun b=>!b) B 0=XW (fun b=>!b) (B.drop i) i∧f 0=.list (B.map AV.bool)∧f 1=.bool false∧f 7=.int .i64 (B.length:Nat)∧f 8=.int .i64 (i:Nat)
 refine wF Tryz.func226 ?_;simp only[eK,Tryz.f226,seval];simp only[Qnq,Qa,seval];refine Qk I _ ⟨_,0,rfl,rfl,rfl,(by rfl),(by rfl),(by rfl),(by rfl)⟩ ?_;rintro _ st ⟨f,i,rfl,rfl,hx,h0,h1,h7,h8⟩;simp only[h7,h8,Qa,seval];by_cases hlt:i<B.length
 ·obtain⟨x,hi⟩:∃x,B[i]? = some x:=⟨B[i],Qmv hlt⟩;have hg:(B.map AV.bool)[i]? = some (.bool x):=by simp[hi]
  have e1:=Qw i _ hlt hl;rw[DC _ hi]at hx;cases x
  ·rw[QmD (show(!false)=true from rfl)]at hx;have b0:(false==false)=true:=rfl;simp only[QD hlt,Qv,QnY,Qf,hg,b0,h0,h1,h8,hx,eE,seval]
  ·rw[QmC (by decide)]at hx;have b0:(false==true)=false:=rfl;simp only[QD hlt,Qv,QnY,Qf,hg,b0,h0,h1,h8,e1,eE,seval];exact⟨B.length-(i+1),by omega,_,i+1,rfl,rfl,hx,(by exact h0),(by exact h1),(by exact h7),(by rfl)⟩
 ·have hx':XW (fun b=>!b) B 0 = -1:=by rw[hx,Qm8 (by omega)];rfl
  simp only[QI hlt,hx',Qa,seval]

theorem QjA (B:List Bool)(hl:B.length≤maxLen):Qi Tryz.prog 164 [.list (B.map AV.bool),.bool false] (.bool (!B.all id)):=by
 have e:(!B.all id)=B.any fun b=>!b:=by rw[XL];rfl
 refine wF Tryz.func164 ?_;simp only[eK,Tryz.f164,seval];simp only[Qa,seval];refine aC (Qjz B hl) ?_;simp only[KE,e,Qa,seval]

theorem QjB (o:PO)(n:Nat)(B:List Bool)(hB:B.length=n)(ht:o.kind=10→0≤o.target∧o.target<(n:Int))(fr:Nat→Ob)(m:Qh)(h3:fr 3=.cells [.vec 0 9 1 0 n false])(h9:fr 9=.vec 1 1 (B.map AV.bool)) :
  Qd Tryz.prog 163 [Qz o,.ptr 3 3 0] (Qb :: Qb :: Qb :: fr :: m) fun y m1=>y=.bool (ZA B o)∧m1=Qb :: Qb :: Qb :: fr :: m:=by
 refine wG Tryz.func163 ?_;simp only[eK,Tryz.f163,seval];simp only[Qz,PO.cells,ZA,eE,seval];cases a1:(o.card==1)
 ·simp only[Qn1,Qa,seval]
 cases a2:(o.kind==10)
 ·simp only[a2,Qn1,Qoe,eE,seval]
 obtain⟨t1,t2⟩:=ht (by simpa using a2);obtain⟨t,hte⟩:=Qof t1;obtain⟨y,hy⟩:∃y,B[t]? = some y:=⟨B[t]'(by omega),Qmv (by omega)⟩;have hg:(B.map AV.bool)[t]? = some (.bool y):=by simp[hy]
 have hlt:(t<n)=True:=eq_true (by omega);simp only[a2,hte,hy,hg,hlt,h3,h9,Qf,Qv,QnY,QnH,Qoc,QmU,eE,seval]

structure En (P:PL)(c:Nat)(B:List Bool)(f:Fr)(fr:Nat→Ob):Prop where
 h1:f 1=.ptr 0 1 0
 m1:fr 1=.cells [.list (P.progs.map Qm),.list (P.enums.map QE)]
 h3:f 3=.ptr 0 3 0
 m3:fr 3=.cells [.vec 0 9 1 0 P.progs.length false]
 m9:fr 9=.vec 1 1 (B.map AV.bool)
 h12:f 12=.int .i64 (P.progs.length:Nat)
 h13:f 13=.int .i64 (c:Nat)
 r5:∀s∈[5],(fr s).isRow=false

theorem En.drop {P:PL}{c:Nat}{B:List Bool}{f f':Fr}{fr fr':Nat→Ob}(h:En P c B f fr)(hf:∀i,f' i=Dy [5] (f i))(hm:∀i,i∉[5]→fr' i=GG [5] (fr i))(hn:∀i∈[5],fr' i=.none):En P c B f' fr' where
 h1:=by rw[hf,h.h1]<;>rfl
 m1:=by rw[hm 1 (by decide),h.m1]<;>rfl
 h3:=by rw[hf,h.h3]<;>rfl
 m3:=by rw[hm 3 (by decide),h.m3]<;>rfl
 m9:=by rw[hm 9 (by decide),h.m9]<;>rfl
 h12:=by rw[hf,h.h12]<;>rfl
 h13:=by rw[hf,h.h13]<;>rfl
 r5:=fun s hs=>by rw[hn s hs]<;>rfl

def EnA (P:PL)(k:Nat)(st:St):Prop:=∃f fr c,st=⟨f,[fr],[]⟩∧k=P.progs.length-c∧c≤P.progs.length∧En P c (its P.progs c) f fr
def EnB (P:PL)(c:Nat)(k:Nat)(st:St):Prop:=∃f fr i,st=⟨f,[fr],[]⟩∧k=P.progs.length-i∧i≤P.progs.length∧En P c (JJ P.progs (its P.progs c) i) f fr∧f 16=.list (P.progs.map Qm)∧f 17=.int .i64 (P.progs.length:Nat)∧f 18=.int .i64 (i:Nat)

theorem z73 {M:Nat}(P:PL)(hP:P.ok M)(hl:P.progs.length≤64)(hT:Tgt P):Qi Tryz.prog 73 [P.av] (.bool (!fin P)):=by
 have e0:P.av=.agg [.list (P.progs.map Qm),.list (P.enums.map QE)]:=rfl;have hmx:P.progs.length≤maxLen:=by simp only[maxLen];omega
 have hz:Zx 1 [AV.bool false]=.bool false:=rfl;have hr0:(List.replicate P.progs.length (AV.bool false))=(its P.progs 0).map AV.bool:=by simp[its]
 refine wF Tryz.func73 ?_;simp only[eK,Tryz.f73,seval];simp only[e0,Qnq,eE,seval];refine GD (n:=P.progs.length) (k:=P.progs.length) rfl rfl (Qms _) (by omega) (by omega) rfl ?_;simp only[hz,hr0,Qnq,eE,seval];refine Qk (EnA P) _ ⟨_,_,0,rfl,rfl,QmE _,⟨(by rfl),(by rfl),(by rfl),(by rfl),(by rfl),(by rfl),(by rfl),by simp<;>rfl⟩⟩ ?_;rintro _ st ⟨f0,fr0,c,rfl,rfl,hc,H0⟩;refine QL (a:=_) [5] H0.r5 ?_;intro f fr hf hm hn;have H:=H0.drop hf hm hn;clear hf hm hn;obtain⟨h1,m1,h3,m3,m9,h12,h13,r5⟩:=id H;simp only[h12,h13,Qa,seval];by_cases hlt:c<P.progs.length
 ·have e1:=Qw c _ hlt hmx;simp only[QD hlt,h1,m1,Qnq,eE,seval];refine Qk (EnB P c) _ ⟨_,_,0,rfl,rfl,QmE _,⟨(by exact h1),(by exact m1),(by exact h3),(by exact m3),(by exact m9),(by exact h12),(by exact h13),r5⟩,(by rfl),(by rfl),(by rfl)⟩ ?_;rintro _ st ⟨f0,fr0,i,rfl,rfl,hi,H0,h160,h170,h180⟩;refine QL (a:=_) [5] H0.r5 ?_;intro f fr hf hm hn;have H:=H0.drop hf hm hn;have h16:f 16=.list (P.progs.map Qm):=by rw[hf,h160]<;>rfl
  have h17:f 17=.int .i64 (P.progs.length:Nat):=by rw[hf,h170]<;>rfl
  have h18:f 18=.int .i64 (i:Nat):=by rw[hf,h180]<;>rfl
  have n5:=hn 5 (by decide);clear hf hm hn;obtain⟨h1,m1,h3,m3,m9,h12,h13,r5⟩:=id H;simp only[h17,h18,Qa,seval];by_cases hli:i<P.progs.length
  ·obtain⟨g,hg⟩:∃g,P.progs[i]? = some g:=⟨P.progs[i],Qmv hli⟩;have hgm:(P.progs.map Qm)[i]? = some (Qm g):=by simp[hg]
   have hBl:(JJ P.progs (its P.progs c) i).length=P.progs.length:=by rw[GK,GL]
   obtain⟨b,hb⟩:∃b,(JJ P.progs (its P.progs c) i)[i]? = some b:=⟨_,Qmv (by omega)⟩;have hbm:((JJ P.progs (its P.progs c) i).map AV.bool)[i]? = some (.bool b):=by simp[hb]
   have hst:=QdW (BM (MY P.progs c) i) hg hb;have e2:=Qw i _ hli hmx;have s1:(i<P.progs.length)=True:=eq_true hli;have hTg:=hT g (QmJ hg);generalize hBB:JJ P.progs (its P.progs c) i=B at *;have fin2:∀(f':Fr) (fr':Nat→Ob) (v:Bool),(b || !g.ops.any (ZA B))=v→f' 1=.ptr 0 1 0→fr' 1=.cells [.list (P.progs.map Qm),.list (P.enums.map QE)]→f' 3=.ptr 0 3 0→fr' 3=.cells [.vec 0 9 1 0 P.progs.length false]→
     fr' 9=.vec 1 1 ((B.map AV.bool).set i (.bool v))→f' 12=.int .i64 (P.progs.length:Nat)→f' 13=.int .i64 (c:Nat)→(∀s∈[5],(fr' s).isRow=false)→f' 16=.list (P.progs.map Qm)→f' 17=.int .i64 (P.progs.length:Nat)→f' 18=.int .i64 ((i+1:Nat):Int)→∃k,k<P.progs.length-i∧EnB P c k ⟨f',[fr'],[]⟩:=by
    intro f' fr' v hv a1 a2 a3 a4 a5 a6 a7 a8 a9 a10 a11;have hB':JJ P.progs (its P.progs c) (i+1)=B.set i v:=by rw[JJ,hBB,hst,hv]
    exact⟨P.progs.length-(i+1),by omega,f',fr',i+1,rfl,rfl,by omega,⟨a1,a2,a3,a4,by rw[hB',a5,List.map_set],a6,a7,a8⟩,a9,a10,a11⟩
   have ist:∀(fr':Nat→Ob) (v:Bool),fr' 9=.vec 1 1 (B.map AV.bool)→Xa [fr'] (.vptr 0 9 1 i 0) [.bool v]=some [QG fr' 9 (.vec 1 1 ((B.map AV.bool).set i (.bool v)))]:=by
    intro fr' v h9;have e:Am.Qc [fr'] 0 9=.vec 1 1 (B.map AV.bool):=h9;simp only[Xa,e,hbm];simp[AV.cells,AV.rfL,AV.rf,Am.put,Jd]
   have ia:∀fr':Nat→Ob,fr' 9=.vec 1 1 (B.map AV.bool)→Qf [fr'] 1 none (.vec 0 9 1 0 P.progs.length false) (i:Int)=some (.vptr 0 9 1 i 0):=by
    intro fr' h9;have e:Am.Qc [fr'] 0 9=.vec 1 1 (B.map AV.bool):=h9;simp only[Qf,e,Qv,if_true,QnY];simp;omega
   have hcl:=fun(fr':Nat→Ob) (h3:fr' 3=.cells [.vec 0 9 1 0 P.progs.length false]) (h9:fr' 9=.vec 1 1 (B.map AV.bool))=>V0 g.ops (hP.progs g (QmJ hg)).len (ZA B) 163 [.ptr 0 3 0] [fr'] fun o ho=>QjB o P.progs.length B hBl (hTg o ho) fr' _ h3 h9
   simp only[QD hli,Qv,QnY,Qf,hgm,Qm,PG.cells,n5,hbm,s1,QmU,h3,h16,h18,m3,m9,eE,seval];cases b
   ·simp only[eE,seval];refine Rs (hcl _ (by exact m3) (by exact m9)) (by simp only[Qm3,Qnx,h3,Qa,seval]<;>rfl) ?_;generalize hav:g.ops.any (ZA B)=av;rw[hav]at fin2;simp only[ia,ist,h18,m9,e2,eE,seval];exact fin2 _ _ _ rfl (by exact h1) (by exact m1) (by exact h3) (by exact m3) (by rfl) (by exact h12) (by exact h13) (by simp<;>rfl) (by exact h16) (by exact h17) (by rfl)
   ·simp only[ia,ist,h18,m9,e2,eE,seval];exact fin2 _ _ _ rfl (by exact h1) (by exact m1) (by exact h3) (by exact m3) (by rfl) (by exact h12) (by exact h13) (by simp<;>rfl) (by exact h16) (by exact h17) (by rfl)
  ·have hii:i=P.progs.length:=by omega
   subst hii;simp only[QI hli,h13,e1,Qa,seval];exact⟨P.progs.length-(c+1),by omega,_,_,c+1,rfl,rfl,by omega,⟨(by exact h1),(by exact m1),(by exact h3),(by exact m3),m9,(by exact h12),(by rfl),r5⟩⟩
 ·have hcc:c=P.progs.length:=by omega
  subst hcc;have hBl:=GL P.progs P.progs.length;simp only[QI hlt,h3,m3,eE,seval];refine XR (QjA (its P.progs P.progs.length) (by omega)) ?_ rfl rfl (.inr rfl) ?_
  ·have el:Am.Qc [fr] 0 9=.vec 1 1 ((its P.progs P.progs.length).map AV.bool):=m9;simp only[Qm3,Qnx,AV.stillL,AV.still,el,Qa,seval];have hle:(0+P.progs.length≤((its P.progs P.progs.length).map AV.bool).length)=True:=eq_true (by simp;omega);have ht:((its P.progs P.progs.length).map AV.bool).take P.progs.length=(its P.progs P.progs.length).map AV.bool:=Qm5 (by simp;omega);simp only[Qn1,QmO,if_false,hle,if_true,ht]
  ·simp only[fin,Qa,seval]

def ck (P:PL):Int :=
 if Dh P=false then 3 else if FI P=false then 8 else if HX P=false then 11 else if VY P=false then 9 else if VZ P=false then 6 else if args P=false then 1 else if fin P=false then 19 else 0

theorem H5 {P:PL}(h:Dh P=true):P.progs.length≤64∧P.enums.length≤64∧(∀g∈P.progs,g.ops.length≤64)∧∀e∈P.enums,1≤e.items.length∧e.items.length≤64∧e.free.length≤16:=by
 unfold Dh at h;simp only[QmT,Qmz,QmI]at h;obtain⟨⟨⟨h1,h2⟩,h3⟩,h4⟩:=h;refine⟨h1,h2,fun g hg=>?_,fun e he=>?_⟩
 ·have:=h3 g hg;unfold Wc at this;exact of_decide_eq_true this
 ·have:=h4 e he;unfold YH at this;simp only[QmT,Qmz]at this;exact⟨this.1.1,this.1.2,this.2⟩

theorem V8 {P:PL}(h:args P=true):Tgt P:=by
 intro g hg o ho hk;unfold args at h;simp only[QmT,QmI]at h;have h1:=h.1 g hg;unfold Wg at h1;simp only[QmT,QmI]at h1;have h2:=(h1.2 o ho).1;unfold Kn at h2;simp only[QmT]at h2;have h3:=h2.2;unfold FK at h3;rw[QmD hk]at h3;simp only[QmT,Qmz]at h3;exact⟨h3.1.1,h3.1.2⟩

theorem QjC {M:Nat}(P:PL)(hP:P.ok M)(hM:M≤140737488351232)(hN1:∀g∈P.progs,g.name.length≤17592186044000)(hN2:∀g∈P.enums,g.name.length≤17592186044000):Qi Tryz.prog 37 [P.av] (.int .i64 (ck P)):=by
 have e0:P.av=.agg [.list (P.progs.map Qm),.list (P.enums.map QE)]:=rfl;have c1:=z67 P hP;have c2:=QiS P hP hN1 hN2;have c3:=z69 P hP;have c4:=z70 P hP;refine wF Tryz.func37 ?_;simp only[eK,Tryz.f37,seval];simp only[e0,ck,eE,seval];refine aC c1 ?_;cases hl:Dh P
 ·simp only[QnE,Qa,seval]
 obtain⟨l1,l2,l3,l4⟩:=H5 hl;have c5:=z71 P hP fun e he h=>by have:=(l4 e he).1;rw[h]at this;simp at this
 have c6:=z72 hM P hP l3;simp only[Qod,QoB,eE,seval];refine aC c2 ?_;cases FI P
 ·simp only[QnE,Qa,seval]
 simp only[Qod,QoB,eE,seval];refine aC c3 ?_;cases HX P
 ·simp only[QnE,Qa,seval]
 simp only[Qod,QoB,eE,seval];refine aC c4 ?_;cases VY P
 ·simp only[QnE,Qa,seval]
 simp only[Qod,QoB,eE,seval];refine aC c5 ?_;cases VZ P
 ·simp only[QnE,Qa,seval]
 simp only[Qod,QoB,eE,seval];refine aC c6 ?_;cases ha:args P
 ·simp only[QnE,Qa,seval]
 have c7:=z73 P hP l1 (V8 ha);simp only[Qod,QoB,eE,seval];refine aC c7 ?_;cases fin P
 ·simp only[QnE,Qa,seval]
 ·simp only[Qod,QoB,Qa,seval]

def Pc (P:PL):List AV:=[.list (P.progs.map Qm),.list (P.enums.map QE)]
theorem H6 (P:PL):P.av=.agg [.list (P.progs.map Qm),.list (P.enums.map QE)]:=rfl
theorem A8 (b:Bool)(q:Nat→Bool)(i:Nat):(b&&Qp q (i+1))=((b&&Qp q i)&&q i):=by rw[Qp,Qng]

def Ac (n s:Nat)(q:Nat→Bool)(b:Bool)(c:Nat)(L:List (Nat×AV))(O:List (Nat×Ob))(l:List Nat)(m:Qh):Nat→St→Prop :=
 Ix (fun k=>(3,.bool (b&&Qp q k)) :: (c,.int .i64 (k:Nat)) :: L) (fun _=>O) l (fun k=>n-k) (fun k=>s≤k∧(k≤n∨k=s)) (fun _=>m)
section
variable {P:Program}{a:RC}{Q:Exit→St→Prop}{f:Fr}{fr:Nat→Ob}{m:Qh}{n s k:Nat}{q:Nat→Bool}{b:Bool}{c:Nat}{L:List (Nat×AV)}{O:List (Nat×Ob)}{l:List Nat}
theorem V9 (k:Int):∀l,Dy l (.int .i64 k)=.int .i64 k
 | []=>rfl
 |_ :: l=>V9 k l
theorem Ns (b:Bool):∀l,Dy l (.bool b)=.bool b
 | []=>rfl
 |_ :: l=>Ns b l
theorem Xd (n s:Nat)(q:Nat→Bool)(b:Bool)(c:Nat)(L:List (Nat×AV))(O:List (Nat×Ob))(l:List Nat)(h0:(b&&Qp q s)=b)
  (h:∀(k:Nat) f fr,s≤k∧(k≤n∨k=s)→QR P a ⟨Xp ((3,.bool (b&&Qp q k)) :: (c,.int .i64 (k:Nat)) :: L) f,Xp (O++l.map fun s=>(s,.none)) fr :: m,[]⟩ (Kl (Ac n s q b c L O l m) (n-k) Q))
  (hf:Ag f ((3,.bool b) :: (c,.int .i64 (s:Nat)) :: L):=by exact rfl) (ho:Ag fr O:=by exact rfl) (hr:(l.all fun s=>!(fr s).isRow)=true:=by exact rfl)
  (hs:L.map (fun q=>Dy l q.2)=L.map Prod.snd:=by exact rfl) (ht:O.map (fun q=>(l.contains q.1,GG l q.2))=O.map fun q=>(false,q.2):=by exact rfl):QR P (.loop (GF l a)) ⟨f,fr :: m,[]⟩ Q :=
 UB (X:=Nat) (fun k=>(3,.bool (b&&Qp q k)) :: (c,.int .i64 (k:Nat)) :: L) (fun _=>O) l (fun k=>n-k) (fun k=>s≤k∧(k≤n∨k=s)) (fun _=>m) s ⟨Qms _,.inr rfl⟩ h (by rw[h0];exact hf) ho hr rfl (fun k=>by simp only[Qm3,hs,V9,Ns]) (fun _=>ht)
theorem Ac.go {v:Bool}(hk:s≤k∧(k≤n∨k=s))(hlt:k<n)(hf:Ag f ((3,.bool v) :: (c,.int .i64 ((k+1:Nat):Int)) :: L))(hv:((b&&Qp q k)&&q k)=v)(ho:Ag fr O:=by exact rfl)(hr:(l.all fun s=>!(fr s).isRow)=true:=by exact rfl) :
  ∃j,j<n-k∧Ac n s q b c L O l m j ⟨f,fr :: m,[]⟩ :=
 Ix.go (k+1) (by omega) ⟨by omega,.inl (by omega)⟩ (by rw[A8,hv];exact hf) ho hr
theorem Ji (h0:∀i,i<s→q i=true)(hk:s≤k∧(k≤n∨k=s))(hn:¬k<n):Qp q k=Qp q n:=by
 rcases Nat.lt_or_ge n k with h|h
 ·rw[QV.2 fun i hi=>h0 i (by omega),QV.2 fun i hi=>h0 i (by omega)]
 ·rw[show k=n by omega]
theorem Zg {α:Type}{l:List α}{q:α→Bool}{k:Nat}(hk:0≤k∧(k≤l.length∨k=0))(hn:¬k<l.length):Qp (Q6 l q) k=l.all q:=by
 rw[Ji (fun i hi=>absurd hi (QoC i)) hk hn,U6]
end
theorem Q4 {α:Type}{l:List α}{i:Nat}{x:α}(g:α→AV)(h:l[i]? = some x):(l.map g)[i]? = some (g x):=by
 rw[QnT,h];rfl

section
variable {M:Nat}(P:PL)(hP:P.ok M)
include hP

theorem z28:Qi Tryz.prog 28 [P.av] (.bool (Dh P)):=by
 obtain⟨B,hB⟩:∃B,(decide ((P.progs.length:Int)≤64)&&decide ((P.enums.length:Int)≤64))=B:=⟨_,rfl⟩;have hl:Dh P=((B&&P.progs.all Wc)&&P.enums.all YH):=by
  rw[←hB,show decide ((P.progs.length:Int)≤64)=decide (P.progs.length≤64)by rw[decide_eq_decide];omega,show decide ((P.enums.length:Int)≤64)=decide (P.enums.length≤64)by rw[decide_eq_decide];omega];rfl
 refine wF Tryz.func28 ?_;simp only[eK,Tryz.f28,seval];simp only[H6,Qnq,eE,seval];cases c1:decide ((P.progs.length:Int)≤64)
 all_goals
  rw[c1]at hB;simp only[Qoc,Qn1]at hB;simp only[Qnq,cond_true,cond_false,eE,seval];refine Xd P.progs.length 0 (Q6 P.progs Wc) B 4 [(1,.ptr 0 1 0)] [(1,.cells (Pc P))] [] (by simp[Qp]) ?_ (by rw[←hB];rfl);rintro k f fr hk;simp only[Pc,Qnq,Xp,Qnx,eE,seval];rcases Xy P.progs k with⟨x,hx,hlt⟩|hlt
  ·have hg:=Q4 Qm hx;have e1:=Qw k _ hlt hP.len1;have e3:decide ((x.ops.length:Int)≤64)=Wc x:=by unfold Wc;exact(by rw[Qnp];simp only[Qmz];omega)
   rw[HZ]at hg;cases hb:(B&&Qp (Q6 P.progs Wc) k)
   ·simp only[QD hlt,e1,cond_true,cond_false,Qa,seval];exact Ac.go hk hlt rfl (by rw[hb];rfl)
   ·simp only[QD hlt,Qv,QnY,Qf,hg,Qnq,e1,e3,cond_true,cond_false,eE,seval];exact Ac.go hk hlt rfl (by rw[hb,Xs hx];rfl)
  simp only[QI hlt,Zg hk hlt,Qa,seval];refine Xd P.enums.length 0 (Q6 P.enums YH) (B&&P.progs.all Wc) 5 [(1,.ptr 0 1 0)] [(1,.cells (Pc P))] [] (by simp[Qp]) ?_;rintro k f fr hk;simp only[Pc,Qnq,Xp,Qnx,eE,seval];rcases Xy P.enums k with⟨x,hx,hlt⟩|hlt
  ·have hg:=Q4 QE hx;have e1:=Qw k _ hlt hP.len2;have e3:((decide ((x.items.length:Int)≥1)&&decide ((x.items.length:Int)≤64))&&decide ((x.free.length:Int)≤16))=YH x:=by unfold YH;exact(by rw[Qnp];simp only[Qmz,QmT];omega)
   rw[HY]at hg;simp only[QD hlt,Qv,QnY,Qf,hg,Qnq,eE,seval];cases hb:((B&&P.progs.all Wc)&&Qp (Q6 P.enums YH) k)
   ·simp only[e1,cond_true,cond_false,Qa,seval];exact Ac.go hk hlt rfl (by rw[hb];rfl)
   cases c2:decide ((x.items.length:Int)≥1)<;>cases c3:decide ((x.items.length:Int)≤64) <;>
   ·rw[c2,c3]at e3;simp only[Qv,QnY,Qf,hg,Qnq,c2,c3,e1,cond_true,cond_false,eE,seval];exact Ac.go (v:=(YH x)) hk hlt (by rw[←e3];rfl) (by rw[hb,Xs hx];rfl)
  simp only[QI hlt,Zg hk hlt,hl,Qa,seval]

theorem z29:Qi Tryz.prog 29 [P.av] (.bool (FI P)):=by
 have hn:FI P=(P.progs.all KD&&P.enums.all Un):=rfl;obtain⟨T,hT⟩:∃T,T=true:=⟨_,rfl⟩;refine wF Tryz.func29 ?_;simp only[eK,Tryz.f29,seval];simp only[H6,eE,seval];refine Xd P.progs.length 0 (Q6 P.progs KD) T 4 [(1,.ptr 0 1 0)] [(1,.cells (Pc P))] [] (by simp[Qp]) ?_ (by(rw[hT];rfl));rintro k f fr hk;simp only[Pc,Qnq,Xp,Qnx,eE,seval];rcases Xy P.progs k with⟨x,hx,hlt⟩|hlt
 ·have hg:=Q4 Qm hx;have e1:=Qw k _ hlt hP.len1;have hsl:=(hP.progs x (QmJ hx)).len;rw[HZ]at hg;simp only[QD hlt,Qa,seval];cases hb:(T&&Qp (Q6 P.progs KD) k)
  case' false=>simp only[cond_true,cond_false,Qa,seval]
  case' true=>
   simp only[Qv,QnY,Qf,hg,cond_true,cond_false,eE,seval];refine aC (z61 x.name) ?_;simp only[cond_true,cond_false,Qa,seval]
  all_goals
   refine Xd x.ops.length 0 (Q6 x.ops fun o=>Wa o.name) ((T&&Qp (Q6 P.progs KD) k)&&Wb x.name) 5 [(1,.ptr 0 1 0),(4,.int .i64 (k:Nat))] [(1,.cells (Pc P))] [] (by simp[Qp]) ?_ (by rw[hb];rfl);rintro j f fr hj;simp only[Pc,Qv,QnY,Qf,hg,Qnq,Xp,Qnx,eE,seval];rcases Xy x.ops j with⟨o,ho,hlj⟩|hlj
   ·have hgo:=Q4 Qz ho;have e2:=Qw j _ hlj hsl;rw[H1]at hgo;cases hc:((T&&Qp (Q6 P.progs KD) k)&&Wb x.name)&&Qp (Q6 x.ops fun o=>Wa o.name) j
    ·simp only[QD hlj,e2,cond_true,cond_false,Qa,seval];exact Ac.go hj hlj rfl (by rw[hc];rfl)
    ·simp only[QD hlj,Qv,QnY,Qf,hg,hgo,cond_true,cond_false,eE,seval];refine aC (z62 o.name) ?_;simp only[e2,cond_true,cond_false,Qa,seval];exact Ac.go hj hlj rfl (by rw[hc,Xs ho];rfl)
   simp only[QI hlj,Zg hj hlj,e1,Qa,seval];exact Ac.go hk hlt rfl (by rw[Xs hx];exact(Qng ..).symm)
 simp only[QI hlt,Zg hk hlt,hT,Qoc,Qa,seval]

 refine Xd P.enums.length 0 (Q6 P.enums Un) (P.progs.all KD) 6 [(1,.ptr 0 1 0)] [(1,.cells (Pc P))] [] (by simp[Qp]) ?_ (by rfl);rintro k f fr hk;simp only[Pc,Qnq,Xp,Qnx,eE,seval];rcases Xy P.enums k with⟨x,hx,hlt⟩|hlt
 ·have hg:=Q4 QE hx;have e1:=Qw k _ hlt hP.len2;have hsl:=(hP.enums x (QmJ hx)).len1;rw[HY]at hg;simp only[QD hlt,Qa,seval];cases hb:((P.progs.all KD)&&Qp (Q6 P.enums Un) k)
  case' false=>simp only[cond_true,cond_false,Qa,seval]
  case' true=>
   simp only[Qv,QnY,Qf,hg,cond_true,cond_false,eE,seval];refine aC (z61 x.name) ?_;simp only[cond_true,cond_false,Qa,seval]
  all_goals
   refine Xd x.items.length 0 (Q6 x.items fun o=>Wa o.name) (((P.progs.all KD)&&Qp (Q6 P.enums Un) k)&&Wb x.name) 7 [(1,.ptr 0 1 0),(6,.int .i64 (k:Nat))] [(1,.cells (Pc P))] [] (by simp[Qp]) ?_ (by rw[hb];rfl);rintro j f fr hj;simp only[Pc,Qv,QnY,Qf,hg,Qnq,Xp,Qnx,eE,seval];rcases Xy x.items j with⟨o,ho,hlj⟩|hlj
   ·have hgo:=Q4 Xn ho;have e2:=Qw j _ hlj hsl;rw[BJ]at hgo;cases hc:(((P.progs.all KD)&&Qp (Q6 P.enums Un) k)&&Wb x.name)&&Qp (Q6 x.items fun o=>Wa o.name) j
    ·simp only[QD hlj,e2,cond_true,cond_false,Qa,seval];exact Ac.go hj hlj rfl (by rw[hc];rfl)
    ·simp only[QD hlj,Qv,QnY,Qf,hg,hgo,cond_true,cond_false,eE,seval];refine aC (z62 o.name) ?_;simp only[e2,cond_true,cond_false,Qa,seval];exact Ac.go hj hlj rfl (by rw[hc,Xs ho];rfl)
   simp only[QI hlj,Zg hj hlj,e1,Qa,seval];exact Ac.go hk hlt rfl (by rw[Xs hx];exact(Qng ..).symm)
 simp only[QI hlt,Zg hk hlt,hn,Qa,seval]

theorem z30:Qi Tryz.prog 30 [P.av] (.bool (HX P)):=by
 have hn:HX P=((ZR P.progs (Xt PG.name)&&P.progs.all We)&&(ZR P.enums (Xt PE.name)&&P.enums.all Uo)):=by
  unfold HX;cases ZR P.progs (Xt PG.name)<;>cases P.progs.all We<;>cases ZR P.enums (Xt PE.name)<;>rfl
 obtain⟨T,hT⟩:∃T,T=true:=⟨_,rfl⟩;refine wF Tryz.func30 ?_;simp only[eK,Tryz.f30,seval];simp only[H6,eE,seval];refine Xd P.progs.length 0 (fun i=>X7 P.progs (Xt PG.name) i&&Q6 P.progs We i) T 4 [(1,.ptr 0 1 0)] [(1,.cells (Pc P))] [] (by simp[Qp]) ?_ (by(rw[hT];rfl));rintro k f fr hk;simp only[Pc,Qnq,Xp,Qnx,eE,seval];rcases Xy P.progs k with⟨x,hx,hlt⟩|hlt
 ·have hg:=Q4 Qm hx;have e1:=Qw k _ hlt hP.len1;have hsl:=(hP.progs x (QmJ hx)).len;rw[HZ]at hg;simp only[QD hlt,Qa,seval];obtain⟨A,hA⟩:∃A,(T&&Qp (fun i=>X7 P.progs (Xt PG.name) i&&Q6 P.progs We i) k)=A:=⟨_,rfl⟩;rcases (show(A=false)∨(A=true∧k=0)∨(A=true∧∃j y,k=j+1∧P.progs[j]? = some y)by
   cases A
   ·exact .inl rfl
   ·cases k with
    |zero=>exact .inr (.inl ⟨rfl,rfl⟩)
    |succ j=>exact .inr (.inr ⟨rfl,j,P.progs[j]'(by omega),rfl,Qmv (by omega)⟩))with h|⟨h,h0⟩|⟨h,j,y,h0,hy⟩
  case' inl=>
   have hv:(A&&X7 P.progs (Xt PG.name) k)=false:=by rw[h];rfl
   simp only[hA,h,cond_true,cond_false,Qa,seval]
  case' inr.inl=>
   have hv:(A&&X7 P.progs (Xt PG.name) k)=true:=by rw[h,h0];rfl
   have b0:((k:Int)==0)=true:=by rw[h0];rfl
   simp only[hA,h,b0,cond_true,cond_false,Qa,seval]
  case' inr.inr=>
   have hgy:=Q4 Qm hy;have hv:(A&&X7 P.progs (Xt PG.name) k)=(Xt PG.name) y x:=by
    subst h0;rw[h,K9 hy hx];rfl
   have b0:((k:Int)==0)=false:=by rw[Qoi];omega
   have wj:IntKind.i64.wrap ((k:Int)-1)=(j:Int):=by
    subst h0;exact H2 j _ hlt hP.len1
   rw[HZ]at hgy;simp only[hA,h,b0,wj,Qv,QnY,Qf,hg,hgy,QP,cond_true,cond_false,eE,seval]
  all_goals
   refine Xd x.ops.length 1 (X7 x.ops (Kk PO.num)) (A&&X7 P.progs (Xt PG.name) k) 5 [(1,.ptr 0 1 0),(4,.int .i64 (k:Nat))] [(1,.cells (Pc P))] [] (by simp[Qp,X7]) ?_ (by rw[hv];rfl);rintro i f fr hi;simp only[Pc,Qv,QnY,Qf,hg,Qnq,Xp,Qnx,eE,seval];rcases Xy x.ops i with⟨o,ho,hli⟩|hli
   ·obtain⟨i,rfl⟩:∃n,i=n+1:=⟨i-1,by omega⟩;obtain⟨z,hz⟩:∃z,x.ops[i]? = some z:=⟨x.ops[i]'(by omega),Qmv (by omega)⟩;have hgo:=Q4 Qz ho;have hgz:=Q4 Qz hz;have e2:=Qw (i+1) _ hli hsl;have wi:=H2 i _ hli hsl;rw[H1]at hgo hgz;cases hc:(A&&X7 P.progs (Xt PG.name) k)&&Qp (X7 x.ops (Kk PO.num)) (i+1)
    ·simp only[QD hli,e2,cond_true,cond_false,Qa,seval];exact Ac.go hi hli rfl (by rw[hc];rfl)
    ·simp only[QD hli,Qv,QnY,Qf,hg,hgo,hgz,wi,e2,cond_true,cond_false,eE,seval];exact Ac.go hi hli rfl (by rw[hc,K9 hz ho];rfl)
   have he:Qp (X7 x.ops (Kk PO.num)) i=We x:=Ji (fun i hi=>by rw[show i=0 by omega];rfl) hi hli;simp only[QI hli,he,e1,Qa,seval];exact Ac.go hk hlt rfl (by rw[hA,Xs hx,Qng])
 have he:Qp (fun i=>X7 P.progs (Xt PG.name) i&&Q6 P.progs We i) k=(ZR P.progs (Xt PG.name)&&P.progs.all We):=by
  rw[Ji (fun i hi=>absurd hi (QoC i)) hk hlt,DD,U6];rfl
 simp only[QI hlt,he,hT,Qoc,Qa,seval]

 refine Xd P.enums.length 0 (fun i=>X7 P.enums (Xt PE.name) i&&Q6 P.enums Uo i) (ZR P.progs (Xt PG.name)&&P.progs.all We) 6 [(1,.ptr 0 1 0)] [(1,.cells (Pc P))] [] (by simp[Qp]) ?_ (by rfl);rintro k f fr hk;simp only[Pc,Qnq,Xp,Qnx,eE,seval];rcases Xy P.enums k with⟨x,hx,hlt⟩|hlt
 ·have hg:=Q4 QE hx;have e1:=Qw k _ hlt hP.len2;have hsl:=(hP.enums x (QmJ hx)).len1;rw[HY]at hg;simp only[QD hlt,Qa,seval];obtain⟨A,hA⟩:∃A,((ZR P.progs (Xt PG.name)&&P.progs.all We)&&Qp (fun i=>X7 P.enums (Xt PE.name) i&&Q6 P.enums Uo i) k)=A:=⟨_,rfl⟩;rcases (show(A=false)∨(A=true∧k=0)∨(A=true∧∃j y,k=j+1∧P.enums[j]? = some y)by
   cases A
   ·exact .inl rfl
   ·cases k with
    |zero=>exact .inr (.inl ⟨rfl,rfl⟩)
    |succ j=>exact .inr (.inr ⟨rfl,j,P.enums[j]'(by omega),rfl,Qmv (by omega)⟩))with h|⟨h,h0⟩|⟨h,j,y,h0,hy⟩
  case' inl=>
   have hv:(A&&X7 P.enums (Xt PE.name) k)=false:=by rw[h];rfl
   simp only[hA,h,cond_true,cond_false,Qa,seval]
  case' inr.inl=>
   have hv:(A&&X7 P.enums (Xt PE.name) k)=true:=by rw[h,h0];rfl
   have b0:((k:Int)==0)=true:=by rw[h0];rfl
   simp only[hA,h,b0,cond_true,cond_false,Qa,seval]
  case' inr.inr=>
   have hgy:=Q4 QE hy;have hv:(A&&X7 P.enums (Xt PE.name) k)=(Xt PE.name) y x:=by
    subst h0;rw[h,K9 hy hx];rfl
   have b0:((k:Int)==0)=false:=by rw[Qoi];omega
   have wj:IntKind.i64.wrap ((k:Int)-1)=(j:Int):=by
    subst h0;exact H2 j _ hlt hP.len2
   rw[HY]at hgy;simp only[hA,h,b0,wj,Qv,QnY,Qf,hg,hgy,QP,cond_true,cond_false,eE,seval]
  all_goals
   refine Xd x.items.length 1 (X7 x.items (Kk PI.num)) (A&&X7 P.enums (Xt PE.name) k) 7 [(1,.ptr 0 1 0),(6,.int .i64 (k:Nat))] [(1,.cells (Pc P))] [] (by simp[Qp,X7]) ?_ (by rw[hv];rfl);rintro i f fr hi;simp only[Pc,Qv,QnY,Qf,hg,Qnq,Xp,Qnx,eE,seval];rcases Xy x.items i with⟨o,ho,hli⟩|hli
   ·obtain⟨i,rfl⟩:∃n,i=n+1:=⟨i-1,by omega⟩;obtain⟨z,hz⟩:∃z,x.items[i]? = some z:=⟨x.items[i]'(by omega),Qmv (by omega)⟩;have hgo:=Q4 Xn ho;have hgz:=Q4 Xn hz;have e2:=Qw (i+1) _ hli hsl;have wi:=H2 i _ hli hsl;rw[BJ]at hgo hgz;cases hc:(A&&X7 P.enums (Xt PE.name) k)&&Qp (X7 x.items (Kk PI.num)) (i+1)
    ·simp only[QD hli,e2,cond_true,cond_false,Qa,seval];exact Ac.go hi hli rfl (by rw[hc];rfl)
    ·simp only[QD hli,Qv,QnY,Qf,hg,hgo,hgz,wi,e2,cond_true,cond_false,eE,seval];exact Ac.go hi hli rfl (by rw[hc,K9 hz ho];rfl)
   have he:Qp (X7 x.items (Kk PI.num)) i=Uo x:=Ji (fun i hi=>by rw[show i=0 by omega];rfl) hi hli;simp only[QI hli,he,e1,Qa,seval];exact Ac.go hk hlt rfl (by rw[hA,Xs hx,Qng])
 have he:Qp (fun i=>X7 P.enums (Xt PE.name) i&&Q6 P.enums Uo i) k=(ZR P.enums (Xt PE.name)&&P.enums.all Uo):=by
  rw[Ji (fun i hi=>absurd hi (QoC i)) hk hlt,DD,U6];rfl
 simp only[QI hlt,he,hn,Qa,seval]

end

theorem z63 (L:List PS)(hl:L.length≤maxLen)(n:Int):Qi Tryz.prog 63 [.list (L.map Z9),.int .i64 n] (.bool (kept L n)):=by
 refine wF Tryz.func63 ?_;simp only[eK,Tryz.f63,seval];simp only[Qa,seval];refine UB (X:=Nat) (fun k=>[(0,.list (L.map Z9)),(1,.int .i64 n),(5,.int .i64 (k:Nat))]) (fun _=>[]) [] (fun k=>L.length-k) (fun k=>k≤L.length∧kept (L.take k) n=false) (fun _=>[]) 0 ⟨QmE _,rfl⟩ ?_;rintro k f fr ⟨hk,hz⟩;simp only[Qnq,Xp,Qnx,Qa,seval];rcases Xy L k with⟨x,hx,hlt⟩|hlt
 case inr=>
  rw[Qm5 (by omega)]at hz;simp only[QI hlt,hz,Qa,seval]
 have hg:=Q4 Z9 hx;have e1:=Qw k _ hlt hl;have ht:kept (L.take (k+1)) n=_:=VX hx;have hyes:(decide (x.lo≤n)&&decide (n≤x.hi))=true→kept L n=true:=fun h=>Qoa.2 ⟨x,QmJ hx,h⟩
 rw[show((L.take k).any fun x=>decide (x.lo≤n)&&decide (n≤x.hi))=false from hz,Qoh]at ht;simp only[Z9,PS.cells]at hg;simp only[QD hlt,Qv,QnY,Qf,hg,eE,seval];cases a1:decide (x.lo≤n)
 ·simp only[e1,cond_true,cond_false,Qa,seval];exact Ix.go (k+1) (by omega) ⟨by omega,by rw[ht,a1];rfl⟩
 cases a2:decide (n≤x.hi)
 ·simp only[a2,Qv,QnY,Qf,hg,e1,cond_true,cond_false,eE,seval];exact Ix.go (k+1) (by omega) ⟨by omega,by rw[ht,a1,a2];rfl⟩
 ·rw[hyes (by rw[a1,a2];rfl)];simp only[a2,Qv,QnY,Qf,hg,cond_true,cond_false,eE,seval]

theorem H7 {α:Type}{l:List α}{p:α→Bool}:∀ {j:Nat},j≤l.length→Qp (Q6 l p) j=(l.take j).all p
 |0,_=>by simp[Qp]
 |j+1,h=>by
  have hx:l[j]? = some l[j]:=Qmv (by omega);rw[Qp,H7 (by omega),U7 hx,Xs hx]

theorem z31 {M:Nat}(P:PL)(hP:P.ok M):Qi Tryz.prog 31 [P.av] (.bool (VY P)):=by
 have hn:VY P=(P.progs.all (JT P)&&P.enums.all U9):=rfl;obtain⟨T,hT⟩:∃T,T=true:=⟨_,rfl⟩;refine wF Tryz.func31 ?_;simp only[eK,Tryz.f31,seval];simp only[H6,eE,seval];refine Xd P.progs.length 0 (Q6 P.progs (JT P)) T 4 [(1,.ptr 0 1 0)] [(1,.cells (Pc P))] [] (by simp[Qp]) ?_ (by rw[hT];rfl);rintro k f fr hk;simp only[Pc,Qnq,Xp,Qnx,eE,seval];rcases Xy P.progs k with⟨x,hx,hlt⟩|hlt
 ·have hg:=Q4 Qm hx;have e1:=Qw k _ hlt hP.len1;have hsl:=(hP.progs x (QmJ hx)).len;rw[HZ]at hg;simp only[QD hlt,Qa,seval];refine Xd P.enums.length 0 (Q6 P.enums fun e=>!(e.name==x.name)) (T&&Qp (Q6 P.progs (JT P)) k) 5 [(1,.ptr 0 1 0),(4,.int .i64 (k:Nat))] [(1,.cells (Pc P))] [] (by simp[Qp]) ?_;rintro j f fr hj;simp only[Pc,Qnq,Xp,Qnx,eE,seval];rcases Xy P.enums j with⟨y,hy,hlj⟩|hlj
  ·have hgy:=Q4 QE hy;have e2:=Qw j _ hlj hP.len2;have hcm:(x.name==y.name)=(y.name==x.name):=by rw[Qnp,QmA,QmA];exact⟨Eq.symm,Eq.symm⟩
   rw[HY]at hgy;cases hc:(T&&Qp (Q6 P.progs (JT P)) k)&&Qp (Q6 P.enums fun e=>!(e.name==x.name)) j
   ·simp only[QD hlj,e2,cond_true,cond_false,Qa,seval];exact Ac.go hj hlj rfl (by rw[hc];rfl)
   ·simp only[QD hlj,Qv,QnY,Qf,hg,hgy,QP,hcm,e2,cond_true,cond_false,eE,seval];exact Ac.go hj hlj rfl (by rw[hc,Xs hy];rfl)
  simp only[QI hlj,Zg hj hlj,Qv,QnY,Qf,hg,eE,seval];refine Xd x.ops.length 0 (uniq x.ops PO.name) ((T&&Qp (Q6 P.progs (JT P)) k)&&P.enums.all fun e=>!(e.name==x.name)) 7 [(1,.ptr 0 1 0),(4,.int .i64 (k:Nat)),(6,.list (x.ops.map Qz))] [(1,.cells (Pc P))] [] (by simp[Qp]) ?_;rintro i f fr hi;simp only[Pc,Qnq,Xp,Qnx,Qa,seval];rcases Xy x.ops i with⟨o,ho,hli⟩|hli
  ·have hgo:=Q4 Qz ho;have e2:=Qw i _ hli hsl;rw[H1]at hgo;simp only[QD hli,Qa,seval];refine Xd i 0 (Q6 x.ops fun y=>!(y.name==o.name)) (((T&&Qp (Q6 P.progs (JT P)) k)&&P.enums.all fun e=>!(e.name==x.name))&&Qp (uniq x.ops PO.name) i) 8 [(1,.ptr 0 1 0),(4,.int .i64 (k:Nat)),(6,.list (x.ops.map Qz)),(7,.int .i64 (i:Nat))] [(1,.cells (Pc P))] [] (by simp[Qp]) ?_;rintro n f fr hn';simp only[Pc,Xp,Qnx,Qa,seval];by_cases hln:n<i
   ·obtain⟨z,hz⟩:∃z,x.ops[n]? = some z:=⟨x.ops[n]'(by omega),Qmv (by omega)⟩;have hgz:=Q4 Qz hz;have e3:=Qw n _ (show n<x.ops.length by omega) hsl;rw[H1]at hgz;cases hc:(((T&&Qp (Q6 P.progs (JT P)) k)&&P.enums.all fun e=>!(e.name==x.name))&&Qp (uniq x.ops PO.name) i)&&Qp (Q6 x.ops fun y=>!(y.name==o.name)) n
    ·simp only[QD hln,e3,cond_true,cond_false,Qa,seval];exact Ac.go hn' hln rfl (by rw[hc];rfl)
    ·simp only[QD hln,Qv,QnY,Qf,hgo,hgz,QP,e3,cond_true,cond_false,eE,seval];exact Ac.go hn' hln rfl (by rw[hc,Xs hz];rfl)
   have he:Qp (Q6 x.ops fun y=>!(y.name==o.name)) n=uniq x.ops PO.name i:=by
    rw[Ji (fun i hi=>absurd hi (QoC i)) hn' hln,H7 (by omega),GJ ho]
   simp only[QI hln,he,e2,Qa,seval];exact Ac.go hi hli rfl rfl
  have he:Qp (uniq x.ops PO.name) i=YG x.ops PO.name:=Ji (fun i hi=>absurd hi (QoC i)) hi hli;simp only[QI hli,he,e1,Qa,seval];exact Ac.go hk hlt rfl (by rw[Xs hx];exact(Qng ..).symm)
 simp only[QI hlt,Zg hk hlt,hT,Qoc,Qa,seval];refine Xd P.enums.length 0 (Q6 P.enums U9) (P.progs.all (JT P)) 9 [(1,.ptr 0 1 0)] [(1,.cells (Pc P))] [] (by simp[Qp]) ?_;rintro k f fr hk;simp only[Pc,Qnq,Xp,Qnx,eE,seval];rcases Xy P.enums k with⟨x,hx,hlt⟩|hlt
 ·have hg:=Q4 QE hx;have e1:=Qw k _ hlt hP.len2;have hsl:=(hP.enums x (QmJ hx)).len1;rw[HY]at hg;simp only[QD hlt,Qv,QnY,Qf,hg,eE,seval];refine Xd x.items.length 0 (uniq x.items PI.name) (P.progs.all (JT P)&&Qp (Q6 P.enums U9) k) 11 [(1,.ptr 0 1 0),(9,.int .i64 (k:Nat)),(10,.list (x.items.map Xn))] [(1,.cells (Pc P))] [] (by simp[Qp]) ?_;rintro i f fr hi;simp only[Pc,Qnq,Xp,Qnx,Qa,seval];rcases Xy x.items i with⟨o,ho,hli⟩|hli
  ·have hgo:=Q4 Xn ho;have e2:=Qw i _ hli hsl;rw[BJ]at hgo;simp only[QD hli,Qa,seval];refine Xd i 0 (Q6 x.items fun y=>!(y.name==o.name)) ((P.progs.all (JT P)&&Qp (Q6 P.enums U9) k)&&Qp (uniq x.items PI.name) i) 12 [(1,.ptr 0 1 0),(9,.int .i64 (k:Nat)),(10,.list (x.items.map Xn)),(11,.int .i64 (i:Nat))] [(1,.cells (Pc P))] [] (by simp[Qp]) ?_;rintro n f fr hn';simp only[Pc,Xp,Qnx,Qa,seval];by_cases hln:n<i
   ·obtain⟨z,hz⟩:∃z,x.items[n]? = some z:=⟨x.items[n]'(by omega),Qmv (by omega)⟩;have hgz:=Q4 Xn hz;have e3:=Qw n _ (show n<x.items.length by omega) hsl;rw[BJ]at hgz;cases hc:((P.progs.all (JT P)&&Qp (Q6 P.enums U9) k)&&Qp (uniq x.items PI.name) i)&&Qp (Q6 x.items fun y=>!(y.name==o.name)) n
    ·simp only[QD hln,e3,cond_true,cond_false,Qa,seval];exact Ac.go hn' hln rfl (by rw[hc];rfl)
    ·simp only[QD hln,Qv,QnY,Qf,hgo,hgz,QP,e3,cond_true,cond_false,eE,seval];exact Ac.go hn' hln rfl (by rw[hc,Xs hz];rfl)
   have he:Qp (Q6 x.items fun y=>!(y.name==o.name)) n=uniq x.items PI.name i:=by
    rw[Ji (fun i hi=>absurd hi (QoC i)) hn' hln,H7 (by omega),GJ ho]
   simp only[QI hln,he,e2,Qa,seval];exact Ac.go hi hli rfl rfl
  have he:Qp (uniq x.items PI.name) i=YG x.items PI.name:=Ji (fun i hi=>absurd hi (QoC i)) hi hli;simp only[QI hli,he,e1,Qa,seval];exact Ac.go hk hlt rfl (by rw[Xs hx];exact rfl)
 simp only[QI hlt,Zg hk hlt,hn,Qa,seval]

theorem QdX:Qi Tryz.prog 117 [.str alias] (.int .i64 7):=by
 refine wF Tryz.func117 ?_;simp only[eK,Tryz.f117,seval];have b1:(alias==([100,101,112,114,101,99,97,116,101,100]:List UInt8))=false:=by decide
 have b2:(alias==([115,101,99,114,101,116]:List UInt8))=false:=by decide
 have b3:(alias==([105,100,101,109,112,111,116,101,110,116]:List UInt8))=false:=by decide
 have b4:(alias==([100,111,99]:List UInt8))=false:=by decide
 have b5:(alias==([97,108,105,97,115]:List UInt8))=true:=by decide
 simp only[QP,b1,b2,b3,b4,b5,Qa,seval]

theorem QjD:Qi Tryz.prog 118 [.str alias,.int .i64 4] (.bool true):=by
 refine wF Tryz.func118 ?_;simp only[eK,Tryz.f118,seval];have b1:(alias==([100,101,112,114,101,99,97,116,101,100]:List UInt8))=false:=by decide
 have b4:(alias==([100,111,99]:List UInt8))=false:=by decide
 have b5:(alias==([97,108,105,97,115]:List UInt8))=true:=by decide
 have c2:((4:Int)==2)=false:=rfl;have c4:((4:Int)==4)=true:=rfl;simp only[QP,b1,b4,b5,c2,c4,Qa,seval]

section
variable (kd:Int)(b:Nat)(t:List UInt8)(l p s r:List AV)(ht:t.length+8≤maxLen)
include ht

theorem QjE:Qi Tryz.prog 209 [.int .i64 7,vo kd b t l p s r] (.bool (XO 7 kd b t l p s r)):=by
 have hl:=Qjn kd b t l p s r;simp only[vo]at hl;have n1:(kd != 7)=!(kd==7):=rfl;have k7:isk 7=true:=rfl;have t7:Zh 7=true:=rfl;have f7:Wf 7 b=true:=rfl;have c8:((7:Int)==8)=false:=rfl;have c7:((7:Int) != 7)=false:=rfl;refine wF Tryz.func209 ?_;simp only[eK,Tryz.f209,seval];simp only[vo,XO,k7,f7,c7,Qoc,QnK,Qoh,eE,seval];refine aC (Qic 7) ?_;simp only[k7,n1,Qod,eE,seval];by_cases hk:kd=7
 ·subst hk;have a1:((7:Int)==7)=true:=rfl;simp only[a1,Qod,Qoc,t7,eE,seval];refine aC hl ?_;cases Ub l p s r
  ·simp only[QnE,Qn1,Qa,seval]
  simp only[Qod,Qoc,Qa,seval];refine aC (Qid 7) ?_;simp only[t7,eE,seval];cases a2:((b:Int)==0)
  ·simp only[Qn1,Qa,seval]
  cases a3:decide ((t.length:Int)≤4096)
  ·simp only[a3,Qn1,Qoe,eE,seval]
  simp only[a3,c8,Qoc,eE,seval];refine aC (QdP t ht) ?_;simp only[Qa,seval]
 ·have a1:(kd==7)=false:=by simp[hk]
  simp only[a1,QnE,Qn1,Qa,seval]

theorem QjF:Qi Tryz.prog 119 [nv kd b t l p s r] (.bool (XO 7 kd b t l p s r)):=by
 have hf:=QjE kd b t l p s r ht;have b0:((7:Int) != 0)=true:=rfl;simp only[vo]at hf;refine wF Tryz.func119 ?_;simp only[eK,Tryz.f119,seval];simp only[nv,eE,seval];refine aC QdX ?_;simp only[b0,eE,seval];cases a1:(kd==7)
 ·have e:XO 7 kd b t l p s r=false:=by unfold XO;rw[a1];rfl
  simp only[e,Qa,seval]
 ·simp only[eE,seval];refine aC hf ?_;simp only[Qa,seval]

def RcI (k:Nat)(st:St):Prop :=
 ∃f i,st=⟨f,[Qb],[]⟩∧k=1-i∧i≤1∧(i=1→XO 7 kd b t l p s r=true)∧f 0=.list [nv kd b t l p s r]∧f 1=.int .i64 4∧f 5=.int .i64 (i:Nat)

theorem z64:Qi Tryz.prog 64 [.list [nv kd b t l p s r],.int .i64 4] (.int .i64 (if XO 7 kd b t l p s r=true then 0 else 12)):=by
 have b0:decide (((1:Nat):Int) > 8)=false:=rfl;have hr:=QjF kd b t l p s r ht;simp only[nv]at hr;refine wF Tryz.func64 ?_;simp only[eK,Tryz.f64,seval];simp only[QmK,Qnr,QmU,Qa,seval];refine Qk (RcI kd b t l p s r) 1 ⟨_,0,rfl,rfl,QmE _,(fun h=>by cases h),(by rfl),(by rfl),(by rfl)⟩ ?_;rintro _ st ⟨f,i,rfl,rfl,hi,hf,h0,h1,h5⟩;simp only[nv]at h0;simp only[h0,h5,QmK,Qnr,QmU,Qa,seval];rcases Nat.le_one_iff_eq_zero_or_eq_one.1 hi with rfl|rfl
 ·have c0:decide (((0:Nat):Int)<((1:Nat):Int))=true:=rfl;have c1:decide (((0:Nat):Int) > 0)=false:=rfl;have d7:((7:Int)==0)=false:=rfl;have e1:IntKind.i64.wrap (((0:Nat):Int)+1)=((1:Nat):Int):=rfl;have z0:(0≤((0:Nat):Int))=True:=by simp
  have z1:Int.toNat ((0:Nat):Int)=0:=rfl;simp only[Qf,Qny,h0,h5,eE,seval];refine aC QdX ?_;simp only[d7,Qf,Qny,h0,h1,h5,eE,seval];refine aC QjD ?_;simp only[Qod,Qf,Qny,h0,h5,eE,seval];refine aC hr ?_;cases hfv:XO 7 kd b t l p s r
  ·simp only[QnE,QmO,Qa,seval]
  ·simp only[Qod,h5,Qa,seval];exact⟨0,by omega,_,1,rfl,rfl,Qms _,fun _=>hfv,(by exact h0),(by exact h1),(by rfl)⟩
 ·have c0:decide (((1:Nat):Int)<((1:Nat):Int))=false:=rfl;simp only[hf rfl,Qa,seval]

end

section
variable (P:PL)

def Hb (P:PL)(o:PO):Bool :=
 if o.kind=10 then decide (o.target≥0)&&decide (o.target<(P.progs.length:Int))&&o.card != 3
 else if o.kind=9 then decide (o.target≥0)&&decide (o.target<(P.enums.length:Int))else o.target == -1

theorem QjG (o:PO):Qi Tryz.prog 121 [P.av,Qz o] (.bool (Hb P o)):=by
 have e0:P.av=.agg [.list (P.progs.map Qm),.list (P.enums.map QE)]:=rfl;refine wF Tryz.func121 ?_;simp only[eK,Tryz.f121,seval];simp only[e0,Qz,PO.cells,Hb,eE,seval];by_cases h:o.kind=10
 ·have b0:(o.kind==10)=true:=by simp[h]
  simp only[b0,QmD h,eE,seval];cases a1:decide (o.target≥0)<;>cases a2:decide (o.target<(P.progs.length:Int))<;>simp only[a2,Qoc,Qn1,Qnq,eE,seval]
 ·have b0:(o.kind==10)=false:=by simp[h]
  by_cases h9:o.kind=9
  ·have b1:(o.kind==9)=true:=by simp[h9]
   simp only[b0,b1,QmC h,QmD h9,eE,seval];cases a1:decide (o.target≥0)<;>simp only[Qoc,Qn1,Qnq,eE,seval]
  ·have b1:(o.kind==9)=false:=by simp[h9]
   simp only[b0,b1,QmC h,QmC h9,eE,seval]

theorem QdY (o:PO):(Kn P o&&Js o)=(Hz o.alias&&(decide ((o.alias.length:Int)≤4096)&&(decide (o.card≥1)&&(decide (o.card≤5)&&(decide (o.kind≥1)&&(decide (o.kind≤10)&&(key o&&Hb P o&&Js o))))))):=by
 have h:FK P o=(decide (o.kind≥1)&&decide (o.kind≤10)&&Hb P o):=by
  unfold FK Hb;by_cases h:o.kind=10
  ·rw[QmD h,QmD h,h];rfl
  ·rw[QmC h,QmC h];by_cases h9:o.kind=9
   ·rw[QmD h9,QmD h9,h9];rfl
   ·rw[QmC h9,QmC h9];congr 1
    unfold isk;rw[Qnp,QmT,QmT];simp only[Qmz];omega
 unfold Kn;rw[h];cases Hz o.alias<;>cases decide ((o.alias.length:Int)≤4096)<;>cases decide (o.card≥1)<;>cases decide (o.card≤5)<;>cases decide (o.kind≥1)<;>cases decide (o.kind≤10)<;>cases key o<;>cases Hb P o<;>cases Js o<;>rfl

theorem z66 (o:PO)(ha:o.alias.length+8≤maxLen):Qi Tryz.prog 66 [P.av,Qz o] (.bool (Kn P o&&Js o)):=by
 have e0:P.av=.agg [.list (P.progs.map Qm),.list (P.enums.map QE)]:=rfl;have n1:decide ((o.alias.length:Int) > 4096)=!decide ((o.alias.length:Int)≤4096):=(by rw[Qnp];simp only[Qmz,Qnt,Qov];omega);have n2:decide (o.card<1)=!decide (o.card≥1):=(by rw[Qnp];simp only[Qmz,Qnt,Qov];omega);have n3:decide (o.card > 5)=!decide (o.card≤5):=(by rw[Qnp];simp only[Qmz,Qnt,Qov];omega);have n4:decide (o.kind<1)=!decide (o.kind≥1):=(by rw[Qnp];simp only[Qmz,Qnt,Qov];omega);have n5:decide (o.kind > 10)=!decide (o.kind≤10):=(by rw[Qnp];simp only[Qmz,Qnt,Qov];omega);have ht:Qi Tryz.prog 121 [.agg [.list (P.progs.map Qm),.list (P.enums.map QE)],Qz o] (.bool (Hb P o)):=QjG P o;have hk1:o.card≠5→key o=(o.key==0):=fun h=>by unfold key;rw[QmC h]
 have hk2:o.card=5→key o=((decide (o.key≥1)&&decide (o.key≤5))||o.key==7):=fun h=>by
  unfold key;rw[QmD h,Qnp];simp only[QmT,Qmy,Qmz,QmA,QmY,ne_eq];omega
 have hu:Js o=(o.union == -1||o.card==2):=rfl;simp only[Qz,PO.cells]at ht;rw[QdY];refine k66.fn (by simp) ?_;simp only[Iu,Iv,Iw,Iy,Iz,IA,r66,o66,e0,Qz,PO.cells,eE,seval];refine aC (QdP o.alias ha) ?_;cases Hz o.alias
 ·simp only[QnE,Qn1,Qa,seval]
 cases a1:decide ((o.alias.length:Int)≤4096)
 ·simp only[Qod,QnE,Qoc,n1,a1,Qn1,eE,seval]
 cases a2:decide (o.card≥1)
 ·simp only[Qod,QnE,Qoc,n1,n2,a1,a2,Qn1,eE,seval]
 cases a3:decide (o.card≤5)
 ·simp only[Qod,QnE,Qoc,n1,n2,n3,a1,a2,a3,Qn1,eE,seval]
 cases a4:decide (o.kind≥1)
 ·simp only[Qod,QnE,Qoc,n1,n2,n3,n4,a1,a2,a3,a4,Qn1,eE,seval]
 cases a5:decide (o.kind≤10)
 ·simp only[Qod,QnE,Qoc,n1,n2,n3,n4,n5,a1,a2,a3,a4,a5,Qn1,eE,seval]
 have fin:∀(f:Fr) (fr:Nat→Ob) (kb:Bool),kb=key o→f 2=.ptr 0 2 0→fr 2=.cells [.list (P.progs.map Qm),.list (P.enums.map QE)]→f 3=.ptr 0 3 0→fr 3=.cells [.int .i64 o.num,.str o.name,.str o.alias,.int .i64 o.card,.int .i64 o.key,.int .i64 o.kind,.int .i64 o.target,.int .i64 o.union]→f 5=.bool kb→
   QB Tryz.prog Rj ⟨f,[fr],[]⟩ (Kc Tryz.prog .ret (Zm [.tmp 4] 0 fun x _=>x=.bool (key o&&Hb P o&&Js o)) .normal):=by
  intro f fr kb hkb h2 m2 h3 m3 h5;subst hkb;simp only[Rj,h5,Qa,seval];cases key o
  ·simp only[Qn1,Qa,seval]
  simp only[h2,m2,h3,m3,Qoc,eE,seval];refine aC ht ?_;cases Hb P o
  ·simp only[Qn1,Qa,seval]
  rw[hu];cases c1:(o.union == -1)<;>simp only[h3,m3,c1,Qoc,Qog,Qoh,eE,seval]
 by_cases h5:o.card=5
 ·have b5:(o.card != 5)=false:=by simp[h5]
  have hk:=hk2 h5;simp only[Qod,Qoc,n1,n2,n3,n4,n5,a1,a2,a3,a4,a5,eE,seval];cases c1:decide (o.key≥1)<;>cases c2:decide (o.key≤5)<;>cases c3:(o.key==7)<;>simp only[c2,c3,b5,eE,seval]
  all_goals
   rw[c1,c2,c3]at hk;exact fin _ _ _ hk.symm (by rfl) (by rfl) (by rfl) (by rfl) (by rfl)
 ·have b5:(o.card != 5)=true:=by simp[h5]
  have hk:=hk1 h5;simp only[Qod,Qoc,n1,n2,n3,n4,n5,a1,a2,a3,a4,a5,eE,seval];cases c1:decide (o.key≥1)<;>cases c2:decide (o.key≤5)<;>cases c3:(o.key==7)<;>simp only[c2,c3,b5,eE,seval]
  all_goals exact fin _ _ _ hk.symm (by rfl) (by rfl) (by rfl) (by rfl) (by rfl)

end

end Go.Proofs.YtkhpgmeokilhaaaGreatDoor.Va

namespace Go.Proofs.YtkhpgmeokilhaaaGreatDoor.Cp
open Go Am Bt Vp

structure C where
 d:List UInt8
 a:Int
 e:Int
 dp:Int
 nd:Int
 tx:Int

def C.av (c:C):AV:=.agg [.str c.d,.int .i64 c.a,.int .i64 c.e,.int .i64 c.dp,.int .i64 c.nd,.int .i64 c.tx]
def zc:C:=⟨[],0,0,0,0,0⟩

structure L where
 b:Int
 dp:Int
 nd:Int
 tx:Int
def L.av (l:L):AV:=.agg [.int .i64 l.b,.int .i64 l.dp,.int .i64 l.nd,.int .i64 l.tx]

def C.sound (c:C):Bool:=decide (0≤c.a)&&decide (c.a≤c.e)&&decide (c.e≤(c.d.length:Int))
def C.rest (c:C):List UInt8:=bif c.sound then(c.d.drop c.a.toNat).take (c.e.toNat-c.a.toNat)else []
def C.left (c:C):Int:=(c.rest.length:Int)
def C.ahead (c:C)(n:Int):C:={ c with a:=IntKind.i64.wrap (c.a+n) }

def opn (s:List UInt8)(l:L):C×Nat :=
 if l.b<0∨l.dp<0∨l.nd<0∨l.tx<0 then(zc,1)else if l.b<(s.length:Int)then(zc,3)else(⟨s,0,s.length,l.dp,l.nd,l.tx⟩,0)

def C.varint (c:C):Nat×C×Nat :=
 let r:=Vp.take c.rest
 if r.2.2=0 then(r.1,c.ahead r.2.1,0)else(0,c,r.2.2)

def H8 (s:List UInt8):Nat:=(s.take 8).foldr (fun b u=>256*u+b.toNat) 0

def C.fixed (c:C):Nat×C×Nat :=
 if c.rest.length<8 then(0,c,4)else(H8 c.rest,c.ahead 8,0)

def C.spend (c:C)(n:Int):C×Nat :=
 if n<0 then(c,1)else if c.nd<n then(c,3)else({ c with nd:=IntKind.i64.wrap (c.nd-n) },0)

def KG (r:Nat×C×Nat):AV:=.tup [.int .u64 (r.1:Nat),r.2.1.av,.int .i64 (r.2.2:Nat)]
def UC (r:C×Nat):AV:=.tup [r.1.av,.int .i64 (r.2:Nat)]

theorem C.sound_iff (c:C):c.sound=true↔0≤c.a∧c.a≤c.e∧c.e≤(c.d.length:Int):=by
 simp[C.sound,and_assoc]

theorem C.rest_len (c:C):c.left=if c.sound=true then c.e-c.a else 0:=by
 unfold C.left C.rest;split
 ·rename_i h;rw[h];have:=(C.sound_iff c).1 h;simp;omega
 ·rename_i h;have h:c.sound=false:=by simpa using h
  rw[h];rfl

theorem C.rest_of {c:C}(h:c.sound=true):c.rest=(c.d.drop c.a.toNat).take (c.e.toNat-c.a.toNat):=by
 unfold C.rest;rw[h];rfl

theorem C.rest_no {c:C}(h:c.sound=false):c.rest=[]:=by
 unfold C.rest;rw[h];rfl

theorem C.head_of {c:C}(h:c.sound=true)(n:Nat)(k:Int)(hk:k=if c.a+n<c.e then c.a+n else c.e):c.rest.take n=(c.d.drop c.a.toNat).take (k.toNat-c.a.toNat):=by
 have hs:=(C.sound_iff c).1 h;rw[C.rest_of h,List.take_take];congr 1
 split at hk<;>omega

end Go.Proofs.YtkhpgmeokilhaaaGreatDoor.Cp

namespace Go.Proofs.YtkhpgmeokilhaaaGreatDoor.Up
open Go Am Bt Vp Cp

structure R where
 num:Int
 wire:Int
 bits:Nat
 data:List UInt8
 deriving DecidableEq

def R.av (f:R):AV:=.agg [.int .i64 f.num,.int .i64 f.wire,.int .u64 (f.bits:Nat),.str f.data]
def zr:R:=⟨0,0,0,[]⟩

def Kf (num wire:Int):List UInt8×Nat :=
 if num<1∨65535<num∨wire<0∨6<wire then([],6)else(Vp.put (num*8+wire).toNat,0)
def Ru (r:List UInt8×Nat):AV:=.tup [.str r.1,.int .i64 (r.2:Nat)]

def Qt (c:C):Int×Int×C×Nat :=
 let r:=c.varint
 if r.2.2=0 then
  if r.1 % 8=7 then(0,0,c,5)else if r.1 / 8<1∨65535<r.1 / 8 then(0,0,c,6)else((r.1 / 8:Nat),(r.1 % 8:Nat),r.2.1,0)
 else(0,0,c,r.2.2)
def Nt (r:Int×Int×C×Nat):AV:=.tup [.int .i64 r.1,.int .i64 r.2.1,r.2.2.1.av,.int .i64 (r.2.2.2:Nat)]

def YK (wire:Int):Bool:=wire==0||wire==1||wire==2

def Wx (c:C)(wire:Int):List UInt8×C×Nat :=
 let r:=c.varint
 if r.2.2=0 then
  if r.2.1.left<(r.1:Int)then([],c,4)
  else if (if wire=3 then c.tx else 65536)<(r.1:Int)then([],c,3)
  else((r.2.1.d.drop r.2.1.a.toNat).take r.1,r.2.1.ahead r.1,0)
 else([],c,r.2.2)
def H9 (r:List UInt8×C×Nat):AV:=.tup [.str r.1,r.2.1.av,.int .i64 (r.2.2:Nat)]

def ZT (c:C)(f:R):R×C×Nat :=
 if f.wire=2 then({ f with bits:=c.fixed.1 },c.fixed.2.1,c.fixed.2.2)
 else if f.wire=0∨f.wire=1 then({ f with bits:=c.varint.1 },c.varint.2.1,c.varint.2.2)
 else({ f with data:=(Wx c f.wire).1 },(Wx c f.wire).2.1,(Wx c f.wire).2.2)

def Xo (c:C):R×C×Nat :=
 let t:=Qt c
 if t.2.2.2=0 then
  let s:=t.2.2.1.spend 1
  if s.2=0 then
   let k:=ZT s.1 { num:=t.1,wire:=t.2.1,bits:=0,data:=[] }
   if k.2.2=0 then k else(zr,c,k.2.2)
  else(zr,c,s.2)
 else(zr,c,t.2.2.2)
def BN (r:R×C×Nat):AV:=.tup [r.1.av,r.2.1.av,.int .i64 (r.2.2:Nat)]

theorem Ca {c:C}(h:c.rest≠[]):c.sound=true:=by
 cases hs:c.sound with
 |true=>rfl
 |false=>exact absurd (C.rest_no hs) h

theorem ZJ {c:C}(hl:c.d.length≤9223372036854775807)(h:c.varint.2.2=0):∃n:Nat,0<n∧n≤10∧(n:Int)≤c.left∧c.varint.2.1={ c with a:=c.a+n }∧c.sound=true∧c.varint.2.1.sound=true∧c.varint.1<2 ^ 64:=by
 unfold C.varint at h ⊢;have hb:=Mn c.rest;generalize Vp.take c.rest=r at h hb ⊢;obtain⟨u,n,e⟩:=r;simp only at h hb ⊢;split at h
 ·rename_i he;subst he;obtain⟨h1,h2,h3,h4⟩:=hb rfl;have hne:c.rest≠[]:=by intro e;rw[e]at h2;simp at h2;omega
  have hs:=Ca hne;have hs':=(C.sound_iff c).1 hs;have hle:=c.rest_len;rw[QmD hs]at hle;have hw:IntKind.i64.wrap (c.a+(n:Int))=c.a+n:=by
   have:(n:Int)≤c.left:=by unfold C.left;omega
   rw[QC];omega
  have hnl:(n:Int)≤c.left:=by unfold C.left;omega
  refine⟨n,h1,h3,hnl,?_,hs,?_,?_⟩
  ·rw[QmD rfl];simp only[C.ahead,hw]
  ·rw[QmD rfl];rw[C.sound_iff];simp only[C.ahead,hw];omega
  ·rw[QmD rfl];exact h4
 ·rename_i he;exact absurd h he

end Go.Proofs.YtkhpgmeokilhaaaGreatDoor.Up

namespace Go.Proofs.YtkhpgmeokilhaaaGreatDoor.Br
open Go Am Up

theorem Qa5 {M k:Nat}{cs:List AV}(h:Xh Tryz.prog M k 72 cs):∃f:R,((Lit.int .i64 f.num).wf=true∧(Lit.int .i64 f.wire).wf=true∧(Lit.int .u64 (f.bits:Int)).wf=true∧f.data.length≤M)∧.agg cs=f.av:=by
 obtain⟨k,h⟩:=ZF Tryz.underlying72 h;simp only[Xh.HasL]at h;obtain⟨_,_,rfl,h0,_,_,rfl,h1,_,_,rfl,h2,_,_,rfl,h3,rfl⟩:=h;obtain⟨a0,rfl,w0⟩:=XU Tryz.underlying3 h0;obtain⟨a1,rfl,w1⟩:=XU Tryz.underlying3 h1;obtain⟨a2,rfl,w2⟩:=XU Tryz.underlying26 h2;obtain⟨a3,rfl,w3⟩:=J7 Tryz.underlying9 h3;have hn:0≤a2:=Vz w2;obtain⟨n,rfl⟩:=Qof hn;exact⟨⟨a0,a1,n,a3⟩,⟨w0,w1,w2,w3⟩,rfl⟩

inductive V where
 |mk (k:Int) (b:Nat) (t:List UInt8) (l:List V) (p:List (V×V)) (s:List (Int×V)) (r:List R)
 deriving Inhabited

mutual
def V.cells:V→List AV
 |.mk k b t l p s r=>[.int .i64 k,.int .u64 (b:Nat),.str t,.list (V.cl l),.list (V.cp p),.list (V.cs s),.list (r.map R.av)]
def V.cl:List V→List AV
 | []=>[]
 |x :: l=>.agg x.cells :: V.cl l
def V.cp:List (V×V)→List AV
 | []=>[]
 |(a,b) :: l=>.agg (a.cells++b.cells) :: V.cp l
def V.cs:List (Int×V)→List AV
 | []=>[]
 |(n,a) :: l=>.agg (.int .i64 n :: a.cells) :: V.cs l
end

def V.kd:V→Int|.mk k _ _ _ _ _ _=>k
def V.bits:V→Nat|.mk _ b _ _ _ _ _=>b
def V.text:V→List UInt8|.mk _ _ t _ _ _ _=>t
def V.list:V→List V|.mk _ _ _ l _ _ _=>l
def V.pairs:V→List (V×V)|.mk _ _ _ _ p _ _=>p
def V.slots:V→List (Int×V)|.mk _ _ _ _ _ s _=>s
def V.raws:V→List R|.mk _ _ _ _ _ _ r=>r

def V.av (v:V):AV:=.agg v.cells
def V.pav (p:V×V):AV:=.agg (p.1.cells++p.2.cells)
def V.sav (s:Int×V):AV:=.agg (.int .i64 s.1 :: s.2.cells)

theorem V.cl_eq:∀l:List V,V.cl l=l.map V.av
 | []=>rfl
 |x :: l=>by rw[V.cl,V.cl_eq l];rfl
theorem V.cp_eq:∀l:List (V×V),V.cp l=l.map V.pav
 | []=>rfl
 |(a,b) :: l=>by rw[V.cp,V.cp_eq l];rfl
theorem V.cs_eq:∀l:List (Int×V),V.cs l=l.map V.sav
 | []=>rfl
 |(n,a) :: l=>by rw[V.cs,V.cs_eq l];rfl

theorem V.eta:∀v:V,v.cells=[.int .i64 v.kd,.int .u64 (v.bits:Nat),.str v.text,.list (v.list.map V.av),.list (v.pairs.map V.pav),.list (v.slots.map V.sav),.list (v.raws.map R.av)]
 |.mk k b t l p s r=>by rw[V.cells,V.cl_eq,V.cp_eq,V.cs_eq];rfl

theorem V.ind {P:V→Prop}(h:∀v:V,(∀x∈v.list,P x)→(∀x∈v.pairs,P x.1∧P x.2)→(∀x∈v.slots,P x.2)→P v)(v:V):P v :=
 V.rec (motive_1:=P) (motive_2:=fun l=>∀x∈l,P x) (motive_3:=fun p=>∀x∈p,P x.1∧P x.2) (motive_4:=fun s=>∀x∈s,P x.2) (motive_5:=fun q=>P q.1∧P q.2) (motive_6:=fun q=>P q.2)
  (fun k b t l p s r hl hp hs=>h (.mk k b t l p s r) hl hp hs)
  (by simp) (fun a l ha hl=>by simpa using ⟨ha,hl⟩)
  (by simp) (fun a l ha hl=>by simp only[QnS,forall_eq_or_imp];exact⟨ha,hl⟩)
  (by simp) (fun a l ha hl=>by simp only[QnS,forall_eq_or_imp];exact⟨ha,hl⟩)
  (fun a b ha hb=>⟨ha,hb⟩) (fun n a ha=>ha) v

structure _root_.Go.Proofs.YtkhpgmeokilhaaaGreatDoor.Up.R.ok (M:Nat)(f:R):Prop where
 num:(Lit.int .i64 f.num).wf=true
 wire:(Lit.int .i64 f.wire).wf=true
 bits:(Lit.int .u64 (f.bits:Int)).wf=true
 data:f.data.length≤M

inductive V.ok (M:Nat):V→Prop
 |mk {v:V} (kd:(Lit.int .i64 v.kd).wf=true) (bits:(Lit.int .u64 (v.bits:Int)).wf=true) (text:v.text.length≤M) (nl:v.list.length≤1099511627776) (np:v.pairs.length≤549755813888) (ns:v.slots.length≤1099511627776) (nr:v.raws.length≤70368744177664)
   (list:∀x∈v.list,V.ok M x) (keys:∀x∈v.pairs,V.ok M x.1) (vals:∀x∈v.pairs,V.ok M x.2) (nums:∀x∈v.slots,(Lit.int .i64 x.1).wf=true) (slots:∀x∈v.slots,V.ok M x.2) (raws:∀x∈v.raws,x.ok M):V.ok M v

section
variable {M:Nat}{v:V}(h:v.ok M)
include h
theorem V.ok.kd:(Lit.int .i64 v.kd).wf=true:=by cases h;assumption
theorem V.ok.bits:(Lit.int .u64 (v.bits:Int)).wf=true:=by cases h;assumption
theorem V.ok.text:v.text.length≤M:=by cases h;assumption
theorem V.ok.nl:v.list.length≤1099511627776:=by cases h;assumption
theorem V.ok.np:v.pairs.length≤549755813888:=by cases h;assumption
theorem V.ok.ns:v.slots.length≤1099511627776:=by cases h;assumption
theorem V.ok.nr:v.raws.length≤70368744177664:=by cases h;assumption
theorem V.ok.list:∀x∈v.list,x.ok M:=by cases h;assumption
theorem V.ok.keys:∀x∈v.pairs,x.1.ok M:=by cases h;assumption
theorem V.ok.vals:∀x∈v.pairs,x.2.ok M:=by cases h;assumption
theorem V.ok.nums:∀x∈v.slots,(Lit.int .i64 x.1).wf=true:=by cases h;assumption
theorem V.ok.slots:∀x∈v.slots,x.2.ok M:=by cases h;assumption
theorem V.ok.raws:∀x∈v.raws,x.ok M:=by cases h;assumption
end

theorem V.cells_length (v:V):v.cells.length=7:=by rw[V.eta];rfl

theorem BO {c:List AV}(h:2≤c.length):XS c=.agg c:=by
 match c,h with
 |_ :: _ :: _,_=>rfl

theorem Qga {M:Nat}(hM:M=reachBytes∨M≤1048576):∀ {k:Nat} {cs:List AV},Xh Tryz.prog M k 32 cs→∃v:V,v.ok M∧cs=v.cells:=by
 intro k
 induction k using Nat.strongRecOn with
 |ind k ih=>
 intro cs h;cases k with
 |zero=>cases h
 |succ k=>
 simp only[Xh,Tryz.underlying32,Xh.HasL]at h;obtain⟨_,_,rfl,h0,_,_,rfl,h1,_,_,rfl,h2,_,_,rfl,h3,_,_,rfl,h4,_,_,rfl,h5,_,_,rfl,h6,rfl⟩:=h;obtain⟨a0,rfl,w0⟩:=XU Tryz.underlying3 h0;obtain⟨a1,rfl,w1⟩:=XU Tryz.underlying26 h1;obtain⟨a2,rfl,w2⟩:=J7 Tryz.underlying9 h2;have hb:0≤a1:=Vz w1;obtain⟨b,rfl⟩:=Qof hb;have sl:∀ {k0:Nat} {t e:TypeId} {cs:List AV},k0≤k→Tryz.prog.underlying t=some (.slice e)→Xh Tryz.prog M k0 t cs→∃(k':Nat) (l:List (List AV)),k'<k∧cs=[.list (l.map XS)]∧(l.length≤M∧(M=reachBytes→l.length*Tryz.prog.bytesOf e≤M))∧∀c∈l,Xh Tryz.prog M k' e c:=by
  intro k0 t e cs hk hu h;cases k0 with
  |zero=>cases h
  |succ k0=>
   simp only[Xh,hu]at h;obtain⟨l,h1,h4,h3,h2⟩:=h;exact⟨k0,l,by omega,h1,⟨h2,h4.2⟩,h3⟩
 have nb:∀ {n b:Nat} (c:Nat),(n≤M∧(M=reachBytes→n*b≤M))→1048576≤c→(n*b≤140737488351232→n≤c)→n≤c:=fun c h1 h2 h3=>by
  rcases hM with e|e
  ·refine h3 (Qmt (h1.2 e) ?_);rw[e];exact Qms _
  ·exact Qmt h1.1 (Qmt e h2)
 have y1:Tryz.prog.bytesOf 32=128:=by decide +kernel
 have y2:Tryz.prog.bytesOf 70=256:=by decide +kernel
 have y3:Tryz.prog.bytesOf 52=136:=by decide +kernel
 have y4:Tryz.prog.bytesOf 72=40:=by decide +kernel
 obtain⟨k3,l3,b3,rfl,w3,hl3⟩:=sl (Qms _) Tryz.underlying27 h3;obtain⟨k4,l4,b4,rfl,w4,hl4⟩:=sl (Qms _) Tryz.underlying28 h4;obtain⟨k5,l5,b5,rfl,w5,hl5⟩:=sl (Qms _) Tryz.underlying29 h5;obtain⟨k6,l6,b6,rfl,w6,hl6⟩:=sl (Qms _) Tryz.underlying30 h6;obtain⟨vs,rfl,hvs⟩:=ZY (f:=V.cells) (ok:=V.ok M) fun c hc=>ih k3 (by omega) (hl3 c hc)
 obtain⟨ps,rfl,hps⟩:=ZY (l:=l4) (f:=fun p:V×V=>p.1.cells++p.2.cells) (ok:=fun p=>p.1.ok M∧p.2.ok M) fun c hc=>by
  have h:=hl4 c hc;cases k4 with
  |zero=>cases h
  |succ k4=>
  simp only[Xh,Tryz.underlying70,Xh.HasL]at h;obtain⟨a,_,rfl,h0,b,_,rfl,h1,rfl⟩:=h;obtain⟨x,hx,rfl⟩:=ih k4 (by omega) h0;obtain⟨y,hy,rfl⟩:=ih k4 (by omega) h1;exact⟨(x,y),⟨hx,hy⟩,by simp⟩
 obtain⟨ss,rfl,hss⟩:=ZY (l:=l5) (f:=fun s:Int×V=>.int .i64 s.1 :: s.2.cells) (ok:=fun s=>(Lit.int .i64 s.1).wf=true∧s.2.ok M) fun c hc=>by
  have h:=hl5 c hc;cases k5 with
  |zero=>cases h
  |succ k5=>
  simp only[Xh,Tryz.underlying52,Xh.HasL]at h;obtain⟨_,_,rfl,h0,b,_,rfl,h1,rfl⟩:=h;obtain⟨a0,rfl,w0⟩:=XU Tryz.underlying3 h0;obtain⟨y,hy,rfl⟩:=ih k5 (by omega) h1;exact⟨(a0,y),⟨w0,hy⟩,by simp⟩
 obtain⟨rs,rfl,hrs⟩:=ZY (l:=l6) (f:=fun r:R=>r.av.cells) (ok:=R.ok M) fun c hc=>by
  obtain⟨f,⟨g1,g2,g3,g4⟩,e⟩:=Qa5 (hl6 c hc);refine⟨f,⟨g1,g2,g3,g4⟩,?_⟩;rw[←e];rfl
 refine⟨.mk a0 b a2 vs ps ss rs,.mk w0 w1 w2 (by rw[Qnq,y1]at w3;exact nb _ w3 (by decide) (by omega)) (by rw[Qnq,y2]at w4;exact nb _ w4 (by decide) (by omega)) (by rw[Qnq,y3]at w5;exact nb _ w5 (by decide) (by omega)) (by rw[Qnq,y4]at w6;exact nb _ w6 (by decide) (by omega)) hvs (fun x hx=>(hps x hx).1) (fun x hx=>(hps x hx).2) (fun x hx=>(hss x hx).1) (fun x hx=>(hss x hx).2) hrs,?_⟩;rw[V.eta];have e3:(vs.map V.cells).map XS=vs.map V.av:=by
  rw[Qom];exact Qol fun c _=>BO (by rw[V.cells_length];omega)
 have e4:(ps.map (fun p=>p.1.cells++p.2.cells)).map XS=ps.map V.pav:=by
  rw[Qom];exact Qol fun p _=>BO (by rw[Qm9,V.cells_length];omega)
 have e5:(ss.map (fun s=>AV.int .i64 s.1 :: s.2.cells)).map XS=ss.map V.sav:=by
  rw[Qom];exact Qol fun p _=>BO (by rw[QmK,V.cells_length];omega)
 have e6:(rs.map (fun r=>r.av.cells)).map XS=rs.map R.av:=by
  rw[Qom];exact Qol fun r _=>rfl
 rw[e3,e4,e5,e6];rfl

end Go.Proofs.YtkhpgmeokilhaaaGreatDoor.Br

namespace Go.Proofs.YtkhpgmeokilhaaaGreatDoor.Va
open Go Am Rc Bt Br

def oth (k:Int)(b:Nat)(t:List UInt8)(l p s r:List AV):Bool :=
 (k != 11&&decide ((l.length:Int) > 0))||(k != 12&&decide ((p.length:Int) > 0))||(k != 10&&decide (((s.length+r.length:Nat):Int) > 0))||((b:Int) != 0&&(Zh k||k==10||k==11||k==12))||(!(t==[]) && !Zh k)

section
variable (k:Int)(b:Nat)(t:List UInt8)(l p s r:List AV)(hs:s.length≤140737488351232)(hr:r.length≤140737488351232)

set_option maxHeartbeats 2000000 in
include hs hr in
theorem z74:Qi Tryz.prog 74 [vo k b t l p s r] (.bool (oth k b t l p s r)):=by
 have w:IntKind.i64.wrap ((s.length:Int)+(r.length:Int))=((s.length+r.length:Nat):Int):=by simp only[QC];omega
 have n4:((b:Int) != 0)=!((b:Int)==0):=rfl;have n5:(t != [])=!(t==[]):=rfl;refine wF Tryz.func74 ?_;simp only[eK,Tryz.f74,seval];simp only[vo,oth,Zh,n4,eE,seval];rcases(by omega:k=7∨k=8∨k=10∨k=11∨k=12∨(k≠7∧k≠8∧k≠10∧k≠11∧k≠12))with rfl|rfl|rfl|rfl|rfl|⟨h7,h8,h10,h11,h12⟩
 ·have b7:((7:Int)==7)=true:=by decide
  have b8:((7:Int)==8)=false:=by decide
  have b10:((7:Int)==10)=false:=by decide
  have b11:((7:Int)==11)=false:=by decide
  have b12:((7:Int)==12)=false:=by decide
  have JN:((7:Int) != 10)=true:=by decide
  have Wu:((7:Int) != 11)=true:=by decide
  have JB:((7:Int) != 12)=true:=by decide
  have g1:decide ((7:Int)≥10)=false:=by decide
  have g2:decide ((7:Int)≤12)=true:=by decide
  simp only[b7,b8,b10,b11,b12,JN,Wu,JB,Qoc,Qow,Qoe,QnK,Qod,eE,seval];cases a1:decide ((l.length:Int) > 0)<;>try simp only[JB,Qoh,Qog,eE,seval]
  all_goals(cases a2:decide ((p.length:Int) > 0)<;>try simp only[JN,Qoh,Qog,w,eE,seval])
  all_goals(cases a3:decide (((s.length+r.length:Nat):Int) > 0)<;>try simp only[Qoh,Qog,eE,seval])
  all_goals(cases a4:((b:Int)==0)<;>try simp only[a4,n4,QnE,Qod,QP,eE,seval])
  all_goals(cases a5:(t==[])<;>try simp only[QnE,Qod,Qa,seval])

 ·have b7:((8:Int)==7)=false:=by decide
  have b8:((8:Int)==8)=true:=by decide
  have b10:((8:Int)==10)=false:=by decide
  have b11:((8:Int)==11)=false:=by decide
  have b12:((8:Int)==12)=false:=by decide
  have JN:((8:Int) != 10)=true:=by decide
  have Wu:((8:Int) != 11)=true:=by decide
  have JB:((8:Int) != 12)=true:=by decide
  have g1:decide ((8:Int)≥10)=false:=by decide
  have g2:decide ((8:Int)≤12)=true:=by decide
  simp only[b7,b8,b10,b11,b12,JN,Wu,JB,Qoc,Qow,Qox,Qoe,QnK,Qod,eE,seval];cases a1:decide ((l.length:Int) > 0)<;>try simp only[JB,Qoh,Qog,eE,seval]
  all_goals(cases a2:decide ((p.length:Int) > 0)<;>try simp only[JN,Qoh,Qog,w,eE,seval])
  all_goals(cases a3:decide (((s.length+r.length:Nat):Int) > 0)<;>try simp only[Qoh,Qog,eE,seval])
  all_goals(cases a4:((b:Int)==0)<;>try simp only[a4,n4,QnE,Qod,QP,eE,seval])
  all_goals(cases a5:(t==[])<;>try simp only[QnE,Qod,Qa,seval])

 ·have b7:((10:Int)==7)=false:=by decide
  have b8:((10:Int)==8)=false:=by decide
  have b10:((10:Int)==10)=true:=by decide
  have b11:((10:Int)==11)=false:=by decide
  have b12:((10:Int)==12)=false:=by decide
  have JN:((10:Int) != 10)=false:=by decide
  have Wu:((10:Int) != 11)=true:=by decide
  have JB:((10:Int) != 12)=true:=by decide
  have g1:decide ((10:Int)≥10)=true:=by decide
  have g2:decide ((10:Int)≤12)=true:=by decide
  simp only[b7,b8,b10,b11,b12,JN,Wu,JB,Qoc,Qn1,Qow,Qox,QnK,QnE,eE,seval];cases a1:decide ((l.length:Int) > 0)<;>try simp only[JB,Qoh,Qog,eE,seval]
  all_goals(cases a2:decide ((p.length:Int) > 0)<;>try simp only[JN,Qoh,Qog,eE,seval])
  all_goals(cases a3:decide (((s.length+r.length:Nat):Int) > 0)<;>try simp only[a3,g1,g2,b7,b8,b10,b11,b12,JN,Wu,JB,Qoc,Qn1,Qow,Qox,Qoh,Qog,Qoe,QnK,QnE,Qod,w,QP,eE,seval])
  all_goals(cases a4:((b:Int)==0)<;>try simp only[a4,n4,Qoh,Qog,QnE,Qod,QP,eE,seval])
  all_goals(cases a5:(t==[])<;>try simp only[QnE,Qod,Qa,seval])

 ·have b7:((11:Int)==7)=false:=by decide
  have b8:((11:Int)==8)=false:=by decide
  have b10:((11:Int)==10)=false:=by decide
  have b11:((11:Int)==11)=true:=by decide
  have b12:((11:Int)==12)=false:=by decide
  have JN:((11:Int) != 10)=true:=by decide
  have Wu:((11:Int) != 11)=false:=by decide
  have JB:((11:Int) != 12)=true:=by decide
  have g1:decide ((11:Int)≥10)=true:=by decide
  have g2:decide ((11:Int)≤12)=true:=by decide
  simp only[b7,b8,b10,b11,b12,JN,Wu,JB,Qoc,Qn1,Qow,Qox,Qoh,QnK,QnE,eE,seval];cases a1:decide ((l.length:Int) > 0)<;>try simp only[a1,g1,g2,b7,b8,b10,b11,b12,JN,Wu,JB,Qoc,Qn1,Qow,Qox,Qoh,Qog,Qoe,QnK,QnE,Qod,w,QP,eE,seval]
  all_goals(cases a2:decide ((p.length:Int) > 0)<;>try simp only[JN,Qoh,Qog,w,eE,seval])
  all_goals(cases a3:decide (((s.length+r.length:Nat):Int) > 0)<;>try simp only[Qoh,Qog,eE,seval])
  all_goals(cases a4:((b:Int)==0)<;>try simp only[a4,n4,Qoh,Qog,QnE,Qod,QP,eE,seval])
  all_goals(cases a5:(t==[])<;>try simp only[QnE,Qod,Qa,seval])

 ·have b7:((12:Int)==7)=false:=by decide
  have b8:((12:Int)==8)=false:=by decide
  have b10:((12:Int)==10)=false:=by decide
  have b11:((12:Int)==11)=false:=by decide
  have b12:((12:Int)==12)=true:=by decide
  have JN:((12:Int) != 10)=true:=by decide
  have Wu:((12:Int) != 11)=true:=by decide
  have JB:((12:Int) != 12)=false:=by decide
  have g1:decide ((12:Int)≥10)=true:=by decide
  have g2:decide ((12:Int)≤12)=true:=by decide
  simp only[b7,b8,b10,b11,b12,JN,Wu,JB,Qoc,Qn1,Qow,Qox,QnK,QnE,eE,seval];cases a1:decide ((l.length:Int) > 0)<;>try simp only[JN,JB,Qoh,Qog,w,eE,seval]
  all_goals(cases a2:decide ((p.length:Int) > 0)<;>try simp only[a2,g1,g2,b7,b8,b10,b11,b12,JN,Wu,JB,Qoc,Qn1,Qow,Qox,Qoh,Qog,Qoe,QnK,QnE,Qod,w,QP,eE,seval])
  all_goals(cases a3:decide (((s.length+r.length:Nat):Int) > 0)<;>try simp only[Qoh,Qog,eE,seval])
  all_goals(cases a4:((b:Int)==0)<;>try simp only[a4,n4,Qoh,Qog,QnE,Qod,QP,eE,seval])
  all_goals(cases a5:(t==[])<;>try simp only[QnE,Qod,Qa,seval])
 ·have b7:(k==7)=false:=by simp[h7]
  have b8:(k==8)=false:=by simp[h8]
  have b10:(k==10)=false:=by simp[h10]
  have b11:(k==11)=false:=by simp[h11]
  have b12:(k==12)=false:=by simp[h12]
  have JN:(k != 10)=true:=by simp[h10]
  have Wu:(k != 11)=true:=by simp[h11]
  have JB:(k != 12)=true:=by simp[h12]
  rcases(by omega:(k≥10∧¬k≤12)∨¬k≥10)with⟨q1,q2⟩|q1
  ·have g1:decide (k≥10)=true:=Qou q1;have g2:decide (k≤12)=false:=Qoo q2;simp only[b7,b8,b10,b11,b12,JN,Wu,JB,Qoc,Qow,Qoe,QnK,QnE,eE,seval];cases a1:decide ((l.length:Int) > 0)<;>try simp only[JB,Qoh,Qog,eE,seval]
   all_goals(cases a2:decide ((p.length:Int) > 0)<;>try simp only[JN,Qoh,Qog,w,eE,seval])
   all_goals(cases a3:decide (((s.length+r.length:Nat):Int) > 0)<;>try simp only[Qoh,Qog,eE,seval])
   all_goals(cases a4:((b:Int)==0)<;>try simp only[a4,n4,g1,g2,QnE,Qod,QP,eE,seval])
   all_goals(cases a5:(t==[])<;>try simp only[QnE,Qod,Qa,seval])
  ·have g1:decide (k≥10)=false:=Qoo q1;simp only[b7,b8,b10,b11,b12,JN,Wu,JB,Qoc,Qow,Qoe,QnK,QnE,eE,seval];cases a1:decide ((l.length:Int) > 0)<;>try simp only[JB,Qoh,Qog,eE,seval]
   all_goals(cases a2:decide ((p.length:Int) > 0)<;>try simp only[JN,Qoh,Qog,w,eE,seval])
   all_goals(cases a3:decide (((s.length+r.length:Nat):Int) > 0)<;>try simp only[Qoh,Qog,eE,seval])
   all_goals(cases a4:((b:Int)==0)<;>try simp only[a4,n4,g1,QnE,Qod,QP,eE,seval])
   all_goals(cases a5:(t==[])<;>try simp only[QnE,Qod,Qa,seval])

end

section
variable (k:Int)(b:Nat)(t:List UInt8)(l p s r:List AV)(hs:s.length≤140737488351232)(hr:r.length≤140737488351232)

end

def zc:List AV:=[.int .i64 0,.str [],.str [],.int .i64 0,.int .i64 0,.int .i64 0,.int .i64 0,.int .i64 0]

section progs
variable (L:List PG)(hl:L.length≤maxLen)(p:PG→Bool)(c:Nat)(cap:AV)(m:Qh)

include hl in
theorem y35 (hc:∀o∈L,Qd Tryz.prog c [Qm o,cap.sh] (Qb :: m) fun y m1=>y=.bool (p o)∧m1=Qb :: m) :
  Qd Tryz.prog 35 [.list (L.map Qm),.fn (.func c) [] [cap]] m fun y m1=>y=.int .i64 (XW p L 0)∧m1=m:=by
 refine wG Tryz.func35 ?_;simp only[eK,Tryz.f35,seval];exact HU hl (av:=Qm) (n:=3) (s:=some 3) (cs:=[cap]) (fun _=>⟨rfl,rfl⟩) hc

end progs

section items
variable (L:List PI)(hl:L.length≤maxLen)(p:PI→Bool)(c:Nat)(cap:AV)(m:Qh)

include hl in
theorem QjH (hc:∀o∈L,Qd Tryz.prog c [Xn o,cap.sh] (Qb :: m) fun y m1=>y=.bool (p o)∧m1=Qb :: m) :
  Qd Tryz.prog 284 [.list (L.map Xn),.fn (.func c) [] [cap]] m fun y m1=>y=.int .i64 (XW p L 0)∧m1=m:=by
 refine wG Tryz.func284 ?_;simp only[eK,Tryz.f284,seval];exact HU hl (av:=Xn) (n:=3) (s:=some 3) (cs:=[cap]) (fun _=>⟨rfl,rfl⟩) hc

theorem BP {α:Type}(p:α→Bool)(l:List α):decide (XW p l 0≥0)=l.any p:=by
 rcases WD p l 0 with⟨h1,h2⟩|⟨k,o,h1,_,h3⟩
 ·rw[h1];have:l.any p=false:=by
   rw[List.any_eq_false];intro x hx;exact fun h=>by have:=Qor.1 h2 x hx;exact this h
  rw[this];rfl
 ·rw[h1];have:l.any p=true:=Qoa.2 ⟨o,Qos h3,Qot h3⟩;rw[this];exact Qou (by omega)

include hl in
theorem QjI (hc:∀o∈L,Qd Tryz.prog c [Xn o,cap.sh.sh] (Qb :: Qb :: m) fun y m1=>y=.bool (p o)∧m1=Qb :: Qb :: m) :
  Qd Tryz.prog 219 [.list (L.map Xn),.fn (.func c) [] [cap]] m fun y m1=>y=.bool (L.any p)∧m1=m:=by
 refine wG Tryz.func219 ?_;simp only[eK,Tryz.f219,seval];simp only[Qa,seval];refine Qg (QjH L hl p c cap.sh _ hc) (by simp only[Qm3,Qnx,Qa,seval]) ?_;simp only[BP,Qa,seval]

end items

def Ts (b:Nat)(x:PI):Bool:=IntKind.u64.wrap x.num==(b:Int)
theorem y36 (g:PG)(frO:Nat→Ob)(s:List UInt8)(hf:frO 3=.cells [.str s]):Qd Tryz.prog 36 [Qm g,.ptr 1 3 0] [Qb,frO] fun y m1=>y=.bool (g.name==s)∧m1=[Qb,frO]:=by
 refine wG Tryz.func36 ?_;simp only[eK,Tryz.f36,seval];simp only[hf,Qm,PG.cells,QP,eE,seval]

theorem QjJ (x:PI)(b:Nat)(frO:Nat→Ob)(hf:frO 5=.cells [.int .u64 (b:Nat)]):Qd Tryz.prog 229 [Xn x,.ptr 2 5 0] [Qb,Qb,frO] fun y m1=>y=.bool (Ts b x)∧m1=[Qb,Qb,frO]:=by
 refine wG Tryz.func229 ?_;simp only[eK,Tryz.f229,seval];simp only[hf,Xn,PI.cells,Ts,eE,seval]

def Di (s:List UInt8)(L:List PG):AV:=.tup [.int .i64 (if XW (fun g:PG=>g.name==s) L 0<0 then 0 else XW (fun g:PG=>g.name==s) L 0),.bool (decide (XW (fun g:PG=>g.name==s) L 0≥0))]

theorem Tt (P:PL)(hl:P.progs.length≤maxLen)(s:List UInt8):Qi Tryz.prog 17 [P.av,.str s] (Di s P.progs):=by
 refine wF Tryz.func17 ?_;simp only[eK,Tryz.f17,seval];simp only[PL.av,eE,seval];refine Qg (y35 P.progs hl (fun g=>g.name==s) 36 (.ptr 0 3 0) _ fun g _=>y36 g _ s (by rfl)) (by simp only[Qm3,Qnx,Qa,seval]<;>rfl) ?_;unfold Di;by_cases h:XW (fun g:PG=>g.name==s) P.progs 0<0
 ·have d:decide (XW (fun g:PG=>g.name==s) P.progs 0<0)=true:=Qou h;simp only[QmD h,Qa,seval]
 ·have d:decide (XW (fun g:PG=>g.name==s) P.progs 0<0)=false:=Qoo h;simp only[QmC h,Qa,seval]

def FdI (P:PL)(s:List UInt8)(k:Nat)(st:St):Prop :=
 ∃f fr i,st=⟨f,[fr],[]⟩∧k=P.progs.length-i∧XW (fun g:PG=>g.name==s) P.progs 0=XW (fun g:PG=>g.name==s) (P.progs.drop i) i∧f 1=.str s∧f 2=.ptr 0 2 0∧f 6=.int .i64 (i:Nat)∧fr 2=.cells [.list (P.progs.map Qm),.list (P.enums.map QE)]

theorem y8 (P:PL)(hl:P.progs.length≤maxLen)(s:List UInt8):Qi Tryz.prog 8 [P.av,.str s] (Di s P.progs):=by
 have e0:P.av=.agg [.list (P.progs.map Qm),.list (P.enums.map QE)]:=rfl;refine wF Tryz.func8 ?_;simp only[eK,Tryz.f8,seval];simp only[e0,eE,seval];refine Qk (FdI P s) _ ⟨_,_,0,rfl,rfl,rfl,(by rfl),(by rfl),(by rfl),(by rfl)⟩ ?_;rintro _ st ⟨f,fr,i,rfl,rfl,hx,h1,h2,h6,m2⟩;simp only[Qnq,h2,h6,m2,eE,seval];by_cases hlt:i<P.progs.length
 ·obtain⟨x,hi⟩:∃x,P.progs[i]? = some x:=⟨P.progs[i],Qmv hlt⟩;have hg:(P.progs.map Qm)[i]? = some (.agg x.cells):=by simp[hi,Qm]
  have e1:=Qw i _ hlt hl;simp only[PG.cells]at hg;rw[DC _ hi]at hx;simp only[QD hlt,Qv,QnY,Qf,hg,h1,h2,h6,m2,QP,eE,seval];cases hp:(x.name==s)
  ·rw[hp]at hx;simp only[QmO,if_false]at hx;simp only[h6,e1,Qa,seval];exact⟨P.progs.length-(i+1),by omega,_,_,i+1,rfl,rfl,hx,(by exact h1),(by exact h2),(by rfl),m2⟩
  ·rw[hp]at hx;simp only[if_true]at hx;have d1:¬((i:Int)<0):=by omega
   have d2:decide ((i:Int)≥0)=true:=Qou (by omega);simp only[Di,hx,QmC d1,d2,h6,Qa,seval]
 ·have hx':XW (fun g:PG=>g.name==s) P.progs 0 = -1:=by rw[hx,Qm8 (by omega)];rfl
  have d1:((-1:Int)<0):=by omega
  have d2:decide ((-1:Int)≥0)=false:=Qoo (by omega);simp only[QI hlt,Di,hx',Qa,seval]

def W3 (E:List PE)(t:Int)(b:Nat):Bool :=
 if 0≤t∧t<E.length∧b≤2147483647 then
  match E[t.toNat]? with
  |some x=>x.opn||x.items.any (Ts b)
  |none=>false
 else false

theorem A9 {M:Nat}(P:PL)(hP:P.ok M)(t:Int)(b:Nat):Qi Tryz.prog 168 [P.av,.int .i64 t,.int .u64 (b:Nat)] (.bool (W3 P.enums t b)):=by
 have e0:P.av=.agg [.list (P.progs.map Qm),.list (P.enums.map QE)]:=rfl;refine wF Tryz.func168 ?_;simp only[eK,Tryz.f168,seval];simp only[e0,eE,seval];by_cases h1:0≤t
 ·have d1:decide (t<0)=false:=Qoo (by omega);by_cases h2:t<P.enums.length
  ·have d2:decide (t≥(P.enums.length:Int))=false:=Qoo (by omega);by_cases h3:b≤2147483647
   ·have d3:decide ((b:Int) > 2147483647)=false:=Qoo (by omega);obtain⟨n,rfl⟩:=Qof h1;have hn:n<P.enums.length:=by omega
    obtain⟨x,hi⟩:∃x,P.enums[n]? = some x:=⟨P.enums[n],Qmv hn⟩;have hx:=hP.enums x (QmJ hi);have hg:(P.enums.map QE)[n]? = some (.agg x.cells):=by simp[hi,QE]
    simp only[PE.cells]at hg;have ha:W3 P.enums (n:Int) b=(x.opn||x.items.any (Ts b)):=by
     unfold W3;rw[QmD ⟨h1,h2,h3⟩,QnY,hi]
    simp only[d1,d2,Qnq,d3,Qv,QnY,Qf,hg,ha,eE,seval];cases ho:x.opn
    ·simp only[Qoh,eE,seval];refine Qg (QjI x.items hx.len1 (Ts b) 229 (.ptr 0 5 0) _ fun y _=>QjJ y b _ (by rfl)) (by simp only[Qm3,Qnx,Qa,seval]<;>rfl) ?_;simp only[Qa,seval]
    ·simp only[Qog,Qa,seval]
   ·have d3:decide ((b:Int) > 2147483647)=true:=Qou (by omega);have ha:W3 P.enums t b=false:=by
     unfold W3;rw[QmC (by omega)]
    simp only[d1,d2,Qnq,d3,ha,eE,seval]
  ·have d2:decide (t≥(P.enums.length:Int))=true:=Qou (by omega);have ha:W3 P.enums t b=false:=by
    unfold W3;rw[QmC (by omega)]
   simp only[d1,d2,Qnq,ha,eE,seval]
 ·have d1:decide (t<0)=true:=Qou (by omega);have ha:W3 P.enums t b=false:=by
   unfold W3;rw[QmC (by omega)]
  simp only[d1,ha,Qa,seval]

def Ga (P:PL)(k tg kd:Int)(b:Nat)(t:List UInt8)(l p s r:List AV):Int :=
 if (kd != k||oth kd b t l p s r)=true then 12 else if decide ((t.length:Int) > 4096)=true then 3 else if (k==7 && !Hz t)=true then 7
 else if (!XO k kd b t l p s r)=true then 12 else if (k==9 && !W3 P.enums tg b)=true then 16 else 0

section
variable {M:Nat}(P:PL)(hP:P.ok M)(k tg kd:Int)(b:Nat)(t:List UInt8)(l p s r:List AV)(hl:l.length≤140737488351232)(hp:p.length≤140737488351232)(hs:s.length≤140737488351232)(hr:r.length≤140737488351232)

include hP hl hp hs hr in
theorem QjK:Qi Tryz.prog 290 [P.av,.int .i64 k,.int .i64 tg,vo kd b t l p s r] (.int .i64 (Ga P k tg kd b t l p s r)):=by
 have e0:P.av=.agg [.list (P.progs.map Qm),.list (P.enums.map QE)]:=rfl;have ho:=z74 kd b t l p s r hs hr;have hf:=A7 k kd b t l p s r hl hp hs hr;have ha:=A9 P hP tg b;simp only[vo]at ho hf;simp only[e0]at ha;refine wF Tryz.func290 ?_;simp only[eK,Tryz.f290,seval];simp only[e0,vo,Ga,eE,seval];cases a1:(kd != k)
 ·simp only[Qoh,eE,seval];refine aC ho ?_;cases oth kd b t l p s r
  ·simp only[QmO,eE,seval];cases a2:decide ((t.length:Int) > 4096)
   ·simp only[QmO,Qa,seval];have fin:∀c:Bool,True:=fun _=>trivial
    cases a3:(k==7)
    ·simp only[Qn1,QmO,eE,seval];refine aC hf ?_;cases XO k kd b t l p s r
     ·simp only[QnE,Qa,seval]
     ·simp only[Qod,QmO,Qa,seval];cases a4:(k==9)
      ·simp only[Qn1,QmO,Qa,seval]
      ·simp only[Qoc,eE,seval];refine aC ha ?_;cases W3 P.enums tg b<;>simp only[QnE,Qod,QmO,Qa,seval]
    ·simp only[Qoc,eE,seval];refine aC (Rq t) ?_;cases Hz t
     ·simp only[QnE,Qa,seval]
     ·have a4:(k==9)=false:=by
       rw[QmA]at a3;subst a3;rfl
      simp only[Qod,QmO,eE,seval];refine aC hf ?_;cases XO k kd b t l p s r
      ·simp only[QnE,Qa,seval]
      ·simp only[Qod,a4,Qn1,QmO,Qa,seval]
   ·simp only[Qa,seval]
  ·simp only[Qa,seval]
 ·simp only[Qog,Qa,seval]

end

def JoI (g:PG)(k:Nat)(st:St):Prop :=
 ∃f fr i n b,st=⟨f,[fr],[]⟩∧k=g.ops.length-i∧JI g.ops 0 (-1)=JI (g.ops.drop i) n b∧0≤n∧n≤(i:Int)∧((i=0∧b = -1)∨∃j o,i=j+1∧g.ops[j]? = some o∧b=o.union)∧f 1=.ptr 0 1 0∧f 3=.int .i64 n∧f 4=.int .i64 (i:Nat)∧fr 1=.cells g.cells

theorem z65 (g:PG)(hl:g.ops.length≤9223372036854775000):Qi Tryz.prog 65 [Qm g] (.bool (JE g)):=by
 refine wF Tryz.func65 ?_;simp only[eK,Tryz.f65,seval];simp only[Qm,PG.cells,eE,seval];refine Qk (JoI g) _ ⟨_,_,0,0,-1,rfl,rfl,rfl,by decide,by decide,.inl ⟨rfl,rfl⟩,(by rfl),(by rfl),(by rfl),(by rfl)⟩ ?_;rintro _ st ⟨f,fr,i,n,b,rfl,rfl,hj,hn0,hni,hb,h1,h3,h4,m1⟩;simp only[PG.cells]at m1;simp only[Qnq,h1,h4,m1,eE,seval];by_cases hlt:i<g.ops.length
 ·obtain⟨o,hi⟩:∃o,g.ops[i]? = some o:=⟨g.ops[i],Qmv hlt⟩;have hg:(g.ops.map fun o=>AV.agg o.cells)[i]? = some (.agg o.cells):=by simp[hi]
  have e1:=Qw i _ hlt (by simp only[maxLen];omega);have en:IntKind.i64.wrap (n+1)=n+1:=by rw[QC];omega
  rw[FL hi]at hj;have fin:∀(f':Fr) (n':Int),(if o.union=n then n'=n+1 else n'=n)→JI g.ops 0 (-1)=JI (g.ops.drop (i+1)) n' o.union→f' 1=.ptr 0 1 0→f' 3=.int .i64 n'→f' 4=.int .i64 ((i+1:Nat):Int)→∃k,k<g.ops.length-i∧JoI g k ⟨f',[fr],[]⟩:=by
   intro f' n' a c d e f4;refine⟨g.ops.length-(i+1),by omega,f',fr,i+1,n',o.union,rfl,rfl,c,?_,?_,.inr ⟨i,o,rfl,hi,rfl⟩,d,e,f4,m1⟩<;>split at a<;>omega
  simp only[PO.cells]at hg;simp only[QD hlt,Qv,QnY,Qf,hg,PO.cells,h1,h3,h4,m1,eE,seval];by_cases a1:o.union=n
  ·have b1:(o.union==n)=true:=by simp[a1]
   rw[QmD a1,←a1]at hj;simp only[b1,h3,h4,en,e1,Qa,seval];exact fin _ (n+1) (by rw[QmD a1]) (by rw[hj,a1]) (by exact h1) (by rfl) (by rfl)
  have b1:(o.union==n)=false:=by simp[a1]
  rw[QmC a1]at hj;by_cases a2:o.union = -1
  ·have b2:(o.union != -1)=false:=by simp[a2]
   rw[QmD (.inl a2)]at hj;simp only[b1,b2,h4,e1,Qa,seval];exact fin _ n (by rw[QmC a1]) hj (by exact h1) (by exact h3) (by rfl)
  have b2:(o.union != -1)=true:=by simp[a2]
  rcases hb with⟨rfl,rfl⟩|⟨j,p,rfl,hjp,rfl⟩
  ·have b3:(((0:Nat):Int)==0)=true:=rfl;rw[QmC (by omega)]at hj;have hun:JE g=false:=by unfold JE;rw[hj]
   simp only[b1,b2,h4,hun,Qa,seval]
  ·have b3:(((j+1:Nat):Int)==0)=false:=by rw[Qoi];omega
   have hgj:(g.ops.map fun o=>AV.agg o.cells)[j]? = some (.agg p.cells):=by simp[hjp]
   have e2:=H2 j _ hlt (by simp only[maxLen];omega);simp only[PO.cells]at hgj;by_cases a4:o.union=p.union
   ·have b4:(p.union != o.union)=false:=by simp[a4]
    rw[QmD (.inr a4)]at hj;simp only[b1,b2,b3,b4,e2,Qv,QnY,Qf,hgj,PO.cells,h1,h4,m1,e1,eE,seval];exact fin _ n (by rw[QmC a1]) hj (by exact h1) (by exact h3) (by rfl)
   ·have b4:(p.union != o.union)=true:=by simp;exact fun h=>a4 h.symm
    rw[QmC (by omega)]at hj;have hun:JE g=false:=by unfold JE;rw[hj]
    simp only[b1,b2,b3,b4,e2,Qv,QnY,Qf,hgj,PO.cells,h1,h4,m1,hun,eE,seval]
 ·rw[Qm8 (by omega)]at hj;have hun:JE g=(g.unions==n):=by unfold JE;rw[hj];rfl
  simp only[QI hlt,h1,h3,m1,hun,eE,seval]

theorem z33 {M:Nat}(hM:M≤140737488351232)(P:PL)(hP:P.ok M)(hl:∀g∈P.progs,g.ops.length≤64):Qi Tryz.prog 33 [P.av] (.bool (args P)):=by
 have e:args P=(P.enums.all Wh&&P.progs.all (Wg P)):=Bool.and_comm _ _;have z0:(0≤(0:Int))=True:=by simp
 have z1:Int.toNat 0=0:=rfl;obtain⟨T,hT⟩:∃T,T=true:=⟨_,rfl⟩;refine wF Tryz.func33 ?_;simp only[eK,Tryz.f33,seval];simp only[H6,eE,seval];refine Xd P.enums.length 0 (Q6 P.enums Wh) T 4 [(1,.ptr 0 1 0)] [(1,.cells (Pc P))] [] (by simp[Qp]) ?_ (by rw[hT];rfl);rintro k f fr hk;simp only[Pc,Qnq,Xp,Qnx,eE,seval];rcases Xy P.enums k with⟨x,hx,hlt⟩|hlt
 ·have hg:=Q4 QE hx;have e1:=Qw k _ hlt hP.len2;have hxo:=hP.enums x (QmJ hx);have hie:((x.notes.length:Int)==0)=x.notes.isEmpty:=by
   cases x.notes with
   |nil=>rfl
   |cons a l=>simp;omega
  rw[HY]at hg;cases hb:T&&Qp (Q6 P.enums Wh) k
  case' false=>simp only[QD hlt,cond_true,cond_false,Qa,seval]
  case' true=>simp only[QD hlt,Qv,QnY,Qf,hg,Qnq,hie,cond_true,cond_false,eE,seval]
  all_goals
   refine Xd x.items.length 0 (Q6 x.items Ww) ((T&&Qp (Q6 P.enums Wh) k)&&x.notes.isEmpty) 5 [(1,.ptr 0 1 0),(4,.int .i64 (k:Nat))] [(1,.cells (Pc P))] [] (by simp[Qp]) ?_ (by rw[hb];rfl);rintro j f fr hj;simp only[Pc,Qv,QnY,Qf,hg,Qnq,Xp,Qnx,eE,seval];rcases Xy x.items j with⟨o,ho,hlj⟩|hlj
   ·have hgo:=Q4 Xn ho;have e2:=Qw j _ hlj hxo.len1;have hoo:=hxo.items o (QmJ ho);rw[BJ]at hgo;simp only[QD hlj,Qv,QnY,Qf,hg,hgo,eE,seval];cases hc:((T&&Qp (Q6 P.enums Wh) k)&&x.notes.isEmpty)&&Qp (Q6 x.items Ww) j
    ·simp only[e2,cond_true,cond_false,Qa,seval];exact Ac.go hj hlj rfl (by rw[hc];rfl)
    have fin:∀v,Ww o=v→((((T&&Qp (Q6 P.enums Wh) k)&&x.notes.isEmpty)&&Qp (Q6 x.items Ww) j)&&Q6 x.items Ww j)=v:=fun v h=>by rw[hc,Xs ho];exact h
    rcases hn:o.notes with _|⟨n,_|⟨n2,ns⟩⟩
    ·have c0:(((0:Nat):Int)==0)=true:=rfl;simp only[Qnx,Qnr,e2,cond_true,cond_false,Qa,seval];exact Ac.go hj hlj rfl (fin _ (by unfold Ww;rw[hn]))
    ·obtain⟨kd,b',t,l,p,s,r,hv,htl,h3',h4',h5',h6'⟩:=IE (hoo.notes n (by rw[hn];simp)) hM;have c0:(((1:Nat):Int)==0)=false:=rfl;have c1:(((1:Nat):Int)==1)=true:=rfl;have e3:Ww o=(n.name==alias&&XO 7 kd b' t l p s r):=by
      unfold Ww;rw[hn];show(n.name==alias&&nok n.val)=_;rw[hv];rfl
     have en:XS n.cells=.agg [.str n.name,.int .i64 kd,.int .u64 ((b':Nat):Int),.str t,.list l,.list p,.list s,.list r]:=by
      rw[PN.cells,hv];rfl
     have hne:(n.name==[97,108,105,97,115])=(n.name==alias):=rfl;have hck:=z64 kd b' t l p s r (by simp only[maxLen];omega);simp only[nv]at hck;simp only[Qm3,Qnx,en,QmK,Qnr,QmU,Qf,z0,z1,Qny,QP,hne,cond_true,cond_false,eE,seval];by_cases hal:n.name=alias
     ·have b0:(n.name==alias)=true:=by simp[hal]
      rw[←hal]at hck;rw[b0,Qoc]at e3;simp only[b0,cond_true,cond_false,Qa,seval];refine aC hck ?_;cases hfv:XO 7 kd b' t l p s r
      ·have d0:((12:Int)==0)=false:=rfl;simp only[QmO,d0,e2,Qa,seval];exact Ac.go hj hlj rfl (fin _ (e3.trans hfv))
      ·have d0:((0:Int)==0)=true:=rfl;simp only[d0,e2,Qa,seval];exact Ac.go hj hlj rfl (fin _ (e3.trans hfv))
     ·have b0:(n.name==alias)=false:=by simp[hal]
      simp only[b0,e2,cond_true,cond_false,Qa,seval];exact Ac.go hj hlj rfl (fin _ (by rw[e3,b0];rfl))
    ·have c0:((((ns.length+1+1:Nat)):Int)==0)=false:=by rw[Qoi];omega
     have c1:((((ns.length+1+1:Nat)):Int)==1)=false:=by rw[Qoi];omega
     simp only[Qm3,QmK,Qnq,c0,c1,e2,cond_true,cond_false,Qa,seval];exact Ac.go hj hlj rfl (fin _ (by unfold Ww;rw[hn]))
   simp only[QI hlj,Zg hj hlj,e1,Qa,seval];exact Ac.go hk hlt rfl (by rw[Xs hx];exact(Qng ..).symm)
 simp only[QI hlt,Zg hk hlt,hT,Qoc,Qa,seval];refine Xd P.progs.length 0 (Q6 P.progs (Wg P)) (P.enums.all Wh) 7 [(1,.ptr 0 1 0)] [(1,.cells (Pc P))] [] (by simp[Qp]) ?_;rintro k f fr hk;simp only[Pc,Qnq,Xp,Qnx,eE,seval];rcases Xy P.progs k with⟨x,hx,hlt⟩|hlt
 ·have hg:=Q4 Qm hx;have e1:=Qw k _ hlt hP.len1;have hxo:=hP.progs x (QmJ hx);have hjo:=z65 x (Qmt (hl x (QmJ hx)) (by decide));rw[HZ]at hg hjo;cases hb:P.enums.all Wh&&Qp (Q6 P.progs (Wg P)) k
  case' false=>simp only[QD hlt,cond_true,cond_false,Qa,seval]
  case' true=>
   simp only[QD hlt,Qv,QnY,Qf,hg,cond_true,cond_false,eE,seval];refine aC hjo ?_;simp only[cond_true,cond_false,Qa,seval]
  all_goals
   refine Xd x.ops.length 0 (Q6 x.ops fun o=>Kn P o&&Js o) ((P.enums.all Wh&&Qp (Q6 P.progs (Wg P)) k)&&JE x) 8 [(1,.ptr 0 1 0),(7,.int .i64 (k:Nat))] [(1,.cells (Pc P))] [] (by simp[Qp]) ?_ (by rw[hb];rfl);rintro j f fr hj;simp only[Pc,Qv,QnY,Qf,hg,Qnq,Xp,Qnx,eE,seval];rcases Xy x.ops j with⟨o,ho,hlj⟩|hlj
   ·have hgo:=Q4 Qz ho;have e2:=Qw j _ hlj hxo.len;have hop:=z66 P o (by have:=(hxo.ops o (QmJ ho)).alias;simp only[maxLen];omega);rw[H1]at hgo;rw[H6,H1]at hop;cases hc:((P.enums.all Wh&&Qp (Q6 P.progs (Wg P)) k)&&JE x)&&Qp (Q6 x.ops fun o=>Kn P o&&Js o) j
    ·simp only[QD hlj,e2,cond_true,cond_false,Qa,seval];exact Ac.go hj hlj rfl (by rw[hc];rfl)
    ·simp only[QD hlj,Qv,QnY,Qf,hg,hgo,cond_true,cond_false,eE,seval];refine aC hop ?_;simp only[e2,cond_true,cond_false,Qa,seval];exact Ac.go hj hlj rfl (by rw[hc,Xs ho];rfl)
   simp only[QI hlj,Zg hj hlj,e1,Qa,seval];exact Ac.go hk hlt rfl (by rw[Xs hx];exact(Qng ..).symm)
 simp only[QI hlt,Zg hk hlt,e,Qa,seval]

def FM (x:PE)(i:Nat):Bool:=match x.items[i]? with
 |some o=>(i != 0||o.num==0)&&YI x o
 |none=>true

theorem Qa6 (x:PE):Qp (FM x) x.items.length=(Ha x&&x.items.all (YI x)):=by
 rw[Qnp,QmT,QV,QmI]
 constructor
 ·intro h;refine⟨?_,fun o ho=>?_⟩
  ·unfold Ha;cases hi:x.items with
   |nil=>rfl
   |cons a l=>
    have:=h 0 (by rw[hi];simp);unfold FM at this;rw[hi]at this;simp only[Qny,QmT]at this
    simpa using this.1
  ·obtain⟨i,hi⟩:=QmH.1 ho;have:=h i (Qmu.1 hi).1;unfold FM at this;rw[hi]at this;simp only[QmT]at this;exact this.2
 ·rintro⟨h1,h2⟩ i _;unfold FM;cases hg:x.items[i]? with
  |none=>rfl
  |some o=>
   simp only[QmT];refine⟨?_,h2 o (QmJ hg)⟩;cases i with
   |zero=>
    unfold Ha at h1;cases hx:x.items with
    |nil=>rw[hx]at hg;cases hg
    |cons a l=>
     rw[hx]at h1 hg;cases hg
     simpa using h1
   |succ k=>rfl

theorem z32 {M:Nat}(P:PL)(hP:P.ok M):Qi Tryz.prog 32 [P.av] (.bool (VZ P)):=by
 have hn:VZ P=(P.progs.all (fun g=>g.ops.all JU)&&P.enums.all YJ):=rfl;obtain⟨T,hT⟩:∃T,T=true:=⟨_,rfl⟩;refine wF Tryz.func32 ?_;simp only[eK,Tryz.f32,seval];simp only[H6,eE,seval];refine Xd P.progs.length 0 (Q6 P.progs fun g=>g.ops.all JU) T 4 [(1,.ptr 0 1 0)] [(1,.cells (Pc P)),(8,.none),(12,.none)] [] (by simp[Qp]) ?_ (by rw[hT];rfl);rintro k f fr hk;simp only[Pc,Qnq,Xp,Qnx,eE,seval];rcases Xy P.progs k with⟨x,hx,hlt⟩|hlt
 ·have hg:=Q4 Qm hx;have e1:=Qw k _ hlt hP.len1;have hsl:=(hP.progs x (QmJ hx)).len;rw[HZ]at hg;simp only[QD hlt,Qa,seval];refine Xd x.ops.length 0 (Q6 x.ops JU) (T&&Qp (Q6 P.progs fun g=>g.ops.all JU) k) 5 [(1,.ptr 0 1 0),(4,.int .i64 (k:Nat))] [(1,.cells (Pc P)),(8,.none),(12,.none)] [] (by simp[Qp]) ?_;rintro j f fr hj;simp only[Pc,Qv,QnY,Qf,hg,Qnq,Xp,Qnx,eE,seval];rcases Xy x.ops j with⟨o,ho,hlj⟩|hlj
  ·have hgo:=Q4 Qz ho;have e2:=Qw j _ hlj hsl;have hq:JU o=(decide (o.num≥1)&&decide (o.num≤65535)):=rfl;rw[H1]at hgo;simp only[QD hlj,Qv,QnY,Qf,hg,hgo,eE,seval];cases hc:(T&&Qp (Q6 P.progs fun g=>g.ops.all JU) k)&&Qp (Q6 x.ops JU) j
   ·simp only[e2,cond_true,cond_false,Qa,seval];exact Ac.go hj hlj rfl (by rw[hc];rfl)
   cases a1:decide (o.num≥1) <;>
   ·rw[a1]at hq;simp only[a1,e2,cond_true,cond_false,Qa,seval];exact Ac.go (v:=(JU o)) hj hlj (by rw[hq];rfl) (by rw[hc,Xs ho];rfl)
  simp only[QI hlj,Zg hj hlj,e1,Qa,seval];exact Ac.go hk hlt rfl (by rw[Xs hx])
 simp only[QI hlt,Zg hk hlt,hT,Qoc,Qa,seval];refine Xd P.enums.length 0 (Q6 P.enums YJ) (P.progs.all fun g=>g.ops.all JU) 7 [(1,.ptr 0 1 0)] [(1,.cells (Pc P))] [12,8] (by simp[Qp]) ?_;rintro k f fr hk;simp only[Pc,Qnq,Xp,Qm3,Qnx,QmR,QmS,eE,seval];rcases Xy P.enums k with⟨x,hx,hlt⟩|hlt
 ·have hg:=Q4 QE hx;have e1:=Qw k _ hlt hP.len2;have hxo:=hP.enums x (QmJ hx);obtain⟨A,hA⟩:∃A,((P.progs.all fun g=>g.ops.all JU)&&Qp (Q6 P.enums YJ) k)=A:=⟨_,rfl⟩;rw[HY]at hg;simp only[QD hlt,hA,Qv,QnY,Qf,hg,eE,seval];refine Xd x.items.length 0 (FM x) A 9 [(1,.ptr 0 1 0),(7,.int .i64 (k:Nat)),(8,.ptr 0 8 0)] [(1,.cells (Pc P)),(8,.cells x.cells),(12,.none)] [] (by simp[Qp]) ?_;rintro j f fr hj;simp only[PE.cells,Qnq,Xp,Qnx,eE,seval];rcases Xy x.items j with⟨o,ho,hlj⟩|hlj
  ·have hgo:(x.items.map fun n=>AV.agg n.cells)[j]? = _:=Q4 Xn ho;have e2:=Qw j _ hlj hxo.len1;have hr:Qi Tryz.prog 63 [.list (x.free.map fun n=>AV.agg n.cells),.int .i64 o.num] (.bool (kept x.free o.num)):=z63 x.free hxo.len2 o.num;have hq:FM x j=((j != 0||o.num==0)&&(decide (o.num≤2147483647) && !kept x.free o.num)):=by unfold FM;rw[ho];rfl
   rw[BJ]at hgo;simp only[QD hlj,Qv,QnY,Qf,hgo,eE,seval];cases hc:A&&Qp (FM x) j
   ·simp only[e2,cond_true,cond_false,Qa,seval];exact Ac.go hj hlj rfl (by rw[hc];rfl)
   cases a1:decide (o.num≤2147483647)
   ·simp only[a1,e2,cond_true,cond_false,Qa,seval];exact Ac.go hj hlj rfl (by rw[hc,hq,a1,Qn1,Qoe];rfl)
   rcases (show(decide ((j:Int) > 0)=true∧(j != 0||o.num==0)=true)∨(decide ((j:Int) > 0)=false∧(j != 0||o.num==0)=(o.num==0))by
    cases j with
    |zero=>exact .inr ⟨rfl,rfl⟩
    |succ k=>exact .inl ⟨Qou (by omega),rfl⟩)with⟨g1,g2⟩|⟨g1,g2⟩
   case' inr=>cases a2:(o.num==0)
   case' inr.false=>
    simp only[a1,a2,g1,e2,cond_true,cond_false,Qa,seval];exact Ac.go hj hlj rfl (by rw[hc,hq,g2,a2];rfl)
   case' inl=>have a2:True:=trivial
   all_goals
    simp only[a1,a2,g1,cond_true,cond_false,eE,seval];refine aC hr ?_;simp only[e2,cond_true,cond_false,Qa,seval];exact Ac.go hj hlj rfl (by rw[hc,hq,a1,g2];simp[a2])
  have he:Qp (FM x) j=(Ha x&&x.items.all (YI x)):=(Ji (fun i hi=>absurd hi (QoC i)) hj hlj).trans (Qa6 x);simp only[QI hlj,he,Qa,seval];refine Xd x.free.length 0 (Y9 x.free) (A&&(Ha x&&x.items.all (YI x))) 11 [(1,.ptr 0 1 0),(7,.int .i64 (k:Nat)),(8,.ptr 0 8 0)] [(1,.cells (Pc P)),(8,.cells x.cells)] [12] (by simp[Qp]) ?_;rintro i f fr hi;simp only[PE.cells,Qnq,Xp,Qm3,Qnx,QmR,QmS,eE,seval];rcases Xy x.free i with⟨y,hy,hli⟩|hli
  ·have hgy:(x.free.map fun n=>AV.agg n.cells)[i]? = some (.agg [.int .i64 y.lo,.int .i64 y.hi]):=Q4 Z9 hy;have e2:=Qw i _ hli hxo.len2;have hq:Y9 x.free i=(((decide (y.lo≥0)&&decide (y.hi≤2147483647))&&decide (y.lo≤y.hi))&&X7 x.free FJ i):=by unfold Y9;rw[Xs hy];rfl
   simp only[QD hli,Qv,QnY,Qf,hgy,eE,seval];cases hc:(A&&(Ha x&&x.items.all (YI x)))&&Qp (Y9 x.free) i
   ·simp only[e2,cond_true,cond_false,Qa,seval];exact Ac.go hi hli rfl (by rw[hc];rfl)
   cases a1:decide (y.lo≥0)
   ·simp only[a1,e2,cond_true,cond_false,eE,seval];exact Ac.go hi hli rfl (by rw[hc,hq,a1];rfl)
   cases a2:decide (y.hi≤2147483647)
   ·simp only[a1,a2,e2,cond_true,cond_false,eE,seval];exact Ac.go hi hli rfl (by rw[hc,hq,a1,a2];rfl)
   cases a3:decide (y.lo≤y.hi)
   ·simp only[a1,a2,a3,e2,cond_true,cond_false,eE,seval];exact Ac.go hi hli rfl (by rw[hc,hq,a1,a2,a3];rfl)
   cases i with
   |zero=>
    have d0:(((0:Nat):Int)==0)=true:=rfl;simp only[a1,a2,a3,d0,e2,cond_true,cond_false,eE,Nat.reduceBEq,↓reduceIte,Nat.reduceAdd];exact Ac.go hi hli rfl (by rw[hc,hq,a1,a2,a3];rfl)
   |succ n=>
    obtain⟨z,hz⟩:∃z,x.free[n]? = some z:=⟨x.free[n]'(by omega),Qmv (by omega)⟩;have hgz:(x.free.map fun n=>AV.agg n.cells)[n]? = some (.agg [.int .i64 z.lo,.int .i64 z.hi]):=Q4 Z9 hz;have d0:(((n+1:Nat):Int)==0)=false:=by rw[Qoi];omega
    have wn:=H2 n _ hli hxo.len2;simp only[a1,a2,a3,d0,wn,Qv,QnY,Qf,hgz,e2,cond_true,cond_false,eE,seval];exact Ac.go hi hli rfl (by rw[hc,hq,a1,a2,a3,K9 hz hy];rfl)
  have he2:Qp (Y9 x.free) i=(x.free.all Nq&&ZR x.free FJ):=(Ji (fun i hi=>absurd hi (QoC i)) hi hli).trans (MU _);simp only[QI hli,he2,e1,Qa,seval];exact Ac.go hk hlt rfl (by
   rw[hA,Xs hx];unfold YJ;cases A<;>cases x.free.all Nq<;>cases ZR x.free FJ<;>cases Ha x<;>cases x.items.all (YI x)<;>rfl)
 simp only[QI hlt,Zg hk hlt,hn,Qa,seval]

section
variable (k kd:Int)(b:Nat)(t:List UInt8)(l p s r:List AV)(ht:t.length+8≤maxLen)

end

section
variable {M:Nat}(P:PL)(hP:P.ok M)(k tg kd:Int)(b:Nat)(t:List UInt8)(l p s r:List AV)(ht:t.length+8≤maxLen)(hs:s.length≤140737488351232)(hr:r.length≤140737488351232)

end
end Go.Proofs.YtkhpgmeokilhaaaGreatDoor.Va

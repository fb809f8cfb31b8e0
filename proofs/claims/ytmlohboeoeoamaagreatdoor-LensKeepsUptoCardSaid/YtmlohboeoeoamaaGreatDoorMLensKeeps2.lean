/- Parts of the proof, in order. -/
import Derived.Test.YtmlohboeoeoamaaGreatDoorRows
import Derived.Test.YtmlohboeoeoamaaGreatDoorProg
import Derived.Lib.IndexLaws
import Derived.Test.YtmlohboeoeoamaaGreatDoorMLensKeeps1

namespace Go.Proofs.YtmlohboeoeoamaaGreatDoor.Br
open Go Am Go.RowKit Go.WideShapes Go.ChangeShapes Go.ChangeAt Go.Joins Go.Deep Go.WideElems Go.Maps

def Zg:List AV→AV
 | [x]=>x
 |l=>.agg l

def BN (P:Program):Nat→List Field→Nat→Bool
 |o,[],n=>Nat.beq o n
 |o,f :: fs,n=>Nat.beq f.offset o&&BN P (o+P.cellsOf f.type) fs n

def AQ (P:Program)(ts:List TypeId)(t:TypeId):Bool :=
 match P.underlying t with
 |some (.int _)|some .bool|some .string=>P.cellsOf t==1
 |some (.struct fs)=>BN P 0 fs.toList (P.cellsOf t)&&fs.toList.all fun f=>ts.contains f.type
 |some (.slice e)=>P.cellsOf t==1&&(decide (0<P.cellsOf e)&&decide (0<P.bytesOf e))&&ts.contains e
 |_=>false
def Mf (P:Program)(ts:List TypeId):Bool:=ts.all (AQ P ts)

def Xy (P:Program)(M:Nat):Nat→TypeId→List AV→Prop
 |0,_,_=>False
 |k+1,t,cs=>match P.underlying t with
  |some (.int ik)=>∃n,cs=[.int ik n]∧(Lit.int ik n).wf=true
  |some .bool=>∃b,cs=[.bool b]
  |some .string=>∃s,cs=[.str s]∧s.length≤M
  |some (.struct fs)=>HasL (Xy P M k) fs.toList cs
  |some (.slice e)=>∃l:List (List AV),cs=[.list (l.map Zg)]∧(l.length≤maxLen∧(M=reachBytes→l.length*P.bytesOf e≤M))∧(∀c∈l,Xy P M k e c)∧l.length≤M
  |_=>False
where
 HasL (h:TypeId→List AV→Prop):List Field→List AV→Prop
  | [],cs=>cs=[]
  |f :: fs,cs=>∃a b,cs=a++b∧h f.type a∧HasL h fs b

theorem Ft {l:List AV}(h:l.all AV.leaf=true):(Zg l).cells=l:=by
 match l,h with
 | [],_=>rfl
 | [x],h=>cases x<;>first|rfl|simp[AV.leaf]at h
 |_ :: _ :: _,_=>rfl

mutual
def wt:AV→Nat
 |.list l=>1+Z5 l
 |.agg l=>Z5 l
 |_=>1
def Z5:List AV→Nat
 | []=>0
 |x :: l=>wt x+Z5 l
end
theorem NX (a b:List AV):Z5 (a++b)=Z5 a+Z5 b:=by
 induction a with
 |nil=>simp[Z5]
 |cons x a ih=>simp only[QlK,Z5,ih];omega
theorem IA:∀l:List AV,wt (Zg l)=Z5 l
 | []=>by simp[Zg,wt]
 | [x]=>by simp[Zg,Z5]
 |_ :: _ :: _=>by simp[Zg,wt]

theorem GY {G:Gh}:∀ {ls:List (List AV)} {cs:List (List Value)},ls.length=cs.length→(∀i (h1:i<ls.length) (h2:i<cs.length),RepL G ls[i] cs[i])→RepL G ls.flatten cs.flatten
 | [],[],_,_=>.nil
 |l :: ls,c :: cs,hn,h=>by
  rw[List.flatten_cons,List.flatten_cons];exact RepL.append (h 0 xA xA) (GY (by simpa using hn) fun i h1 h2=>h (i+1) jC jA)
 | [],_ :: _,hn,_=>by simp at hn
 |_ :: _,[],hn,_=>by simp at hn

section
variable {H:Type}{enc:TypeId×Value→H}{P:Program}{W:World}{M:Nat}

theorem FM {d:DataW H}:∀ {l:List (DataW H)},d∈l→Rows.uptoBulk d≤Rows.uptoBulkAll l
 | [],h=>by cases h
 |x :: l,h=>by
  rw[Rows.uptoBulkAll];rcases QmM.1 h with rfl|h
  ·omega
  ·have:=FM h;omega

theorem IB (d:DataW H):1≤Rows.uptoBulk d:=by unfold Rows.uptoBulk;split<;>omega
theorem BO {x:AV}(h:wt x=1)(d:DataW H):Z5 [x]≤Rows.uptoBulk d:=by
 have:=IB d;rw[Z5,Z5,h];exact this
theorem IC (a b:List (DataW H)):Rows.uptoBulkAll (a++b)=Rows.uptoBulkAll a+Rows.uptoBulkAll b:=by
 induction a with
 |nil=>simp[Rows.uptoBulkAll]
 |cons x a ih=>simp only[QlK,Rows.uptoBulkAll,ih];omega
theorem Mg (F:Nat→List AV)(xs:List (DataW H))(h:∀i d,xs[i]? = some d→Z5 (F i)≤Rows.uptoBulk d):∀n,n≤xs.length→Z5 (((List.range n).map F).map Zg)≤Rows.uptoBulkAll (xs.take n)
 |0,_=>Qlx _
 |n+1,hn=>by
  have hx:xs[n]? = some xs[n]:=Qln xw;have:=Mg F xs h n xw;have h1:=h n _ hx;rw[List.range_succ,Qnf,Qnf,NX,Qng,hx,IC];simp only[QlW,Qmq,Z5,IA,Qnh,Rows.uptoBulkAll];omega

def AR (P:Program)(M:Nat)(t:TypeId)(d:DataW H):Prop:=M=maxLen∨(M≠reachBytes∧Rows.uptoBulk d≤M)∨(d.weights P t).all (·≤M)=true

theorem BP {t:TypeId}{d:DataW H}:∀ {ts:List TypeId} {ds:List (DataW H)} (i:Nat),(DataW.weightsEach P ts ds).all (·≤M)=true→ts[i]? = some t→ds[i]? = some d→(d.weights P t).all (·≤M)=true
 | [],_,_,_,h,_=>by simp at h
 |_ :: _,[],_,_,_,h=>by simp at h
 |t' :: ts,d' :: ds,0,h,h1,h2=>by
  rw[DataW.weightsEach,QmI,QlM]at h;cases h1;cases h2;exact h.1
 |t' :: ts,d' :: ds,i+1,h,h1,h2=>by
  rw[DataW.weightsEach,QmI,QlM]at h;exact BP i h.2 jC jA

theorem Ht {e:TypeId}{d:DataW H}:∀ {ds:List (DataW H)},(DataW.weightsAll P e ds).all (·≤M)=true→d∈ds→(d.weights P e).all (·≤M)=true
 | [],_,h=>by cases h
 |d' :: ds,h,hd=>by
  rw[DataW.weightsAll,QmI,QlM]at h;rcases QmM.1 hd with rfl|hd
  ·exact h.1
  ·exact Ht h.2 hd

def Opn (W:World)(hL:GG W)(h:List AV→Prop)(B n:Nat)(cs:List Value):Prop :=
 ∃avs,h avs∧RepL (Gh.world W hL) avs cs∧avs.length=n∧AV.rfL avs=true∧avs.all AV.leaf=true∧Z5 avs≤B

theorem Fu (hL:GG W){h:TypeId→List AV→Prop}{cs:List Value}:∀(fs:List Field) (ds:List (DataW H)) (o:Nat),BN P o fs cs.length=true→fs.length=ds.length→(∀(i:Nat) (f:Field) (d:DataW H),fs[i]? = some f→ds[i]? = some d→Opn W hL (h f.type) (Rows.uptoBulk d) (P.cellsOf f.type) ((cs.drop f.offset).take (P.cellsOf f.type)))→
  Opn W hL (Xy.HasL h fs) (Rows.uptoBulkAll ds) (cs.length-o) (cs.drop o)
 | [],_,o,hc,_,_=>by
  have e:o=cs.length:=Qli hc;refine⟨[],rfl,?_,by simp[e],rfl,rfl,Qlx _⟩;rw[e,List.drop_length];exact .nil
 |_ :: _,[],_,_,hl,_=>by simp at hl
 |f :: fs,d :: ds,o,hc,hl,hf=>by
  simp only[BN,QlM]at hc;have eo:f.offset=o:=Qli hc.1;obtain⟨a,a1,a2,a3,a4,a5,a6⟩:=hf 0 f d rfl rfl;obtain⟨b,b1,b2,b3,b4,b5,b6⟩:=Fu hL fs ds _ hc.2 kD fun i g d hg hd=>hf (i+1) g d (by simpa using hg) (by simpa using hd)
  rw[eo]at a2;refine⟨a++b,⟨a,b,rfl,a1,b1⟩,?_,?_,by rw[K6,a4,b4]<;>rfl,by rw[QmI,a5,b5]<;>rfl,by rw[NX,Rows.uptoBulkAll];omega⟩
  ·have:=RepL.append a2 b2
   rwa [←QlT,QmH]at this
  ·have hlen:a.length=((cs.drop o).take (P.cellsOf f.type)).length:=(RepL.length a2).symm;rw[Ql2,a3,b3];rw[a3,Qml,Ql5]at hlen;omega

theorem UX (hL:GG W){ts:List TypeId}(hP:Mf P ts=true):∀(k:Nat) (t:TypeId) (cs:List Value) (d:DataW H) (pl:List MemPlace),ts.contains t=true→DataW.trod enc P W 0 (fun _=>true) true k t cs=some (d,pl)→AR P M t d→
  Opn W hL (Xy P M k t) (Rows.uptoBulk d) (P.cellsOf t) cs
 |0,_,_,_,_,_,h,_=>by simp[DataW.trod]at h
 |k+1,t,cs,d,pl,ht,h,hb=>by
  have hp:=QlB.1 hP t qH;unfold AQ at hp;split at hp
  ·rename_i ik hu;obtain⟨v,rfl,_,hw⟩:=DataW.trod_int hu h;refine⟨[.int ik v],?_,.cons (.int ik v) .nil,v8,rfl,rfl,BO rfl _⟩;simp only[Xy,hu];exact⟨v,rfl,hw⟩
  ·rename_i hu;obtain⟨b,rfl,_⟩:=DataW.trod_bool hu h;refine⟨[.bool b],?_,.cons (.bool b) .nil,v8,rfl,rfl,BO rfl _⟩;simp only[Xy,hu];exact⟨b,rfl⟩
  ·rename_i hu;obtain⟨⟨⟨s⟩⟩,rfl,e,hw⟩:=DataW.trod_string hu h;have hw:s.length≤M:=by
    cases e;rcases hb with rfl|hb|hb
    ·exact hw
    ·replace hb:=hb.2;rw[Rows.uptoBulk]at hb;exact Qll (Nat.le_succ _) hb
    ·rw[DataW.weights]at hb
     simpa using hb
   refine⟨[.str s],?_,.cons (.str s) .nil,v8,rfl,rfl,BO rfl _⟩;simp only[Xy,hu];exact⟨s,rfl,hw⟩
  ·rename_i fs hu;simp only[QlM,QlB]at hp;obtain⟨xs,n',hk,e,hlen,hxl,hx⟩:=DataW.trod_struct hu h;obtain rfl:k=n':=xw
   have hbx:∀(i:Nat) x (f:Field),xs[i]? = some x→fs[i]? = some f→AR P M f.type x.1:=fun i x f hx hf=>by
    cases e;refine hb.imp id fun hb=>hb.imp (fun hb=>⟨hb.1,?_⟩) fun hb=>?_
    ·replace hb:=hb.2;rw[Rows.uptoBulk]at hb;have:=FM (l:=xs.map (·.1)) (QmK.2 ⟨x,QlC hx,rfl⟩);omega
    ·rw[DataW.weights,hu]at hb;exact BP i hb (by simp[hf]) qz
   have:=Fu hL (W:=W) (h:=Xy P M k) (cs:=cs) fs.toList (xs.map (·.1)) 0 (by rw[hlen];exact hp.1) (by simp[hxl]) (fun i f d hi hd=>by
    have hi':fs[i]? = some f:=we
    have hf:f∈fs.toList:=QlC hi;obtain⟨x,hxi,rfl⟩:∃x,xs[i]? = some x∧x.1=d:=by
     rw[QmN]at hd;obtain⟨x,h1,h2⟩:=Qlp.1 hd;exact⟨x,h1,h2⟩
    have h2:=hx i f hi';rw[hxi]at h2;exact UX hL hP k f.type _ _ _ (hp.2 f hf) h2 (hbx i _ f hxi hi'))
   rw[Ql6,Qmn,hlen]at this;obtain⟨avs,h1,h2,h3,h4,h5,h6⟩:=this;refine⟨avs,?_,h2,h3,h4,h5,by cases e;rw[Rows.uptoBulk];omega⟩;simp only[Xy,hu];exact h1
  ·rename_i e hu;simp only[QlM,Qlr,Qls]at hp;obtain⟨⟨h1,h0,hby⟩,hpe⟩:=hp;rcases DataW.trod_slice hu h with⟨rfl,_⟩|⟨a,len,cap,elems,rest,n',hk,rfl,e0,_,hl,hm,hln0,hel,_⟩
   ·refine⟨[.list []],?_,.cons (.list (cs:=[]) (sz:=0) .nil xA rfl rfl xA rfl (Qlx _) (Qlx _)) .nil,qn,rfl,rfl,BO rfl _⟩;simp only[Xy,hu];exact⟨[],rfl,⟨Qlx _,fun _=>xA⟩,xA,Qlx _⟩
   ·obtain rfl:k=n':=xw
    have hbx:∀x∈elems,AR P M e x.1:=fun x hx=>by
     cases e0;refine hb.imp id fun hb=>hb.imp (fun hb=>⟨hb.1,?_⟩) fun hb=>?_
     ·replace hb:=hb.2;rw[Rows.uptoBulk]at hb;have:=FM (l:=elems.map (·.1)) (QmK.2 ⟨x,hx,rfl⟩);omega
     ·rw[DataW.weights,hu,QmB,QmI,QlM,QlM]at hb;exact Ht hb.2.1 (QmK.2 ⟨x,hx,rfl⟩)
    have hlenM:len≤M:=by
     cases e0;rcases hb with rfl|hb|hb
     ·omega
     ·have key:∀l:List (DataW H),l.length≤Rows.uptoBulkAll l:=by
       intro l
       induction l with
       |nil=>simp
       |cons x l ih=>
        have:1≤Rows.uptoBulk x:=by unfold Rows.uptoBulk;split<;>omega
        rw[Rows.uptoBulkAll,QlD];omega
      replace hb:=hb.2;rw[Rows.uptoBulk]at hb;have:=key (elems.map (·.1));rw[Qmj]at this;omega
     ·rw[DataW.weights,hu,QmB,QlM]at hb;have h5:=hb.1;simp only[Qlr,Qmj]at h5;have h6:elems.length*1≤(elems.length+rest.length)*P.bytesOf e:=Nat.mul_le_mul (Nat.le_add_right _ _) hby;omega
    have hlenB:M=reachBytes→len*P.bytesOf e≤M:=fun hM=>by
     cases e0;rcases hb with rfl|hb|hb
     ·exact absurd hM (by unfold maxLen reachBytes;omega)
     ·exact absurd hM hb.1
     ·rw[DataW.weights,hu,QmB,QlM]at hb;have h5:=hb.1;simp only[Qlr,Qmj]at h5;have h6:elems.length*P.bytesOf e≤(elems.length+rest.length)*P.bytesOf e:=Nat.mul_le_mul (Nat.le_add_right _ _) (Qlk _);have h7:len*P.bytesOf e=elems.length*P.bytesOf e:=by rw[show len=elems.length by omega]
      omega
    haveI:Inhabited ({c:List Value // c.length=P.cellsOf e}×List AV):=⟨(⟨List.replicate (P.cellsOf e) (.bool false),xA⟩,[])⟩
    obtain⟨F,hF⟩:=choose_lt (α:={c:List Value // c.length=P.cellsOf e}×List AV) (n:=len) (p:=fun i x=>W.cells? 0 (a.add (i*P.cellsOf e)) (P.cellsOf e)=some x.1.1∧Xy P M k e x.2∧RepL (Gh.world W hL) x.2 x.1.1∧x.2.length=P.cellsOf e∧AV.rfL x.2=true∧x.2.all AV.leaf=true∧∀d,elems[i]? = some d→Z5 x.2≤Rows.uptoBulk d.1) (fun i hi=>by
     have hb:=hel i hi;rw[Qln xw]at hb;obtain⟨cs',c1,c2⟩:=Option.bind_eq_some_iff.1 hb;obtain⟨_,hln,_⟩:=World.cells?_some c1;obtain⟨avs,o1,o2,o3,o4,o5,o6⟩:=UX hL hP k e cs' _ _ hpe c2 (hbx _ (Qmg _));exact⟨(⟨cs',hln⟩,avs),c1,o1,o2,o3,o4,o5,fun d hd=>by
      rw[Qln xw]at hd;cases hd;exact o6⟩)
    have cellAt:∀i j,i<len→j<P.cellsOf e→W.cell? (a.add (i*P.cellsOf e+j))=(F i).1.1[j]?:=by
     intro i j hi hj;obtain⟨_,_,h3⟩:=World.cells?_some (hF i hi).1;rw[←h3 j hj,add_add]
    have hspot:0<len→a.spot=none:=by
     intro hc;have:=cellAt 0 0 hc h0;rw[Nat.zero_mul,show a.add (0+0)=a from rfl,Qln (by rw[(F 0).1.2];exact h0)]at this;unfold World.cell? at this;split at this
     ·split at this
      ·cases this
      ·rename_i h;simpa using h
     ·cases this
    have hel':∀c∈(List.range len).map (fun i=>(F i).2),∃i,i<len∧c=(F i).2:=by
     intro c hc;obtain⟨i,hi,rfl⟩:=QmK.1 hc;exact⟨i,QmZ.1 hi,rfl⟩
    have hflat:∀L:List (List AV),(∀c∈L,c.all AV.leaf=true)→QP (L.map Zg)=L.flatten:=by
     intro L
     induction L with
     |nil=>intro _;rfl
     |cons c L ih=>
      intro hh;show(Zg c).cells++QP (L.map Zg)=c++L.flatten;rw[Ft (hh c xA),ih fun x hx=>hh x qz]
    have hrf:∀L:List (List AV),(∀c∈L,AV.rfL c=true)→AV.rfL L.flatten=true:=by
     intro L
     induction L with
     |nil=>intro _;rfl
     |cons c L ih=>
      intro hh;rw[List.flatten_cons,K6,hh c xA,ih fun x hx=>hh x qz]<;>rfl
    have hlf:∀L:List (List AV),(∀c∈L,c.all AV.leaf=true)→L.flatten.all AV.leaf=true:=by
     intro L
     induction L with
     |nil=>intro _;rfl
     |cons c L ih=>
      intro hh;rw[List.flatten_cons,QmI,hh c xA,ih fun x hx=>hh x qz]<;>rfl
    have hl1:∀c∈(List.range len).map (fun i=>(F i).2),c.all AV.leaf=true:=fun c hc=>by
     obtain⟨i,hi,rfl⟩:=hel' c hc;exact(hF i hi).2.2.2.2.2.1
    have hl2:∀c∈(List.range len).map (fun i=>(F i).2),AV.rfL c=true:=fun c hc=>by
     obtain⟨i,hi,rfl⟩:=hel' c hc;exact(hF i hi).2.2.2.2.1
    have hwt:Z5 [.list (((List.range len).map fun i=>(F i).2).map Zg)]≤Rows.uptoBulk d:=by
     cases e0;have hw:=fun n hn=>Mg (fun i=>if i<len then(F i).2 else []) (elems.map (·.1)) (fun i d hd=>by
      rw[QmN]at hd;obtain⟨x,h1,rfl⟩:=Qlp.1 hd;by_cases hi:i<len
      ·rw[Qlv hi];exact(hF i hi).2.2.2.2.2.2 x h1
      ·rw[Qlu hi];exact Qlx _) n hn
     have h1:=hw len kz;rw[QlY kz]at h1;have h2:(List.range len).map (fun i=>if i<len then(F i).2 else [])=(List.range len).map fun i=>(F i).2:=by
      refine Qni fun i hi=>?_
      rw[Qlv (QmZ.1 hi)]
     rw[h2]at h1;rw[Z5,Z5,wt,Rows.uptoBulk];omega
    refine⟨[.list (((List.range len).map fun i=>(F i).2).map Zg)],?_,.cons (.list (cs:=((List.range len).map fun i=>(F i).1.1).flatten) (sz:=P.cellsOf e) ?_ ?_ ?_ ?_ ?_ xA hl xw) .nil,qn,rfl,rfl,hwt⟩
    ·simp only[Xy,hu];refine⟨_,rfl,⟨xD,fun hM=>by simpa using hlenB hM⟩,?_,by simpa using hlenM⟩;intro c hc;obtain⟨i,hi,rfl⟩:=hel' c hc;exact(hF i hi).2.1
    ·rw[hflat _ hl1];refine GY xA fun i g1 g2=>?_
     simp only[Qmj,List.length_range]at g1;simp only[List.getElem_map,List.getElem_range];exact(hF i xw).2.2.1
    ·intro x hx;obtain⟨c,hc,rfl⟩:=QmK.1 hx;rw[Ft (hl1 c hc)];obtain⟨i,hi,rfl⟩:=hel' c hc;exact(hF i hi).2.2.2.1
    ·rw[hflat _ hl1];exact hrf _ hl2
    ·rw[hflat _ hl1];exact hlf _ hl1
    ·intro j u hj;rw[←List.flatMap_def,Fs h0 (fun i=>(F i).1.2)]at hj;by_cases hi:j / P.cellsOf e<len
     ·rw[List.getElem?_range hi]at hj;have hj:(F (j / P.cellsOf e)).1.1[j % P.cellsOf e]? = some u:=hj;have hk:=cellAt (j / P.cellsOf e) (j % P.cellsOf e) xw (Nat.mod_lt _ h0);rw[hj,Nat.div_add_mod']at hk;have hs:=hspot (Nat.lt_of_le_of_lt (Qlx _) hi);obtain⟨b,o,s⟩:=a;subst hs;refine⟨b,o,rfl,?_⟩;refine DH ?_;show W.cell? ⟨b,o+j,none⟩=some u;rw[←hk];unfold Addr.add;split
      ·rename_i h;rw[h];rfl
      ·rfl
     ·rw[QmO xD]at hj;cases hj
  ·cases hp

theorem HZ {t:TypeId}{v:Value}{d:DataW H}{p:List MemPlace}(hl:laidOutB P=true)(hr:P.readableRec t=true)(hrow:t<P.types.size)(h:DataW.Trod enc P W 0 (fun _=>true) true t v d p) :
  ∀(W':World) (sp:Nat→Bool),Below W.heap.size W W'→(∀q∈p,sp q.block=true)→DataW.Trod enc P W' 0 sp true t v d p:=by
 intro W' sp hb hs;obtain⟨n,hn⟩:=h;exact Trod_stays hl hr hrow ⟨n,hn⟩ (fun x hx=>hb.same (DataW.trod_lt n _ _ _ hn x hx)) hs

theorem Fv (hL:GG W){t:TypeId}{fs:Array Field}{ts:List TypeId}{r:Reach}{b0:Nat}{v:Value}{d:DataW H}{p:List MemPlace}(hP:Mf P ts=true)(ht:ts.contains t=true)(hs:P.underlying t=some (.struct fs))(hv:Value.okWide P W r b0 t v)
  (h:DataW.Trod enc P W 0 (fun _=>true) true t v d p) (hb:AR P M t d):∃k avs,Xy P M k t avs∧Rep (Gh.world W hL) (.agg avs) v:=by
 obtain⟨⟨cs⟩,rfl,_⟩:=okWide_struct hs hv;obtain⟨n,hn⟩:=h;obtain⟨avs,h1,h2,_⟩:=UX hL hP n t _ _ _ ht hn hb;exact⟨n,avs,h1,.agg h2⟩
theorem V8 (hL:GG W){t:TypeId}{fs:Array Field}{ts:List TypeId}{r:Reach}{b0:Nat}{v:Value}{d:DataW H}{p:List MemPlace}(hP:Mf P ts=true)(ht:ts.contains t=true)(hs:P.underlying t=some (.struct fs))(hv:Value.okWide P W r b0 t v)
  (h:DataW.Trod enc P W 0 (fun _=>true) true t v d p) (hb:AR P M t d):∃k avs,Xy P M k t avs∧Rep (Gh.world W hL) (.agg avs) v∧Z5 avs≤Rows.uptoBulk d:=by
 obtain⟨⟨cs⟩,rfl,_⟩:=okWide_struct hs hv;obtain⟨n,hn⟩:=h;obtain⟨avs,h1,h2,_,_,_,h6⟩:=UX hL hP n t _ _ _ ht hn hb;exact⟨n,avs,h1,.agg h2,h6⟩

theorem Jq {X:Type}{f:X→List AV}{ok:X→Prop}:∀ {l:List (List AV)},(∀c∈l,∃x,ok x∧c=f x)→∃xs:List X,l=xs.map f∧∀x∈xs,ok x
 | [],_=>⟨[],rfl,xA⟩
 |c :: l,h=>by
  obtain⟨x,hx,rfl⟩:=h c xA;obtain⟨xs,rfl,hxs⟩:=Jq (l:=l) fun c hc=>h c v6
  exact⟨x :: xs,rfl,by simpa using ⟨hx,hxs⟩⟩

end

end Go.Proofs.YtmlohboeoeoamaaGreatDoor.Br

namespace Go.Proofs.YtmlohboeoeoamaaGreatDoor.Br
open Go Am

section
variable {P:Program}{M k:Nat}{t:TypeId}{cs:List AV}

theorem Zj {ik:IntKind}(hu:P.underlying t=some (.int ik))(h:Xy P M k t cs):∃n,cs=[.int ik n]∧(Lit.int ik n).wf=true:=by
 cases k with
 |zero=>cases h
 |succ k=>simpa only [Xy,hu]using h

theorem ID (hu:P.underlying t=some .bool)(h:Xy P M k t cs):∃b,cs=[.bool b]:=by
 cases k with
 |zero=>cases h
 |succ k=>simpa only [Xy,hu]using h

theorem K9 (hu:P.underlying t=some .string)(h:Xy P M k t cs):∃s,cs=[.str s]∧s.length≤M:=by
 cases k with
 |zero=>cases h
 |succ k=>simpa only [Xy,hu]using h

theorem KU {e:TypeId}(hu:P.underlying t=some (.slice e))(h:Xy P M k t cs):∃(k':Nat) (l:List (List AV)),cs=[.list (l.map Zg)]∧l.length≤maxLen∧∀c∈l,Xy P M k' e c:=by
 cases k with
 |zero=>cases h
 |succ k=>
  simp only[Xy,hu]at h;obtain⟨l,h1,h2,h3,_⟩:=h;exact⟨k,l,h1,h2.1,h3⟩

theorem Y8 {e:TypeId}(hu:P.underlying t=some (.slice e))(h:Xy P M k t cs):∃(k':Nat) (l:List (List AV)),cs=[.list (l.map Zg)]∧l.length≤M∧∀c∈l,Xy P M k' e c:=by
 cases k with
 |zero=>cases h
 |succ k=>
  simp only[Xy,hu]at h;obtain⟨l,h1,_,h3,h4⟩:=h;exact⟨k,l,h1,h4,h3⟩

theorem Z0 {fs:Array Field}(hu:P.underlying t=some (.struct fs))(h:Xy P M k t cs):∃k',Xy.HasL (Xy P M k') fs.toList cs:=by
 cases k with
 |zero=>cases h
 |succ k=>
  simp only[Xy,hu]at h;exact⟨k,h⟩

end

structure PO where
 num:Int
 name:List UInt8
 alias:List UInt8
 card:Int
 key:Int
 kind:Int
 target:Int
 union:Int

def PO.cells (o:PO):List AV:=[.int .i64 o.num,.str o.name,.str o.alias,.int .i64 o.card,.int .i64 o.key,.int .i64 o.kind,.int .i64 o.target,.int .i64 o.union]

structure PO.ok (M:Nat)(o:PO):Prop where
 num:(Lit.int .i64 o.num).wf=true
 name:o.name.length≤M
 alias:o.alias.length≤M
 card:(Lit.int .i64 o.card).wf=true
 key:(Lit.int .i64 o.key).wf=true
 kind:(Lit.int .i64 o.kind).wf=true
 target:(Lit.int .i64 o.target).wf=true
 union:(Lit.int .i64 o.union).wf=true

theorem Qdy {M k:Nat}{cs:List AV}(h:Xy Tryz.prog M k 43 cs):∃o:PO,o.ok M∧cs=o.cells:=by
 obtain⟨k,h⟩:=Z0 Tryz.underlying43 h;simp only[Xy.HasL]at h;obtain⟨_,_,rfl,h0,_,_,rfl,h1,_,_,rfl,h2,_,_,rfl,h3,_,_,rfl,h4,_,_,rfl,h5,_,_,rfl,h6,_,_,rfl,h7,rfl⟩:=h;obtain⟨a0,rfl,w0⟩:=Zj Tryz.underlying3 h0;obtain⟨a1,rfl,w1⟩:=K9 Tryz.underlying9 h1;obtain⟨a2,rfl,w2⟩:=K9 Tryz.underlying9 h2;obtain⟨a3,rfl,w3⟩:=Zj Tryz.underlying3 h3;obtain⟨a4,rfl,w4⟩:=Zj Tryz.underlying3 h4;obtain⟨a5,rfl,w5⟩:=Zj Tryz.underlying3 h5;obtain⟨a6,rfl,w6⟩:=Zj Tryz.underlying3 h6;obtain⟨a7,rfl,w7⟩:=Zj Tryz.underlying3 h7;exact⟨⟨a0,a1,a2,a3,a4,a5,a6,a7⟩,⟨w0,w1,w2,w3,w4,w5,w6,w7⟩,rfl⟩

structure PG where
 name:List UInt8
 ops:List PO
 unions:Int

def PG.cells (g:PG):List AV:=[.str g.name,.list (g.ops.map fun o=>.agg o.cells),.int .i64 g.unions]

structure PG.ok (M:Nat)(g:PG):Prop where
 name:g.name.length≤M
 len:g.ops.length≤maxLen
 ops:∀o∈g.ops,o.ok M
 unions:(Lit.int .i64 g.unions).wf=true

theorem IE {M k:Nat}{cs:List AV}(h:Xy Tryz.prog M k 48 cs):∃g:PG,g.ok M∧cs=g.cells:=by
 obtain⟨k,h⟩:=Z0 Tryz.underlying48 h;simp only[Xy.HasL]at h;obtain⟨_,_,rfl,h0,_,_,rfl,h1,_,_,rfl,h2,rfl⟩:=h;obtain⟨a0,rfl,w0⟩:=K9 Tryz.underlying9 h0;obtain⟨k',l,rfl,w1,hl⟩:=KU Tryz.underlying46 h1;obtain⟨a2,rfl,w2⟩:=Zj Tryz.underlying3 h2;obtain⟨ops,rfl,hok⟩:=Jq (f:=PO.cells) (ok:=PO.ok M) fun c hc=>Qdy (hl c hc)
 refine⟨⟨a0,ops,a2⟩,⟨w0,by simpa using w1,hok,w2⟩,?_⟩;simp only[PG.cells,Qnj,QlK,QlL];rfl

structure PS where
 lo:Int
 hi:Int

def PS.cells (x:PS):List AV:=[.int .i64 x.lo,.int .i64 x.hi]
def PS.ok (x:PS):Prop:=(Lit.int .i64 x.lo).wf=true∧(Lit.int .i64 x.hi).wf=true

theorem IF {M k:Nat}{cs:List AV}(h:Xy Tryz.prog M k 115 cs):∃x:PS,x.ok∧cs=x.cells:=by
 obtain⟨k,h⟩:=Z0 Tryz.underlying115 h;simp only[Xy.HasL]at h;obtain⟨_,_,rfl,h0,_,_,rfl,h1,rfl⟩:=h;obtain⟨a0,rfl,w0⟩:=Zj Tryz.underlying3 h0;obtain⟨a1,rfl,w1⟩:=Zj Tryz.underlying3 h1;exact⟨⟨a0,a1⟩,⟨w0,w1⟩,rfl⟩

structure PN where
 name:List UInt8
 val:List AV

def PN.cells (x:PN):List AV:=.str x.name :: x.val
def PN.ok (P:Program)(M:Nat)(t:TypeId)(x:PN):Prop:=x.name.length≤M∧∃k,Xy P M k t x.val

theorem Mh {M k:Nat}{cs:List AV}(h:Xy Tryz.prog M k 117 cs):∃x:PN,x.ok Tryz.prog M 32∧cs=x.cells:=by
 obtain⟨k,h⟩:=Z0 Tryz.underlying117 h;simp only[Xy.HasL]at h;obtain⟨_,_,rfl,h0,a1,_,rfl,h1,rfl⟩:=h;obtain⟨a0,rfl,w0⟩:=K9 Tryz.underlying9 h0;exact⟨⟨a0,a1⟩,⟨w0,k,h1⟩,by simp[PN.cells]⟩

structure PI where
 name:List UInt8
 num:Int
 notes:List PN

def PI.cells (x:PI):List AV:=[.str x.name,.int .i64 x.num,.list (x.notes.map fun n=>Zg n.cells)]

structure PI.ok (M:Nat)(x:PI):Prop where
 name:x.name.length≤M
 num:(Lit.int .i64 x.num).wf=true
 len:x.notes.length≤maxLen
 notes:∀n∈x.notes,n.ok Tryz.prog M 32

theorem IG {M k:Nat}{cs:List AV}(h:Xy Tryz.prog M k 112 cs):∃x:PI,x.ok M∧cs=x.cells:=by
 obtain⟨k,h⟩:=Z0 Tryz.underlying112 h;simp only[Xy.HasL]at h;obtain⟨_,_,rfl,h0,_,_,rfl,h1,_,_,rfl,h2,rfl⟩:=h;obtain⟨a0,rfl,w0⟩:=K9 Tryz.underlying9 h0;obtain⟨a1,rfl,w1⟩:=Zj Tryz.underlying3 h1;obtain⟨k',l,rfl,w2,hl⟩:=KU Tryz.underlying107 h2;obtain⟨ns,rfl,hok⟩:=Jq (f:=PN.cells) (ok:=PN.ok Tryz.prog M 32) fun c hc=>Mh (hl c hc)
 refine⟨⟨a0,a1,ns⟩,⟨w0,w1,qt,hok⟩,?_⟩;simp only[PI.cells,Qnj,QlK,QlL];rfl

structure PE where
 name:List UInt8
 opn:Bool
 items:List PI
 free:List PS
 notes:List PN

def PE.cells (x:PE):List AV:=[.str x.name,.bool x.opn,.list (x.items.map fun n=>.agg n.cells),.list (x.free.map fun n=>.agg n.cells),.list (x.notes.map fun n=>Zg n.cells)]

structure PE.ok (M:Nat)(x:PE):Prop where
 name:x.name.length≤M
 len1:x.items.length≤maxLen
 items:∀n∈x.items,n.ok M
 len2:x.free.length≤maxLen
 free:∀n∈x.free,n.ok
 len3:x.notes.length≤maxLen
 notes:∀n∈x.notes,n.ok Tryz.prog M 32

theorem IH {M k:Nat}{cs:List AV}(h:Xy Tryz.prog M k 109 cs):∃x:PE,x.ok M∧cs=x.cells:=by
 obtain⟨k,h⟩:=Z0 Tryz.underlying109 h;simp only[Xy.HasL]at h;obtain⟨_,_,rfl,h0,_,_,rfl,h1,_,_,rfl,h2,_,_,rfl,h3,_,_,rfl,h4,rfl⟩:=h;obtain⟨a0,rfl,w0⟩:=K9 Tryz.underlying9 h0;obtain⟨a1,rfl⟩:=ID Tryz.underlying4 h1;obtain⟨k2,l2,rfl,w2,hl2⟩:=KU Tryz.underlying105 h2;obtain⟨k3,l3,rfl,w3,hl3⟩:=KU Tryz.underlying106 h3;obtain⟨k4,l4,rfl,w4,hl4⟩:=KU Tryz.underlying107 h4;obtain⟨x2,rfl,o2⟩:=Jq (f:=PI.cells) (ok:=PI.ok M) fun c hc=>IG (hl2 c hc)
 obtain⟨x3,rfl,o3⟩:=Jq (f:=PS.cells) (ok:=PS.ok) fun c hc=>IF (hl3 c hc)
 obtain⟨x4,rfl,o4⟩:=Jq (f:=PN.cells) (ok:=PN.ok Tryz.prog M 32) fun c hc=>Mh (hl4 c hc)
 refine⟨⟨a0,a1,x2,x3,x4⟩,⟨w0,qt,o2,by simpa using w3,o3,by simpa using w4,o4⟩,?_⟩;simp only[PE.cells,Qnj,QlK,QlL];rfl

structure PL where
 progs:List PG
 enums:List PE

def PL.av (p:PL):AV:=.agg [.list (p.progs.map fun n=>.agg n.cells),.list (p.enums.map fun n=>.agg n.cells)]

structure PL.ok (M:Nat)(x:PL):Prop where
 len1:x.progs.length≤maxLen
 progs:∀n∈x.progs,n.ok M
 len2:x.enums.length≤maxLen
 enums:∀n∈x.enums,n.ok M

theorem Mi {M k:Nat}{cs:List AV}(h:Xy Tryz.prog M k 25 cs):∃x:PL,x.ok M∧.agg cs=x.av:=by
 obtain⟨k,h⟩:=Z0 Tryz.underlying25 h;simp only[Xy.HasL]at h;obtain⟨_,_,rfl,h0,_,_,rfl,h1,rfl⟩:=h;obtain⟨k2,l2,rfl,w2,hl2⟩:=KU Tryz.underlying22 h0;obtain⟨k3,l3,rfl,w3,hl3⟩:=KU Tryz.underlying23 h1;obtain⟨x2,rfl,o2⟩:=Jq (f:=PG.cells) (ok:=PG.ok M) fun c hc=>IE (hl2 c hc)
 obtain⟨x3,rfl,o3⟩:=Jq (f:=PE.cells) (ok:=PE.ok M) fun c hc=>IH (hl3 c hc)
 refine⟨⟨x2,x3⟩,⟨qt,o2,by simpa using w3,o3⟩,?_⟩;simp only[PL.av,Qnj,QlK,QlL];rfl

end Go.Proofs.YtmlohboeoeoamaaGreatDoor.Br

namespace Go.Proofs.YtmlohboeoeoamaaGreatDoor.Am
open Go

variable {P:Program}{m:Qk}

def Ag {α:Type}(f:Nat→α)(L:List (Nat×α)):Prop:=L.map (fun p=>f p.1)=L.map Prod.snd
theorem Ag.iff {α:Type}{f:Nat→α}{L:List (Nat×α)}:Ag f L↔∀q∈L,f q.1=q.2:=List.map_inj_left
def XL {α:Type}:List (Nat×α)→(Nat→α)→Nat→α
 | [],f=>f
 |p :: L,f=>QJ (XL L f) p.1 p.2
theorem II {α:Type}{f:Nat→α}{d:Nat}{x:α}(h:f d=x):QJ f d x=f:=by
 funext i;by_cases e:i=d
 ·rw[e,QZ,h]
 ·rw[Q6 _ _ e]
theorem Hu {α:Type}{f:Nat→α}:∀ {L:List (Nat×α)},Ag f L→XL L f=f
 | [],_=>rfl
 |q :: L,h=>by
  rw[Ag.iff]at h;rw[XL,Hu (Ag.iff.2 fun x hx=>h x (QlE _ hx))];exact II (h q QlG)

def Ix {X:Type}(L:X→List (Nat×AV))(O:X→List (Nat×Ob))(l:List Nat)(mu:X→Nat)(p:X→Prop)(mm:X→Qk)(n:Nat)(st:St):Prop :=
 ∃x f fr,st=⟨f,fr :: mm x,[]⟩∧n=mu x∧p x∧Ag f (L x)∧Ag fr (O x)∧(l.all fun s=>!(fr s).isRow)=true
theorem Ix.go {X:Type}{L:X→List (Nat×AV)}{O:X→List (Nat×Ob)}{l:List Nat}{mu:X→Nat}{p:X→Prop}{mm:X→Qk}(x:X){n:Nat}{f:Fr}{fr:Nat→Ob}(hn:mu x<n)(hp:p x)(hf:Ag f (L x):=by exact rfl)(ho:Ag fr (O x):=by exact rfl)(hr:(l.all fun s=>!(fr s).isRow)=true:=by exact rfl) :
  ∃k,k<n∧Ix L O l mu p mm k ⟨f,fr :: mm x,[]⟩:=⟨mu x,hn,x,f,fr,rfl,rfl,hp,hf,ho,hr⟩

theorem Hv {X:Type}{a:RC}{Q:Exit→St→Prop}{f:Fr}{fr:Nat→Ob}(L:X→List (Nat×AV))(O:X→List (Nat×Ob))(l:List Nat)(mu:X→Nat)(p:X→Prop)(mm:X→Qk)(x0:X)(hp:p x0)
  (h:∀x f fr,p x→QU P a ⟨XL (L x) f,XL (O x++l.map fun s=>(s,.none)) fr :: mm x,[]⟩ (Kl (Ix L O l mu p mm) (mu x) Q))
  (hf:Ag f (L x0):=by exact rfl) (ho:Ag fr (O x0):=by exact rfl) (hr:(l.all fun s=>!(fr s).isRow)=true:=by exact rfl) (hm:m=mm x0:=by exact rfl)
  (hs:∀x,(L x).map (fun q=>GW l q.2)=(L x).map Prod.snd:=by exact fun _=>rfl) (ht:∀x,(O x).map (fun q=>(l.contains q.1,HX l q.2))=(O x).map fun q=>(false,q.2):=by exact fun _=>rfl):QU P (.loop (DO l a)) ⟨f,fr :: m,[]⟩ Q:=by
 subst hm;refine Qi (Ix L O l mu p mm) (mu x0) ⟨x0,f,fr,rfl,rfl,hp,hf,ho,hr⟩ ?_;rintro _ _ ⟨x,f1,fr1,rfl,rfl,hp,hf,ho,hr⟩;refine QL l (fun s hs=>by simpa using QlB.1 hr s hs) ?_;intro f2 fr2 h1 h2 h3;have e1:Ag f2 (L x):=Ag.iff.2 fun q hq=>by
  rw[h1,Ag.iff.1 hf q hq];exact List.map_inj_left.1 (hs x) q hq
 have e2:Ag fr2 (O x++l.map fun s=>(s,.none)):=Ag.iff.2 fun q hq=>by
  rcases QmJ.1 hq with hq|hq
  ·have:=List.map_inj_left.1 (ht x) q hq;simp only[QmV]at this;rw[h2 _ (fun hi=>by rw[List.contains_iff_mem.2 hi]at this;cases this.1),Ag.iff.1 ho q hq];exact this.2
  ·obtain⟨s,hs,rfl⟩:=QmK.1 hq;exact h3 s hs
 have:=h x f2 fr2 hp;rw[Hu e1,Hu e2]at this;exact this

theorem XS {α:Type}(l:List α)(i:Nat):(∃x,l[i]? = some x∧i<l.length)∨¬i<l.length:=by
 by_cases h:i<l.length
 ·exact .inl ⟨l[i],Qln h,h⟩
 ·exact .inr h

end Go.Proofs.YtmlohboeoeoamaaGreatDoor.Am

set_option linter.unusedSimpArgs false
namespace Go.Proofs.YtmlohboeoeoamaaGreatDoor.Va
open Go Am Rc Bt Br

def Za {α:Type}(p:α→Bool):List α→Nat→Int
 | [],_=>-1
 |x :: l,i=>if p x=true then(i:Int)else Za p l (i+1)

theorem Yp {α:Type}(p:α→Bool):∀(l:List α) (i:Nat),(Za p l i = -1∧l.find? p=none)∨∃k o,Za p l i=((i+k:Nat):Int)∧l[k]? = some o∧l.find? p=some o
 | [],_=>.inl ⟨rfl,rfl⟩
 |x :: l,i=>by
  unfold Za;rw[Qnk];cases h:p x with
  |true=>exact .inr ⟨0,x,xA,rfl,rfl⟩
  |false=>
   simp only[QlH,if_false];rcases Yp p l (i+1)with h'|⟨k,o,h1,h2,h3⟩
   ·exact .inl h'
   ·exact .inr ⟨k+1,o,by rw[h1];congr 1;omega,jA,h3⟩

theorem FN {α:Type}(p:α→Bool){l:List α}{i:Nat}{x:α}(hx:l[i]? = some x):Za p (l.drop i) i=if p x=true then(i:Int)else Za p (l.drop (i+1)) (i+1):=by
 have hlt:i<l.length:=(Qlm.1 hx).1;rw[Ql7 hlt,show l[i]=x from(Qlm.1 hx).2];rfl

def Qu (o:PO):AV:=.agg o.cells
def Qm (g:PG):AV:=.agg g.cells
def XD (x:PI):AV:=.agg x.cells
def QC (x:PE):AV:=.agg x.cells

abbrev ixC (n:Nat)(s:Option Nat):RC:=.seq (.reg [⟨some 4,.val (.mov (.c (.int .i64 0))),none⟩]) (.seq (.seq (.reg [⟨some 6,.val (.mov (.t 0)),none⟩,⟨some 7,.val (.len 1 (.t 6)),none⟩,⟨some 8,.val (.mov (.c (.int .i64 0))),none⟩]) (.block 0 (.loop (.seq (.reg [⟨some 9,.val (.bin .num .lss (.t 8) (.t 7)),none⟩]) (.seq (.cond (.t 9) (.skip) (.exit 0)) (.seq (.block 1 (.seq (.reg [⟨some 10,.val (.mov (.t 8)),none⟩,⟨some 5,.val (.mov (.t 10)),none⟩]) (.seq (.reg [⟨some 11,.val (.mov (.t 1)),none⟩,⟨some 12,.val (.mov (.t 0)),none⟩,⟨some 13,.val (.mov (.t 5)),none⟩,⟨some 14,.val (.iaddr n none (.t 12) (.t 13)),none⟩,⟨some 15,.val (.load s (.t 14)),none⟩,⟨some 16,.callF (.t 11) [(.t 15)],none⟩]) (.cond (.t 16) (.seq (.reg [⟨some 17,.val (.mov (.t 5)),none⟩,⟨some 4,.val (.mov (.t 17)),none⟩]) (.ret)) (.skip))))) (.reg [⟨some 18,.val (.bin .num .add (.t 8) (.c (.int .i64 1))),none⟩,⟨some 8,.val (.mov (.t 18)),none⟩]))))))) (.seq (.reg [⟨some 4,.val (.mov (.c (.int .i64 (-1)))),none⟩]) (.ret)))
theorem GZ {X:Type}{L:List X}(hl:L.length≤maxLen){av:X→AV}{n:Nat}{s:Option Nat}(he:∀x,(av x).cells.length=n∧Am.part (av x).cells 0 s=some (av x)){p:X→Bool}{c:Nat}{cs:List AV}{m:Qk}(hc:∀o∈L,Qe Tryz.prog c (av o :: AV.shL cs) (Qb :: m) fun y m1=>y=.bool (p o)∧m1=Qb :: m) :
  QU Tryz.prog (ixC n s) (St.enter [.list (L.map av),.fn (.func c) [] cs] m) (ZI [.tmp 4] m.length fun y m1=>y=.int .i64 (Za p L 0)∧m1=m):=by
 let I:Nat→St→Prop:=fun j st=>∃f k,st=⟨f,Qb :: m,[]⟩∧j=L.length-k∧Za p L 0=Za p (L.drop k) k∧Ag f [(0,.list (L.map av)),(1,.fn (.func c) [] (AV.shL cs)),(7,.int .i64 (L.length:Nat)),(8,.int .i64 (k:Nat))]
 simp only[ixC,Qmj,Qa,seval];refine Qi I _ ⟨_,0,rfl,rfl,rfl,rfl⟩ ?_;rintro _ _ ⟨f,k,rfl,rfl,hz,hf⟩;rw[←Hu hf];simp only[XL,Qa,seval];rcases XS L k with⟨x,hx,hlt⟩|hlt
 case inr=>
  rw[Ql1 xw]at hz;simp only[QI hlt,hz,Za,Qa,seval]
 have hg:(L.map av)[k]? = some (av x):=by rw[QmN,hx];rfl
 have e1:=Qr k _ hlt hl;have hcl:=hc x (QlC hx);rw[FN p hx]at hz;simp only[QB hlt,Qp,QmS,Qf,hg,he,eE,seval];refine BG (fa:=[]) (fb:=AV.shL cs) rfl hcl rfl ?_;cases hp:p x
 ·rw[hp]at hz;simp only[e1,Qa,seval];exact⟨_,xw,_,k+1,rfl,rfl,by simpa using hz,rfl⟩
 ·rw[hp]at hz;simp only[if_true]at hz;simp only[hz,Qa,seval]

section ops
variable (L:List PO)(hl:L.length≤maxLen)(p:PO→Bool)(c:Nat)(cap:AV)(m:Qk)

include hl in
theorem QgT (hc:∀o∈L,Qe Tryz.prog c [Qu o,cap.sh] (Qb :: m) fun y m1=>y=.bool (p o)∧m1=Qb :: m) :
  Qe Tryz.prog 151 [.list (L.map Qu),.fn (.func c) [] [cap]] m fun y m1=>y=.int .i64 (Za p L 0)∧m1=m:=by
 refine wG Tryz.func151 ?_;simp only[eK,Tryz.f151,seval];exact GZ hl (av:=Qu) (n:=8) (s:=some 8) (cs:=[cap]) (fun _=>⟨rfl,rfl⟩) hc

end ops

def Uq:PO:=⟨0,[],[],0,0,0,0,0⟩
def BQ (p:PO→Bool)(L:List PO):AV:=.tup [Qu ((L.find? p).getD Uq),.bool (L.find? p).isSome]

theorem y99 (g:PG)(hl:g.ops.length≤maxLen)(p:PO→Bool)(c:Nat)(cap:AV)(m:Qk)(hc:∀fr,∀o∈g.ops,Qe Tryz.prog c [Qu o,cap.sh.sh] (Qb :: fr :: m) fun y m1=>y=.bool (p o)∧m1=Qb :: fr :: m) :
  Qe Tryz.prog 99 [.agg [.fn (.func c) [] [cap]],Qm g] m fun y m1=>y=BQ p g.ops∧m1=m:=by
 refine wG Tryz.func99 ?_;simp only[eK,Tryz.f99,seval];simp only[Qm,PG.cells,eE,seval];refine Qj (QgT g.ops hl p c cap.sh _ fun o ho=>hc _ o ho) (by simp only[QlW,Qmq,Qa,seval];rfl) ?_;rcases Yp p g.ops 0 with⟨h1,h2⟩|⟨j,o,h1,h2,h3⟩
 ·simp only[h1,BQ,h2,Qm4,Qme,Uq,Qu,PO.cells,splice,Qmy,QlL,Ql0,Ql6,QmE,Qms,QlD,Qmk,QmB,QmC,AV.leaf,eE,seval]
 ·have hj:(g.ops.map fun o=>AV.agg o.cells)[j]? = some (.agg o.cells):=wg
  have d:decide ((j:Int)<0)=false:=Qnl xw;rw[QlN]at h1;simp only[PO.cells]at hj;simp only[h1,d,Qp,QmS,Qf,QlN,hj,BQ,h3,QmA,Qnm,Qu,PO.cells,splice,Qmy,QlL,Ql0,Ql6,QmE,Qms,QlD,Qmk,QmB,QmC,AV.leaf,eE,seval]

section
variable (o:PO)(fr frO:Nat→Ob)

theorem y98 (n:Int)(hf:frO 3=.cells [.int .i64 n]):Qe Tryz.prog 98 [Qu o,.ptr 2 3 0] [Qb,fr,frO] fun y m1=>y=.bool (o.num==n)∧m1=[Qb,fr,frO]:=by
 refine wG Tryz.func98 ?_;simp only[eK,Tryz.f98,seval];simp only[hf,Qu,PO.cells,eE,seval]

end

theorem AS (g:PG)(hl:g.ops.length≤maxLen)(n:Int):Qh Tryz.prog 53 [Qm g,.int .i64 n] (BQ (fun o=>o.num==n) g.ops):=by
 refine wF Tryz.func53 ?_;simp only[eK,Tryz.f53,seval];simp only[Qm,PG.cells,eE,seval];refine Qj (y99 g hl (fun o=>o.num==n) 98 (.ptr 0 3 0) _ fun fr o _=>y98 o fr _ n xx) (by simp only[QlW,Qmq,Qm,PG.cells,Qa,seval]) ?_;simp only[BQ,Qu,PO.cells,splice,Qmy,QlL,Ql0,Ql6,QmE,Qms,QlD,Qmk,QmB,QmC,AV.leaf,eE,seval]

def Qt (p:Nat→Bool):Nat→Bool
 |0=>true
 |n+1=>Qt p n&&p n

theorem Q3 {p:Nat→Bool}{n:Nat}:Qt p n=true↔∀i,i<n→p i=true:=by
 induction n with
 |zero=>simp[Qt]
 |succ n ih=>
  simp only[Qt,QlM,ih]
  constructor
  ·rintro⟨h1,h2⟩ i hi;rcases Nat.lt_succ_iff_lt_or_eq.1 hi with h|rfl
   ·exact h1 i h
   ·exact h2
  ·intro h;exact⟨fun i hi=>h i xw,h n xw⟩

theorem SY {p:Nat→Bool}{n i:Nat}(hi:i<n)(h:p i=false):Qt p n=false:=by
 rw[Qnn];intro h';rw[Q3.1 h' i hi]at h;cases h

theorem FO {p q:Nat→Bool}{n:Nat}:Qt (fun i=>p i&&q i) n=(Qt p n&&Qt q n):=by
 induction n with
 |zero=>rfl
 |succ n ih=>
  simp only[Qt,ih];cases Qt p n<;>cases Qt q n<;>cases p n<;>cases q n<;>rfl

def Xg {α:Type}(l:List α)(q:α→Bool)(i:Nat):Bool:=match l[i]? with
 |some x=>q x
 |none=>true

theorem XM {α:Type}{l:List α}{q:α→Bool}{i:Nat}{x:α}(h:l[i]? = some x):Xg l q i=q x:=by
 unfold Xg;rw[h]

theorem H1 {α:Type}(l:List α)(q:α→Bool):Qt (Xg l q) l.length=l.all q:=by
 rw[Qmi,Q3,QlB]
 constructor
 ·intro h x hx;obtain⟨i,hi⟩:=QlA.1 hx;have:=h i (Qlm.1 hi).1
  rwa [XM hi]at this
 ·intro h i hi;rw[XM (Qln hi)];exact h _ (Qmg _)

def Zx {α:Type}(l:List α)(lt:α→α→Bool)(i:Nat):Bool:=match i with
 |0=>true
 |k+1=>match l[k]?,l[k+1]? with
  |some x,some y=>lt x y
  |_,_=>true

theorem WW {α:Type}{l:List α}{lt:α→α→Bool}{k:Nat}{x y:α}(h:l[k]? = some x)(h':l[k+1]? = some y):Zx l lt (k+1)=lt x y:=by
 unfold Zx;simp only[h,h']
theorem IJ {α:Type}{l:List α}{lt:α→α→Bool}:Zx l lt 0=true:=rfl

def Jk {α:Type}(l:List α)(lt:α→α→Bool):Bool:=Qt (Zx l lt) l.length

def uniq {α:Type}(l:List α)(nm:α→List UInt8)(i:Nat):Bool:=match l[i]? with
 |some x=>(l.take i).all fun y=>!(nm y==nm x)
 |none=>true
theorem DR {α:Type}{l:List α}{nm:α→List UInt8}{i:Nat}{x:α}(h:l[i]? = some x):uniq l nm i=(l.take i).all fun y=>!(nm y==nm x):=by
 unfold uniq;rw[h]
def Ur {α:Type}(l:List α)(nm:α→List UInt8):Bool:=Qt (uniq l nm) l.length

theorem H2 {α:Type}{l:List α}{q:α→Bool}{i:Nat}{x:α}(h:l[i]? = some x):(l.take (i+1)).all q=((l.take i).all q&&q x):=by
 rw[Qng,h];simp
theorem Mj {α:Type}{l:List α}{q:α→Bool}{i:Nat}{x:α}(h:l[i]? = some x):(l.take (i+1)).any q=((l.take i).any q||q x):=by
 rw[Qng,h];simp
theorem NY {α:Type}{l:List α}{q:α→Bool}:(l.all fun x=>!q x)=!l.any q:=by
 induction l with
 |nil=>rfl
 |cons x l ih=>simp[ih]

def Wl (c:UInt8):Bool:=(decide (97≤c.toNat)&&decide (c.toNat≤122))||(decide (65≤c.toNat)&&decide (c.toNat≤90))
def KA (c:UInt8):Bool:=Wl c||c.toNat==95||(decide (48≤c.toNat)&&decide (c.toNat≤57))
def Xq:List UInt8→Bool
 | []=>false
 |c :: t=>decide ((c :: t).length≤40)&&Wl c&&t.all KA
def H3:List (List UInt8):=[[109,101,115,115,97,103,101],[101,110,117,109],[115,101,114,118,105,99,101],[117,110,105,111,110],[109,97,112],[108,105,115,116],[114,101,113,117,105,114,101,100],[111,112,116,105,111,110,97,108],[112,108,97,105,110],[100,101,102,97,117,108,116],[114,101,115,101,114,118,101,100],
 [105,109,112,111,114,116],[115,112,97,99,101],[114,112,99],[115,116,114,101,97,109],[114,101,116,117,114,110,115],[111,112,101,110],[116,114,117,101],[102,97,108,115,101],[110,97,110],[105,110,102]]
def Je (s:List UInt8):Bool:=H3.any fun w=>s==w
def WX (s:List UInt8):Bool:=Xq s && !Je s
def Qo:List UInt8→List (List UInt8)
 | []=>[[]]
 |c :: t=>if c=46 then [] :: Qo t else match Qo t with
  | []=>[[c]]
  |p :: ps=>(c :: p) :: ps
def WY (s:List UInt8):Bool:=decide (s.length≤120)&&(Qo s).all Xq && !(Qo s).any Je

theorem Yq:∀s:List UInt8,Qo s≠[]
 | []=>by simp[Qo]
 |c :: t=>by
  unfold Qo;split
  ·simp
  ·split<;>simp

theorem VE (a:List UInt8):∀s:List UInt8,(∀c∈a,c≠46)→Qo (a++s)=match Qo s with
  | []=>[a]
  |p :: ps=>(a++p) :: ps:=by
 induction a with
 |nil=>intro s _;cases h:Qo s with
  |nil=>exact absurd h (Yq s)
  |cons p ps=>simp[h]
 |cons c a ih=>
  intro s h;have hc:c≠46:=h c xA;rw[QlK,Qo,Qlu hc,ih s fun x hx=>h x qz];cases hs:Qo s with
  |nil=>exact absurd hs (Yq s)
  |cons p ps=>rfl

theorem UY {s:List UInt8}(h:∀c∈s,c≠46):Qo s=[s]:=by
 have:=VE s [] h
 simpa [Qo]using this

theorem BR {a t:List UInt8}(h:∀c∈a,c≠46):Qo (a++46 :: t)=a :: Qo t:=by
 rw[VE a _ h,Qo,Qlv rfl];simp

theorem BS {a t:List UInt8}(h:∀c∈t,c≠46):Qo (a++46 :: t)=Qo a++[t]:=by
 induction a with
 |nil=>
  show Qo (46 :: t)=[[]]++[t];rw[show Qo (46 :: t)=[] :: Qo t from by rw[Qo,Qlv rfl],UY h];rfl
 |cons c a ih=>
  rw[QlK,Qo,Qo,ih];split
  ·rfl
  ·cases hs:Qo a with
   |nil=>exact absurd hs (Yq a)
   |cons p ps=>rfl

theorem G3 (s:List UInt8):(Qo s).length=s.count 46+1:=by
 induction s with
 |nil=>rfl
 |cons c t ih=>
  unfold Qo;split
  ·rename_i h;subst h;simp[ih]
  ·rename_i h;rw[List.count_cons_of_ne xQ];cases hs:Qo t with
   |nil=>exact absurd hs (Yq t)
   |cons p ps=>rw[hs]at ih;simpa using ih

def WZ (g:PG):Bool:=decide (g.ops.length≤64)
def Us (e:PE):Bool:=decide (1≤e.items.length)&&decide (e.items.length≤64)&&decide (e.free.length≤16)
def Fw (P:PL):Bool:=decide (P.progs.length≤64)&&decide (P.enums.length≤64)&&P.progs.all WZ&&P.enums.all Us
def Wu (g:PG):Bool:=WY g.name&&g.ops.all fun o=>WX o.name
def Hf (e:PE):Bool:=WY e.name&&e.items.all fun o=>WX o.name
def BT (P:PL):Bool:=P.progs.all Wu&&P.enums.all Hf
def Wf {α:Type}(f:α→Int)(x y:α):Bool:=decide (f x<f y)
def XN {α:Type}(f:α→List UInt8)(x y:α):Bool:=Op.bytesLess (f x) (f y)
def W0 (g:PG):Bool:=Jk g.ops (Wf PO.num)
def Hg (e:PE):Bool:=Jk e.items (Wf PI.num)
def G4 (P:PL):Bool:=Jk P.progs (XN PG.name)&&Jk P.enums (XN PE.name)&&P.progs.all W0&&P.enums.all Hg
def KV (P:PL)(g:PG):Bool:=(P.enums.all fun e=>!(e.name==g.name))&&Ur g.ops PO.name
def H4 (e:PE):Bool:=Ur e.items PI.name
def Mk (P:PL):Bool:=P.progs.all (KV P)&&P.enums.all H4
def Kw (o:PO):Bool:=decide (o.num≥1)&&decide (o.num≤65535)
def VF (x:PS):Bool:=decide (x.lo≥0)&&decide (x.hi≤2147483647)&&decide (x.lo≤x.hi)
def BU (x y:PS):Bool:=decide (y.lo > x.hi)
def kept (l:List PS)(n:Int):Bool:=l.any fun x=>decide (x.lo≤n)&&decide (n≤x.hi)
def Ut (e:PE)(x:PI):Bool:=decide (x.num≤2147483647) && !kept e.free x.num
def H5 (e:PE):Bool:=match e.items with
 | []=>true
 |x :: _=>x.num==0
def Uu (e:PE):Bool:=e.free.all VF&&Jk e.free BU&&H5 e&&e.items.all (Ut e)
def BW (P:PL):Bool:=P.progs.all (fun g=>g.ops.all Kw)&&P.enums.all Uu

def JH (x:PS):AV:=.agg x.cells
theorem G5 (e:PE):QC e=.agg [.str e.name,.bool e.opn,.list (e.items.map XD),.list (e.free.map JH),.list (e.notes.map fun n=>Zg n.cells)]:=rfl
theorem G6 (g:PG):Qm g=.agg [.str g.name,.list (g.ops.map Qu),.int .i64 g.unions]:=rfl
theorem G7 (o:PO):Qu o=.agg [.int .i64 o.num,.str o.name,.str o.alias,.int .i64 o.card,.int .i64 o.key,.int .i64 o.kind,.int .i64 o.target,.int .i64 o.union]:=rfl
theorem NZ (x:PI):XD x=.agg [.str x.name,.int .i64 x.num,.list (x.notes.map fun n=>Zg n.cells)]:=rfl
def J6 (x:List UInt8):AV:=.str x

theorem Wv {α:Type}(p:α→Bool)(l:List α):decide (Za p l 0≥0)=l.any p:=by
 exact zb

theorem G8 (k n:Nat)(h:k+1<n)(hn:n≤maxLen):IntKind.i64.wrap (((k+1:Nat):Int)-1)=(k:Int):=by
 rw[QA];simp only[maxLen]at hn;omega

section
variable (L:List PG)(hl:L.length≤maxLen)(p:PG→Bool)(c:Nat)(cs:List AV)(m:Qk)

include hl in
theorem z47 (hc:∀o∈L,Qe Tryz.prog c (Qm o :: AV.shL cs) (Qb :: m) fun y m1=>y=.bool (p o)∧m1=Qb :: m) :
  Qe Tryz.prog 47 [.list (L.map Qm),.fn (.func c) [] cs] m fun y m1=>y=.int .i64 (Za p L 0)∧m1=m:=by
 refine wG Tryz.func47 ?_;simp only[eK,Tryz.f47,seval];exact GZ hl (av:=Qm) (n:=3) (s:=(some 3)) (fun _=>⟨rfl,rfl⟩) hc

include hl in
theorem QgU (hc:∀o∈L,Qe Tryz.prog c (Qm o :: AV.shL (AV.shL cs)) (Qb :: Qb :: m) fun y m1=>y=.bool (p o)∧m1=Qb :: Qb :: m) :
  Qe Tryz.prog 263 [.list (L.map Qm),.fn (.func c) [] cs] m fun y m1=>y=.bool (L.any p)∧m1=m:=by
 refine wG Tryz.func263 ?_;simp only[eK,Tryz.f263,seval];simp only[Qa,seval];refine Qj (z47 L hl p c (AV.shL cs) _ hc) xB ?_;simp only[Wv,Qa,seval]

include hl in
theorem N0 (hc:∀o∈L,Qe Tryz.prog c (Qm o :: AV.shL (AV.shL (AV.shL cs))) (Qb :: Qb :: Qb :: m) fun y m1=>y=.bool (p o)∧m1=Qb :: Qb :: Qb :: m) :
  Qe Tryz.prog 172 [.list (L.map Qm),.fn (.func c) [] cs] m fun y m1=>y=.bool (L.any p)∧m1=m:=by
 refine wG Tryz.func172 ?_;simp only[eK,Tryz.f172,seval];simp only[Qa,seval];refine Qj (QgU L hl p c (AV.shL cs) _ hc) xB ?_;simp only[Qa,seval]

end

section
variable (L:List PO)(hl:L.length≤maxLen)(p:PO→Bool)(c:Nat)(cs:List AV)(m:Qk)

include hl in
theorem QgV (hc:∀o∈L,Qe Tryz.prog c (Qu o :: AV.shL cs) (Qb :: m) fun y m1=>y=.bool (p o)∧m1=Qb :: m) :
  Qe Tryz.prog 151 [.list (L.map Qu),.fn (.func c) [] cs] m fun y m1=>y=.int .i64 (Za p L 0)∧m1=m:=by
 refine wG Tryz.func151 ?_;simp only[eK,Tryz.f151,seval];exact GZ hl (av:=Qu) (n:=8) (s:=(some 8)) (fun _=>⟨rfl,rfl⟩) hc

include hl in
theorem QgW (hc:∀o∈L,Qe Tryz.prog c (Qu o :: AV.shL (AV.shL cs)) (Qb :: Qb :: m) fun y m1=>y=.bool (p o)∧m1=Qb :: Qb :: m) :
  Qe Tryz.prog 269 [.list (L.map Qu),.fn (.func c) [] cs] m fun y m1=>y=.bool (L.any p)∧m1=m:=by
 refine wG Tryz.func269 ?_;simp only[eK,Tryz.f269,seval];simp only[Qa,seval];refine Qj (QgV L hl p c (AV.shL cs) _ hc) xB ?_;simp only[Wv,Qa,seval]

include hl in
theorem Ml (hc:∀o∈L,Qe Tryz.prog c (Qu o :: AV.shL (AV.shL (AV.shL cs))) (Qb :: Qb :: Qb :: m) fun y m1=>y=.bool (p o)∧m1=Qb :: Qb :: Qb :: m) :
  Qe Tryz.prog 178 [.list (L.map Qu),.fn (.func c) [] cs] m fun y m1=>y=.bool (L.any p)∧m1=m:=by
 refine wG Tryz.func178 ?_;simp only[eK,Tryz.f178,seval];simp only[Qa,seval];refine Qj (QgW L hl p c (AV.shL cs) _ hc) xB ?_;simp only[Qa,seval]

end

section
variable (L:List PE)(hl:L.length≤maxLen)(p:PE→Bool)(c:Nat)(cs:List AV)(m:Qk)

include hl in
theorem QgX (hc:∀o∈L,Qe Tryz.prog c (QC o :: AV.shL cs) (Qb :: m) fun y m1=>y=.bool (p o)∧m1=Qb :: m) :
  Qe Tryz.prog 315 [.list (L.map QC),.fn (.func c) [] cs] m fun y m1=>y=.int .i64 (Za p L 0)∧m1=m:=by
 refine wG Tryz.func315 ?_;simp only[eK,Tryz.f315,seval];exact GZ hl (av:=QC) (n:=5) (s:=(some 5)) (fun _=>⟨rfl,rfl⟩) hc

include hl in
theorem QgY (hc:∀o∈L,Qe Tryz.prog c (QC o :: AV.shL (AV.shL cs)) (Qb :: Qb :: m) fun y m1=>y=.bool (p o)∧m1=Qb :: Qb :: m) :
  Qe Tryz.prog 264 [.list (L.map QC),.fn (.func c) [] cs] m fun y m1=>y=.bool (L.any p)∧m1=m:=by
 refine wG Tryz.func264 ?_;simp only[eK,Tryz.f264,seval];simp only[Qa,seval];refine Qj (QgX L hl p c (AV.shL cs) _ hc) xB ?_;simp only[Wv,Qa,seval]

include hl in
theorem FP (hc:∀o∈L,Qe Tryz.prog c (QC o :: AV.shL (AV.shL (AV.shL cs))) (Qb :: Qb :: Qb :: m) fun y m1=>y=.bool (p o)∧m1=Qb :: Qb :: Qb :: m) :
  Qe Tryz.prog 174 [.list (L.map QC),.fn (.func c) [] cs] m fun y m1=>y=.bool (L.any p)∧m1=m:=by
 refine wG Tryz.func174 ?_;simp only[eK,Tryz.f174,seval];simp only[Qa,seval];refine Qj (QgY L hl p c (AV.shL cs) _ hc) xB ?_;simp only[Qa,seval]

end

section
variable (L:List PI)(hl:L.length≤maxLen)(p:PI→Bool)(c:Nat)(cs:List AV)(m:Qk)

include hl in
theorem QgZ (hc:∀o∈L,Qe Tryz.prog c (XD o :: AV.shL cs) (Qb :: m) fun y m1=>y=.bool (p o)∧m1=Qb :: m) :
  Qe Tryz.prog 304 [.list (L.map XD),.fn (.func c) [] cs] m fun y m1=>y=.int .i64 (Za p L 0)∧m1=m:=by
 refine wG Tryz.func304 ?_;simp only[eK,Tryz.f304,seval];exact GZ hl (av:=XD) (n:=3) (s:=(some 3)) (fun _=>⟨rfl,rfl⟩) hc

include hl in
theorem Qg0 (hc:∀o∈L,Qe Tryz.prog c (XD o :: AV.shL (AV.shL cs)) (Qb :: Qb :: m) fun y m1=>y=.bool (p o)∧m1=Qb :: Qb :: m) :
  Qe Tryz.prog 242 [.list (L.map XD),.fn (.func c) [] cs] m fun y m1=>y=.bool (L.any p)∧m1=m:=by
 refine wG Tryz.func242 ?_;simp only[eK,Tryz.f242,seval];simp only[Qa,seval];refine Qj (QgZ L hl p c (AV.shL cs) _ hc) xB ?_;simp only[Wv,Qa,seval]

include hl in
theorem SZ (hc:∀o∈L,Qe Tryz.prog c (XD o :: AV.shL (AV.shL (AV.shL cs))) (Qb :: Qb :: Qb :: m) fun y m1=>y=.bool (p o)∧m1=Qb :: Qb :: Qb :: m) :
  Qe Tryz.prog 182 [.list (L.map XD),.fn (.func c) [] cs] m fun y m1=>y=.bool (L.any p)∧m1=m:=by
 refine wG Tryz.func182 ?_;simp only[eK,Tryz.f182,seval];simp only[Qa,seval];refine Qj (Qg0 L hl p c (AV.shL cs) _ hc) xB ?_;simp only[Qa,seval]

end

section
variable (L:List PS)(hl:L.length≤maxLen)(p:PS→Bool)(c:Nat)(cs:List AV)(m:Qk)

include hl in
theorem Qg1 (hc:∀o∈L,Qe Tryz.prog c (JH o :: AV.shL cs) (Qb :: m) fun y m1=>y=.bool (p o)∧m1=Qb :: m) :
  Qe Tryz.prog 357 [.list (L.map JH),.fn (.func c) [] cs] m fun y m1=>y=.int .i64 (Za p L 0)∧m1=m:=by
 refine wG Tryz.func357 ?_;simp only[eK,Tryz.f357,seval];exact GZ hl (av:=JH) (n:=2) (s:=(some 2)) (fun _=>⟨rfl,rfl⟩) hc

include hl in
theorem Qg2 (hc:∀o∈L,Qe Tryz.prog c (JH o :: AV.shL (AV.shL cs)) (Qb :: Qb :: m) fun y m1=>y=.bool (p o)∧m1=Qb :: Qb :: m) :
  Qe Tryz.prog 319 [.list (L.map JH),.fn (.func c) [] cs] m fun y m1=>y=.bool (L.any p)∧m1=m:=by
 refine wG Tryz.func319 ?_;simp only[eK,Tryz.f319,seval];simp only[Qa,seval];refine Qj (Qg1 L hl p c (AV.shL cs) _ hc) xB ?_;simp only[Wv,Qa,seval]

end

section
variable (L:List (List UInt8))(hl:L.length≤maxLen)(p:(List UInt8)→Bool)(c:Nat)(cs:List AV)(m:Qk)

include hl in
theorem Qg3 (hc:∀o∈L,Qe Tryz.prog c (J6 o :: AV.shL cs) (Qb :: m) fun y m1=>y=.bool (p o)∧m1=Qb :: m) :
  Qe Tryz.prog 316 [.list (L.map J6),.fn (.func c) [] cs] m fun y m1=>y=.int .i64 (Za p L 0)∧m1=m:=by
 refine wG Tryz.func316 ?_;simp only[eK,Tryz.f316,seval];exact GZ hl (av:=J6) (n:=1) (s:=none) (fun _=>⟨rfl,rfl⟩) hc

include hl in
theorem Qg4 (hc:∀o∈L,Qe Tryz.prog c (J6 o :: AV.shL (AV.shL cs)) (Qb :: Qb :: m) fun y m1=>y=.bool (p o)∧m1=Qb :: Qb :: m) :
  Qe Tryz.prog 266 [.list (L.map J6),.fn (.func c) [] cs] m fun y m1=>y=.bool (L.any p)∧m1=m:=by
 refine wG Tryz.func266 ?_;simp only[eK,Tryz.f266,seval];simp only[Qa,seval];refine Qj (Qg3 L hl p c (AV.shL cs) _ hc) xB ?_;simp only[Wv,Qa,seval]

end

abbrev riC (n:Nat):RC:=.seq (.reg [⟨some 4,.val (.mov (.c (.bool false))),none⟩]) (.seq (.seq (.reg [⟨some 5,.val (.mov (.c (.int .i64 1))),none⟩]) (.block 0 (.loop (.seq (.seq (.reg [⟨some 6,.val (.mov (.t 5)),none⟩,⟨some 7,.val (.mov (.t 0)),none⟩,⟨some 8,.val (.len 1 (.t 7)),none⟩,⟨some 9,.val (.bin .num .lss (.t 6) (.t 8)),none⟩]) (.cond (.t 9) (.skip) (.exit 0))) (.seq (.block 1 (.seq (.draw [⟨some 12,.val (.mov (.t 1)),none⟩,⟨some 13,.val (.mov (.t 0)),none⟩,⟨some 14,.val (.mov (.t 5)),none⟩,⟨some 15,.val (.bin .num .sub (.t 14) (.c (.int .i64 1))),none⟩,⟨some 16,.val (.iaddr n none (.t 13) (.t 15)),none⟩,⟨some 17,.val (.loadr (some n) (.t 16)),none⟩,⟨some 18,.val (.mov (.t 0)),none⟩,⟨some 19,.val (.mov (.t 5)),none⟩,⟨some 20,.val (.iaddr n none (.t 18) (.t 19)),none⟩,⟨some 21,.val (.loadr (some n) (.t 20)),none⟩,⟨some 22,.callF (.t 12) [(.t 17),(.t 21)],none⟩,⟨some 23,.val (.un .not (.t 22)),none⟩]) (.cond (.t 23) (.seq (.reg [⟨some 4,.val (.mov (.c (.bool false))),none⟩]) (.ret)) (.skip)))) (.reg [⟨some 10,.val (.mov (.t 5)),none⟩,⟨some 11,.val (.bin .num .add (.t 10) (.c (.int .i64 1))),none⟩,⟨some 5,.val (.mov (.t 11)),none⟩])))))) (.seq (.reg [⟨some 4,.val (.mov (.c (.bool true))),none⟩]) (.ret)))
theorem L7 {X:Type}{L:List X}(hl:L.length≤maxLen){av:X→AV}{n:Nat}(he:∀x,(av x).cells.length=n∧Am.part (av x).cells 0 (some n)=some (av x)){lt:X→X→Bool}{c:Nat}{cs:List AV}{m:Qk}(hc:∀x∈L,∀y∈L,Qe Tryz.prog c (av x :: av y :: AV.shL cs) (Qb :: m) fun r m1=>r=.bool (lt x y)∧m1=Qb :: m) :
  QU Tryz.prog (riC n) (St.enter [.list (L.map av),.fn (.func c) [] cs] m) (ZI [.tmp 4] m.length fun y m1=>y=.bool (Jk L lt)∧m1=m):=by
 let I:Nat→St→Prop:=fun j st=>∃f i,st=⟨f,Qb :: m,[]⟩∧j=L.length-(i+1)∧Qt (Zx L lt) (i+1)=true∧Ag f [(0,.list (L.map av)),(1,.fn (.func c) [] (AV.shL cs)),(5,.int .i64 ((i+1:Nat):Int))]
 simp only[riC,Qa,seval];refine Qi I _ ⟨_,0,rfl,rfl,rfl,rfl⟩ ?_;rintro _ _ ⟨f,i,rfl,rfl,hz,hf⟩;rw[←Hu hf];simp only[XL,Qmj,Qa,seval];rcases XS L (i+1)with⟨y,hy,hlt⟩|hlt
 case inr=>
  have hf:Jk L lt=true:=Q3.2 fun k hk=>Q3.1 hz k xw
  simp only[QI hlt,hf,Qa,seval]
 obtain⟨x,hx⟩:∃x,L[i]? = some x:=⟨L[i]' xw,Qln xw⟩;have hg:(L.map av)[i]? = some (av x):=by rw[QmN,hx];rfl
 have hh:(L.map av)[i+1]? = some (av y):=by rw[QmN,hy];rfl
 have hcl:=hc x (QlC hx) y (QlC hy);have e1:=Qr (i+1) _ hlt hl;have e2:=G8 i _ hlt hl;have hs:Qt (Zx L lt) (i+2)=lt x y:=by
  show(Qt (Zx L lt) (i+1)&&Zx L lt (i+1))=_;rw[hz,WW hx hy,Qm8]
 simp only[QB hlt,e2,Qp,QmS,Qf,hg,hh,he,eE,seval];refine BG (fa:=[]) (fb:=AV.shL cs) rfl hcl rfl ?_;cases hp:lt x y
 ·have hf:Jk L lt=false:=by
   rw[Qnn];intro h';rw[hp,Q3.2 fun k hk=>Q3.1 h' k xw]at hs;cases hs
  simp only[hf,Qa,seval]
 ·simp only[e1,Qa,seval];exact⟨_,xw,_,i+1,rfl,rfl,by rw[hs,hp],rfl⟩

theorem Qg5 (L:List PG)(hl:L.length≤maxLen)(lt:PG→PG→Bool)(c:Nat)(cs:List AV)(m:Qk)(hc:∀x∈L,∀y∈L,Qe Tryz.prog c (Qm x :: Qm y :: AV.shL cs) (Qb :: m) fun r m1=>r=.bool (lt x y)∧m1=Qb :: m) :
  Qe Tryz.prog 184 [.list (L.map Qm),.fn (.func c) [] cs] m fun y m1=>y=.bool (Jk L lt)∧m1=m:=by
 refine wG Tryz.func184 ?_;simp only[eK,Tryz.f184,seval];exact L7 hl (av:=Qm) (n:=3) (fun _=>⟨rfl,rfl⟩) hc

theorem Qg6 (L:List PO)(hl:L.length≤maxLen)(lt:PO→PO→Bool)(c:Nat)(cs:List AV)(m:Qk)(hc:∀x∈L,∀y∈L,Qe Tryz.prog c (Qu x :: Qu y :: AV.shL cs) (Qb :: m) fun r m1=>r=.bool (lt x y)∧m1=Qb :: m) :
  Qe Tryz.prog 189 [.list (L.map Qu),.fn (.func c) [] cs] m fun y m1=>y=.bool (Jk L lt)∧m1=m:=by
 refine wG Tryz.func189 ?_;simp only[eK,Tryz.f189,seval];exact L7 hl (av:=Qu) (n:=8) (fun _=>⟨rfl,rfl⟩) hc

theorem Qg7 (L:List PE)(hl:L.length≤maxLen)(lt:PE→PE→Bool)(c:Nat)(cs:List AV)(m:Qk)(hc:∀x∈L,∀y∈L,Qe Tryz.prog c (QC x :: QC y :: AV.shL cs) (Qb :: m) fun r m1=>r=.bool (lt x y)∧m1=Qb :: m) :
  Qe Tryz.prog 186 [.list (L.map QC),.fn (.func c) [] cs] m fun y m1=>y=.bool (Jk L lt)∧m1=m:=by
 refine wG Tryz.func186 ?_;simp only[eK,Tryz.f186,seval];exact L7 hl (av:=QC) (n:=5) (fun _=>⟨rfl,rfl⟩) hc

theorem Qg8 (L:List PI)(hl:L.length≤maxLen)(lt:PI→PI→Bool)(c:Nat)(cs:List AV)(m:Qk)(hc:∀x∈L,∀y∈L,Qe Tryz.prog c (XD x :: XD y :: AV.shL cs) (Qb :: m) fun r m1=>r=.bool (lt x y)∧m1=Qb :: m) :
  Qe Tryz.prog 192 [.list (L.map XD),.fn (.func c) [] cs] m fun y m1=>y=.bool (Jk L lt)∧m1=m:=by
 refine wG Tryz.func192 ?_;simp only[eK,Tryz.f192,seval];exact L7 hl (av:=XD) (n:=3) (fun _=>⟨rfl,rfl⟩) hc

def cl (c:Nat):Int:=if 97≤c∧c≤122 then 1 else if 65≤c∧c≤90 then 2 else if 48≤c∧c≤57 then 3 else if c=95 then 4 else 0

theorem Qg9 (c:Nat):Qh Tryz.prog 318 [.int .i32 (c:Nat)] (.int .i64 (cl c)):=by
 refine wF Tryz.func318 ?_;simp only[eK,Tryz.f318,seval];simp only[Qa,seval]
 repeat' (first|(refine QV (fun h=>?_) (fun h=>?_)<;>simp only[h,Qa,seval])|(refine XH (fun h=>?_) (fun h=>?_)<;>simp only[h,Ql,Qa,seval])|(refine XJ (fun h=>?_) (fun h=>?_)<;>simp only[h,Ql,eE,seval]))
 all_goals((try simp only[Qlr,Qns,Qls,Qne,ne_eq]at *)<;>unfold cl<;>(repeat' split)<;>first|rfl|(exfalso;omega))

theorem S0 {s:List UInt8}{i:Nat}{c:UInt8}(h:s[i]? = some c):(c.toNat<128→X6 s i=(c.toNat,1))∧(128≤c.toNat→128≤(X6 s i).1):=by
 have g0:(⟨⟨s⟩⟩:ByteArray).get! (i+0)=c:=by
  show(⟨s⟩:Array UInt8)[i+0]! = c;simp[h]
 constructor
 ·intro hc;simp only[X6,Utf8.decode,g0];rw[Qlv hc]
 ·intro hc;simp only[X6,Utf8.decode,g0];rw[Qlu xw]
  (repeat' split)<;>simp only[ge_iff_le,QlM,Qlr,Utf8.runeError]at *<;>omega

def pq (s:List UInt8)(j:Nat):Bool:=match s[j]? with
 |some c=>if j=0 then Wl c else KA c
 |none=>true
theorem UZ {s:List UInt8}{j:Nat}{c:UInt8}(h:s[j]? = some c):pq s j=if j=0 then Wl c else KA c:=by
 unfold pq;rw[h]

theorem Mm {c:UInt8}(h:Wl c=true):KA c=true:=by unfold KA;rw[h];rfl

theorem YH (s:List UInt8):Xq s=(decide (1≤s.length)&&decide (s.length≤40)&&Qt (pq s) s.length):=by
 cases s with
 |nil=>rfl
 |cons c t=>
  have h1:decide (1≤(c :: t).length)=true:=xA
  rw[h1,Qm8];show(decide ((c :: t).length≤40)&&Wl c&&t.all KA)=_;rw[Ql9];congr 1
  rw[Qmi,QlM,Q3,QlB]
  constructor
  ·rintro⟨h2,h3⟩ i hi;cases i with
   |zero=>rw[UZ (c:=c) rfl,Qlv rfl];exact h2
   |succ i=>
    have hlt:i<t.length:=we
    rw[UZ (c:=t[i]) (by simp[Qln hlt]),Qlu xw];exact h3 _ (Qmg _)
  ·intro h;refine⟨?_,fun x hx=>?_⟩
   ·have:=h 0 xA
    rwa [UZ (c:=c) rfl,Qlv rfl]at this
   ·obtain⟨i,hi⟩:=QlA.1 hx;have hlt:=(Qlm.1 hi).1;have:=h (i+1) qr
    rwa [UZ (c:=x) we,Qlu xw]at this

theorem Qfq {s:List UInt8}{i:Nat}{c:UInt8}(h:s[i]? = some c)(r:Nat)(hr:(c.toNat<128→r=c.toNat)∧(128≤c.toNat→128≤r)) :
  (cl r==0||((i:Int)==0&&(cl r != 1&&cl r != 2)))=!pq s i:=by
 rw[UZ h];obtain⟨h1,h2⟩:=hr;have hc:=c.toNat_lt;unfold cl Wl KA Wl;generalize c.toNat=x at *;by_cases hx:x<128
 ·have e:=h1 hx;subst e;by_cases hi:i=0
  ·subst hi;rw[Qlv rfl]
   (repeat' split)<;>simp<;>omega
  ·rw[Qlu hi];have hz:((i:Int)==0)=false:=xD
   rw[hz]
   (repeat' split)<;>simp<;>omega
 ·have:=h2 xw;have e:(if 97≤r∧r≤122 then(1:Int)else if 65≤r∧r≤90 then 2 else if 48≤r∧r≤57 then 3 else if r=95 then 4 else 0)=0:=by
   rw[Qlu xw,Qlu xw,Qlu xw,Qlu xw]
  rw[e];split<;>simp<;>omega

def PaI (s:List UInt8)(k:Nat)(st:St):Prop :=
 ∃f fr i,st=⟨f,[fr],[]⟩∧k=s.length-i∧i≤s.length∧Qt (pq s) i=true∧f 0=.str s∧f 7=.ptr 0 7 0∧fr 7=.iter (.str s) i

theorem Qdz (s:List UInt8):Qh Tryz.prog 270 [.str s] (.bool (Xq s)):=by
 refine wF Tryz.func270 ?_;simp only[eK,Tryz.f270,seval];simp only[Qa,seval];refine Vx rfl rfl ?_;simp only[Qa,seval];refine Qi (PaI s) s.length ⟨_,_,0,rfl,rfl,Qlx _,rfl,xx,xx,xx⟩ ?_;rintro _ st ⟨f,fr,i,rfl,rfl,hi,hx,h0,h7,m7⟩;simp only[Qa,seval];refine Vy xZ m7 (fun hlt=>?_) (fun hge=>?_)
 ·obtain⟨c,hc⟩:∃c,s[i]? = some c:=⟨s[i],Qln hlt⟩;obtain⟨u1,u2⟩:=S0 hc;have hcl:=Qg9 (X6 s i).1;have hq:=Qfq hc (X6 s i).1 ⟨fun h=>by rw[u1 h],u2⟩;have hw:pq s i=true→(X6 s i).2=1:=by
   intro h;rw[u1];rw[UZ hc]at h;have hp:KA c=true:=by
    split at h
    ·exact Mm h
    ·exact h
   unfold KA Wl at hp;simp at hp;omega
  generalize X6 s i=cw at hcl hq hw;obtain⟨r,w⟩:=cw;simp only[Qa,seval];refine aC hcl ?_;have hstep:Qt (pq s) (i+1)=pq s i:=by rw[Qt,hx,Qm8]
  have hend:pq s i=false→Xq s=false:=by
   intro h;rw[YH,SY hlt h,Qna]
  simp only at hq hw;generalize cl r=k at hq;cases hp:pq s i
  ·rw[hp]at hq;have he:=hend hp;simp only[he,Qa,seval];cases a1:(k==0)
   ·cases a2:((i:Int)==0)
    ·simp[a1,a2]at hq
    ·cases a3:(k != 1)
     ·simp[a1,a2,a3]at hq
     ·cases a4:(k != 2)
      ·simp[a1,a2,a3,a4]at hq
      ·simp only[a2,a3,a4,Qa,seval]
   ·simp only[Qa,seval]
  ·rw[hp]at hq;have hw:=hw hp;subst hw;simp only[Qa,seval];cases a1:(k==0)
   ·cases a2:((i:Int)==0)
    ·simp only[a2,Qa,seval];exact zi
    ·cases a3:(k != 1)
     ·simp only[a2,a3,Qa,seval];exact zi
     ·cases a4:(k != 2)
      ·simp only[a2,a3,a4,Qa,seval];exact zi
      ·simp[a1,a2,a3,a4]at hq
   ·simp[a1]at hq
 ·have hii:i=s.length:=xw
  subst hii;have e1:decide (((s.length:Nat):Int)≥1)=decide (1≤s.length):=jH
  have e2:decide (((s.length:Nat):Int)≤40)=decide (s.length≤40):=jH
  have e3:Xq s=(decide (1≤s.length)&&decide (s.length≤40)):=by rw[YH,hx,QmD]
  simp only[h0,e1,e3,Qa,seval];cases a1:decide (1≤s.length)<;>simp only[Qm8,QmW,h0,e2,Qa,seval]

theorem Qha (s:List UInt8):Qh Tryz.prog 268 [.str s] (.bool (Je s)):=by
 refine wF Tryz.func268 ?_;simp only[eK,Tryz.f268,seval];simp only[QS,Qa,seval];have e:Je s=H3.any fun w=>s==w:=rfl
 simp only[H3,List.any_cons,List.any_nil,Qnt]at e
 repeat' (first|(refine QV (fun h=>?_) (fun h=>?_)<;>simp only[h,QS,Qa,seval])|(refine XH (fun h=>?_) (fun h=>?_)<;>simp only[h,Ql,QS,eE,seval])|(refine XJ (fun h=>?_) (fun h=>?_)<;>simp only[h,Ql,QS,eE,seval]))
 all_goals exact xq

theorem Qhb (s:List UInt8):Qh Tryz.prog 355 [.str s,.str [46]] (.int .i64 (s.count 46:Nat)):=by
 refine wF Tryz.func355 ?_;simp only[eK,Tryz.f355,seval];have b0:(((1:Nat):Int)==0)=false:=rfl;have b1:(((1:Nat):Int)==1)=true:=rfl;have b2:([(46:UInt8)])[Int.toNat 0]? = some 46:=rfl;simp only[QlD,Qmk,QlN,Qa,seval];refine P9 rfl rfl ?_;simp only[Bq,Lib.countByte,Qa,seval]
 try rfl

theorem Qhc (s:List UInt8):Qh Tryz.prog 381 [.str s,.int .u8 46] (.int .i64 (Lib.indexByte s 46)):=by
 refine wF Tryz.func381 ?_;simp only[eK,Tryz.f381,seval];simp only[Qa,seval];refine P9 rfl rfl ?_;simp only[Bq,QlH,Qa,seval]
 try rfl

theorem Qhd (s:List UInt8):Qh Tryz.prog 374 [.str s,.str [46]] (.int .i64 (Lib.indexByte s 46)):=by
 refine Qdj.fn xA ?_;have b0:(((1:Nat):Int)==0)=false:=rfl;have b1:(((1:Nat):Int)==1)=true:=rfl;have b2:([(46:UInt8)])[Int.toNat 0]? = some 46:=rfl;have hk:=Qhc s;simp only[SU,Ax,Ay,Az,AA,AB,AC,AD,AE,AF,SU,Iw,QlD,Qmk,QlN,QS,Qa,seval];cases h:(([46]:List UInt8)==s)
 ·simp only[Qa,seval];refine aC hk ?_;simp only[Qa,seval]
 ·have hs:s=[46]:=by simpa using (Qls.1 h).symm
  subst hs;exact xu

theorem Qhe (s:List UInt8):Qh Tryz.prog 356 [.str s,.str [46]] (.int .i64 (Lib.indexByte s 46)):=by
 refine wF Tryz.func356 ?_;simp only[eK,Tryz.f356,seval];simp only[Qa,seval];refine aC (Qhd s) ?_;simp only[Qa,seval]

theorem AT {t:List UInt8}{o:Nat}(h:Lib.indexByte t 46=(o:Int)):o<t.length∧t=t.take o++46 :: t.drop (o+1)∧∀c∈t.take o,c≠46:=by
 obtain⟨h1,h2⟩:=Lib.indexByte_some h;have hlt:=(Qlm.1 h1).1;refine⟨hlt,?_,?_⟩
 ·have h3:t[o]=46:=(Qlm.1 h1).2;rw[←h3,←Ql7 hlt,QmH]
 ·intro c hc e;subst e;obtain⟨k,hk⟩:=QlA.1 hc;rw[Ql3]at hk;split at hk
  ·exact h2 k ‹_› hk
  ·cases hk

theorem IK {t:List UInt8}(h:Lib.indexByte t 46 = -1):Qo t=[t]:=by
 refine UY fun c hc e=>?_
 subst e;obtain⟨k,hk⟩:=QlA.1 hc;exact Lib.indexByte_none h k hk

theorem AU {t:List UInt8}{o:Nat}(h:Lib.indexByte t 46=(o:Int)):Qo t=t.take o :: Qo (t.drop (o+1)):=by
 obtain⟨_,h2,h3⟩:=AT h
 conv=>lhs;rw[h2]
 exact BR h3

theorem QdA (t:List UInt8):Lib.indexByte t 46 = -1∨∃o:Nat,Lib.indexByte t 46=(o:Int):=by
 have:=Lib.indexByte_ge t 46;by_cases h:Lib.indexByte t 46 = -1
 ·exact .inl h
 ·obtain⟨o,ho⟩:=Qnb (a:=Lib.indexByte t 46) xw;exact .inr ⟨o,ho⟩

def SpI (s:List UInt8)(n:Nat)(k:Nat)(st:St):Prop :=
 ∃f fr t done,st=⟨f,[fr],[]⟩∧k=(Qo t).length∧Qo s=done++Qo t∧n=done.length+(Qo t).length∧t.length≤s.length∧
  f 0=.str t∧f 1=.str [46]∧f 2=.int .i64 0∧f 3=.int .i64 ((n-1:Nat):Int)∧f 9=.vec 0 31 1 0 n false∧f 10=.int .i64 (done.length:Nat)∧fr 31=.vec 1 1 (done.map J6++List.replicate (Qo t).length (.str []))

theorem IM (done:List (List UInt8))(x:List UInt8)(n:Nat)(h:0<n):(done.map J6++List.replicate n (AV.str [])).set done.length (.str x)=(done++[x]).map J6++List.replicate (n-1) (AV.str []):=by
 obtain⟨k,rfl⟩:∃k,n=k+1:=⟨n-1,xw⟩;rw[List.set_append_right _ _ xA];simp[J6,List.replicate_succ]

theorem Qhf (s:List UInt8)(hs:s.length≤17592186044000):Qh Tryz.prog 317 [.str s,.str [46],.int .i64 0,.int .i64 (-1)] (.list ((Qo s).map J6)):=by
 have hl:=G3 s;have hc:s.count 46≤s.length:=List.count_le_length;have hm:(Qo s).length≤s.length+1:=xw
 have b0:((-1:Int)==0)=false:=rfl;have b1:decide ((-1:Int)<0)=true:=rfl;have e1:IntKind.i64.wrap ((s.count 46:Nat)+1:Int)=((Qo s).length:Nat):=xE
 have e2:IntKind.i64.wrap ((s.length:Nat)+1:Int)=((s.length+1:Nat):Int):=xE
 have e3':(((s.length+1:Nat):Int)<((Qo s).length:Nat))=False:=eq_false xw;have e4:IntKind.i64.wrap (((Qo s).length:Nat)-1:Int)=(((Qo s).length-1:Nat):Int):=xE
 have hz:ZS 1 [AV.str []]=.str []:=rfl;refine wF Tryz.func317 ?_;simp only[eK,Tryz.f317,seval];simp only[b0,QS,Qa,seval];have b2:(([46]:List UInt8)==[])=false:=rfl;simp only[b2,Qa,seval];refine aC (Qhb s) ?_;simp only[e1,e2,e3',Qa,seval];refine DL (n:=(Qo s).length) (k:=(Qo s).length) rfl rfl (Qlk _) xw xw rfl ?_;simp only[e4,hz,Qa,seval];refine Qi (SpI s (Qo s).length) _ ⟨_,_,s,[],rfl,rfl,rfl,xA,Qlk _,xx,xx,xx,xx,xx,xx,xx⟩ ?_;rintro _ st ⟨f,fr,t,done,rfl,rfl,hp,hn,ht,h0,h1,h2,h3,h9,h10,m31⟩;simp only[h3,h10,Qa,seval];have hpos:0<(Qo t).length:=QmL.2 (Yq t);have ia:Qf [fr] 1 none (.vec 0 31 1 0 (Qo s).length false) ((done.length:Nat):Int)=some (.vptr 0 31 1 done.length 0):=by
  have e:Am.Qc [fr] 0 31=.vec 1 1 (done.map J6++List.replicate (Qo t).length (.str [])):=m31;simp only[Qf,e,Qp,if_true,QmS];simp;omega
 have ist:∀x:List UInt8,Xp [fr] (.vptr 0 31 1 done.length 0) [.str x]=some [QJ fr 31 (.vec 1 1 ((done++[x]).map J6++List.replicate ((Qo t).length-1) (.str [])))]:=by
  intro x;have e:Am.Qc [fr] 0 31=.vec 1 1 (done.map J6++List.replicate (Qo t).length (.str [])):=m31;have hy:(done.map J6++List.replicate (Qo t).length (.str []))[done.length]? = some (.str []):=by
   rw[QmR xA];simp[hpos]
  have hx:JP (.str []) 0 [.str x]=.str x:=rfl;simp only[Xp,e,hy,if_true,←IM done x _ hpos];simp[AV.cells,AV.rfL,AV.rf,Am.put,hx]
 have ew:IntKind.i64.wrap ((done.length:Nat)+1:Int)=((done.length+1:Nat):Int):=xE
 rcases QdA t with hd|⟨o,ho⟩
 ·have hp1:=IK hd;have hl1:(Qo t).length=1:=by rw[hp1];rfl
  have d1:decide (((done.length:Nat):Int)<(((Qo s).length-1:Nat):Int))=false:=Qnl xw;have hi:=ist t;have hrow:(done++[t]).map J6++List.replicate ((Qo t).length-1) (AV.str [])=(Qo s).map J6:=by
   rw[hl1,hp,hp1];simp
  have hlen:done.length+1=(Qo s).length:=xw
  rw[hrow]at hi;rw[hlen]at ew;have hle:((Qo s).length≤(Qo s).length)=True:=eq_true (Qlk _);have ht:(((Qo s).map J6).drop 0).take (Qo s).length=(Qo s).map J6:=by rw[Ql6];exact QlY xA
  simp only[d1,ia,hi,h0,h9,h10,ew,eE,seval];simp only[Qp,if_true,QmS,Qlx,hle,Qmf,and_true,Qmn,Qme,Qnt,XC,QmA,Zw,Qnm];have el:Am.Qc [QJ fr 31 (Ob.vec 1 1 ((Qo s).map J6))] 0 31=.vec 1 1 ((Qo s).map J6):=QZ _ _ _;simp only[AV.still,el,Qm8,bne_self_eq_false,QlH,if_false,QlN,Qmj,hle,and_self,if_true,ht,Option.bind_some,AV.un,Qnm,QmA]
 ·have hp1:=AU ho;obtain⟨ho1,ho2,ho3⟩:=AT ho;have hl1:(Qo t).length=(Qo (t.drop (o+1))).length+1:=by rw[hp1];simp
  have hpos2:0<(Qo (t.drop (o+1))).length:=QmL.2 (Yq _);have d1:decide (((done.length:Nat):Int)<(((Qo s).length-1:Nat):Int))=true:=Qnr xw;have d2:decide ((o:Int)<0)=false:=Qnl xw;have w1:IntKind.i64.wrap ((o:Int)+0)=(o:Int):=xE
  have w2:IntKind.i64.wrap ((o:Int)+1)=((o+1:Nat):Int):=xE
  have hi:=ist (t.take o);simp only[d1,h0,h1,Qa,seval];refine aC (Qhe t) ?_;have hle1:(0≤o∧o≤t.length)=True:=eq_true ⟨Qlx _,xw⟩;have hle2:(o+1≤t.length∧t.length≤t.length)=True:=eq_true ⟨xw,Qlk _⟩;have ht2:(t.drop (o+1)).take (t.length-(o+1))=t.drop (o+1):=QlY xA;simp only[ho,d2,w1,w2,Qp,QmS,hle1,hle2,ht2,Qmn,h0,h1,h2,h9,h10,eE,seval];simp only[ia,hi,ew,Qa,seval];have hlen:(done++[t.take o]).length=done.length+1:=xA
  have hk:(Qo t).length-1=(Qo (t.drop (o+1))).length:=xw
  exact⟨(Qo (t.drop (o+1))).length,xw,_,_,t.drop (o+1),done++[t.take o],rfl,rfl,by rw[hp,hp1];simp,by rw[hlen];omega,xD,xx,xL,v9,xM,j7,by rw[hlen]<;>first|rfl|simp only[eE,seval],by rw[←hk]<;>exact QZ _ _ _⟩

def Mn (c:UInt8):Bool:=decide (97≤c.toNat)&&decide (c.toNat≤122)
def Mo (c:UInt8):Bool:=decide (65≤c.toNat)&&decide (c.toNat≤90)

theorem QdB (c:UInt8):Qh Tryz.prog 168 [.int .u8 (c.toNat:Nat)] (.bool (Mn c)):=by
 refine wF Tryz.func168 ?_;simp only[eK,Tryz.f168,seval];have e1:decide ((c.toNat:Int)≥97)=decide (97≤c.toNat):=jH
 have e2:decide ((c.toNat:Int)≤122)=decide (c.toNat≤122):=jH
 simp only[e1,Mn,Qa,seval];cases h:decide (97≤c.toNat)<;>simp only[e2,Qm8,QmW,Qa,seval]

theorem QdC (c:UInt8):Qh Tryz.prog 169 [.int .u8 (c.toNat:Nat)] (.bool (Mo c)):=by
 refine wF Tryz.func169 ?_;simp only[eK,Tryz.f169,seval];have e1:decide ((c.toNat:Int)≥65)=decide (65≤c.toNat):=jH
 have e2:decide ((c.toNat:Int)≤90)=decide (c.toNat≤90):=jH
 simp only[e1,Mo,Qa,seval];cases h:decide (65≤c.toNat)<;>simp only[e2,Qm8,QmW,Qa,seval]

theorem IN (c:UInt8):KA c=(Mn c||Mo c || !((c.toNat:Int) != 95) || !(decide ((c.toNat:Int)<48)||decide ((c.toNat:Int) > 57))):=by
 unfold KA Wl Mn Mo;generalize c.toNat=x;rw[Qmi];simp only[Qlq,QlM,Qlr,Qls,Qmm,bne_eq_false_iff_eq,Qmh,Qns];omega

def PrI (s:List UInt8)(k:Nat)(st:St):Prop :=
 ∃f i,st=⟨f,[Qb],[]⟩∧k=s.length-i∧1≤i∧Qt (pq s) i=true∧f 0=.str s∧f 3=.int .i64 (i:Nat)

theorem IP (s:List UInt8):Qh Tryz.prog 114 [.str s] (.bool (Xq s)):=by
 refine QgR.fn xA ?_;simp only[Qa,seval];by_cases hl:s.length=0
 ·have d0:((s.length:Int)==0)=true:=by rw[hl];rfl
  have e:Xq s=false:=by rw[YH,hl];rfl
  simp only[d0,e,Qa,seval]
 have d0:((s.length:Int)==0)=false:=qg
 by_cases hm:s.length≤40
 case neg=>
  have d1:decide ((s.length:Int) > 40)=true:=Qnr xw;have e:Xq s=false:=by rw[YH,Qnl hm,Qna,QmW]
  simp only[d0,d1,e,Qa,seval]
 have d1:decide ((s.length:Int) > 40)=false:=Qnl xw;have hp:Xq s=Qt (pq s) s.length:=by rw[YH,Qnr hm,Qnr (by omega:1≤s.length)];rfl
 obtain⟨c,hc⟩:∃c,s[0]? = some c:=⟨s[0]' xw,Qln xw⟩;have hq0:Qt (pq s) 1=(Mn c||Mo c):=by
  show(true&&pq s 0)=_;rw[UZ hc,Qlv rfl];rfl
 have h1:=QdB c;have h2:=QdC c;have hn:Qt (pq s) 1=false→Xq s=false:=fun h=>by
  rw[hp,Qnn];intro h';rw[Q3.2 fun k hk=>Q3.1 h' k xw]at h;cases h
 have z1:Int.toNat 0=0:=rfl;have go:Qt (pq s) 1=true→∀(f:Fr),f 0=.str s→f 3=.int .i64 1→∀Q:Exit→St→Prop,(∀f,Qt (pq s) s.length=true→Q (.exit 0) ⟨f,[Qb],[]⟩)→(∀f,f 2=.bool false→Qt (pq s) s.length=false→Q .ret ⟨f,[Qb],[]⟩)→QU Tryz.prog (.loop AG) ⟨f,[Qb],[]⟩ Q:=by
  intro hq1 f h0 h3 Q hx hr;refine Qi (PrI s) _ ⟨_,1,rfl,rfl,Qlk _,hq1,h0,h3⟩ ?_;clear h0 h3 hc hq0 h1 h2 hn;rintro _ st ⟨f,i,rfl,rfl,h1i,hx1,h0,h3⟩;simp only[h0,h3,Qa,seval];by_cases hlt:i<s.length
  ·obtain⟨c,hc⟩:∃c,s[i]? = some c:=⟨s[i],Qln hlt⟩;have e1:=Qr i _ hlt xC;have hs1:=QdB c;have hs2:=QdC c;have hstep:Qt (pq s) (i+1)=KA c:=by
    rw[Qt,hx1,Qm8,UZ hc,Qlu xw]
   have hend:KA c=false→Qt (pq s) s.length=false:=fun h=>by
    rw[Qnn];intro h';rw[Q3.2 fun k hk=>Q3.1 h' k xw]at hstep;rw[h]at hstep;cases hstep
   have fin:∀f':Fr,KA c=true→f' 0=.str s→f' 3=.int .i64 ((i+1:Nat):Int)→∃k,k<s.length-i∧PrI s k ⟨f',[Qb],[]⟩:=by
    intro f' hp h0 h3;exact⟨s.length-(i+1),xw,f',i+1,rfl,rfl,xw,by rw[hstep,hp],h0,h3⟩
   have hpc:=IN c;simp only[QB hlt,Qp,QmS,hc,h0,h3,Qa,seval];refine aC hs1 ?_;cases a1:Mn c
   ·simp only[Qp,QmS,hc,h0,h3,Qmx,Qa,seval];refine aC hs2 ?_;cases a2:Mo c
    ·cases a3:((c.toNat:Int) != 95)
     ·rw[a1,a2,a3]at hpc;simp only[a3,Qp,QmS,hc,h0,h3,e1,Qmx,Qa,seval];exact zQ
     ·cases a4:decide ((c.toNat:Int)<48)
      ·cases a5:decide ((c.toNat:Int) > 57)
       ·rw[a1,a2,a3,a4,a5]at hpc;simp only[a3,a4,a5,Qp,QmS,hc,h0,h3,e1,Qmx,Qa,seval];exact zQ
       ·rw[a1,a2,a3,a4,a5]at hpc;simp only[a3,a4,a5,Qp,QmS,hc,h0,h3,Qmx,Qa,seval];exact hr _ xx (hend (by rw[hpc];rfl))
      ·rw[a1,a2,a3,a4]at hpc;simp only[a3,a4,Qp,QmS,hc,h0,h3,Qmx,Qa,seval];exact hr _ xx (hend (by rw[hpc];rfl))
    ·rw[a1,a2]at hpc;simp only[h3,e1,Qm9,Qa,seval];exact zQ
   ·rw[a1]at hpc;simp only[h3,e1,Qm9,Qa,seval];exact zQ
  ·simp only[QI hlt,Qa,seval];exact hx _ (Q3.2 fun k hk=>Q3.1 hx1 k xw)
 simp only[d0,d1,z1,hc,Qa,seval];refine aC h1 ?_;cases a1:Mn c
 ·simp only[z1,hc,Qmx,Qa,seval];refine aC h2 ?_;cases a2:Mo c
  ·rw[a1,a2]at hq0;simp only[hn hq0,Qmx,Qa,seval]
  ·rw[a1,a2]at hq0;exact zN
 ·rw[a1,Qnc]at hq0;exact zN

theorem QdD (s:List UInt8):Qh Tryz.prog 113 [.str s] (.bool (Je s)):=by
 refine wF Tryz.func113 ?_;simp only[eK,Tryz.f113,seval];simp only[QS,Qa,seval];have e:Je s=H3.any fun w=>s==w:=rfl
 simp only[H3,List.any_cons,List.any_nil,Qnt]at e
 repeat' (first|(refine QV (fun h=>?_) (fun h=>?_)<;>simp only[h,QS,Qa,seval])|(refine XH (fun h=>?_) (fun h=>?_)<;>simp only[h,Ql,QS,eE,seval])|(refine XJ (fun h=>?_) (fun h=>?_)<;>simp only[h,Ql,QS,eE,seval]))
 all_goals exact xq

theorem z71 (s:List UInt8):Qh Tryz.prog 71 [.str s] (.bool (WX s)):=by
 refine wF Tryz.func71 ?_;simp only[eK,Tryz.f71,seval];simp only[WX,Qa,seval];refine aC (IP s) ?_;cases Xq s
 ·exact zC
 ·simp only[Qm8,Qa,seval];refine aC (QdD s) ?_;simp only[Qa,seval]

def FuI (s:List UInt8)(k:Nat)(st:St):Prop :=
 ∃f i p,st=⟨f,[Qb],[]⟩∧k=s.length-i∧i≤s.length∧p.length≤i∧(∀c∈p,c≠(46:UInt8))∧(Qo s).all Xq=(Qo (p++s.drop i)).all Xq∧f 0=.str s∧f 3=.str p∧f 4=.int .i64 (i:Nat)

theorem Qhg (s:List UInt8):Qh Tryz.prog 111 [.str s] (.bool (decide (s.length≤120)&&(Qo s).all Xq)):=by
 refine wF Tryz.func111 ?_;simp only[eK,Tryz.f111,seval];simp only[Qa,seval];by_cases hm:s.length≤120
 case neg=>
  have d1:decide ((s.length:Int) > 120)=true:=Qnr xw;simp only[d1,Qnl hm,QmW,Qa,seval]
 have d1:decide ((s.length:Int) > 120)=false:=Qnl xw;simp only[d1,Qnr hm,Qm8,Qa,seval];refine Qi (FuI s) _ ⟨_,0,[],rfl,rfl,Qlx _,Qlk _,xA,rfl,xx,xx,xx⟩ ?_;rintro _ st ⟨f,i,p,rfl,rfl,hi,hpl,hpd,hx,h0,h3,h4⟩;simp only[h0,h4,Qa,seval];by_cases hlt:i<s.length
 ·obtain⟨c,hc⟩:∃c,s[i]? = some c:=⟨s[i],Qln hlt⟩;have e1:=Qr i _ hlt xC;have hd:s.drop i=c :: s.drop (i+1):=by
   rw[Ql7 hlt];congr 1
   exact(Qlm.1 hc).2
  have hts:(s.drop i).take (i+1-i)=[c]:=by
   rw[hd,show i+1-i=1 by omega];rfl
  simp only[QB hlt,Qp,QmS,hc,h0,h4,Qa,seval];by_cases hdot:c=46
  ·subst hdot;have b0:((((46:UInt8).toNat:Nat):Int) != 46)=false:=rfl;have hs:(Qo s).all Xq=(Xq p&&(Qo (s.drop (i+1))).all Xq):=by
    rw[hx,hd,BR hpd];rfl
   simp only[h3,Qa,seval];refine aC (IP p) ?_;cases hp:Xq p
   ·rw[hp,QmW]at hs;simp only[hs,Qmx,Qa,seval]
   ·rw[hp,Qm8]at hs;simp only[h4,e1,Qm9,Qa,seval];exact⟨s.length-(i+1),xw,_,i+1,[],rfl,rfl,xw,Qlx _,xA,by rw[hs];rfl,xO,xx,xx⟩
  ·have b0:(((c.toNat:Nat):Int) != 46)=true:=by
    rw[QlR];exact yY
   have hle:(i≤i+1∧i+1≤s.length)=True:=eq_true ⟨xw,xw⟩;have hsum:(p.length≤9223372036854775806)=True:=eq_true xw;simp only[b0,h0,h3,h4,e1,Js,Jc,Xo,Qp,QmS,hle,hts,QS,hsum,Qa,seval];exact⟨s.length-(i+1),xw,_,i+1,p++[c],rfl,rfl,xw,xD,fun x hx=>by
    rcases QmJ.1 hx with h|h
    ·exact hpd x h
    ·simp at h;subst h;exact hdot,by rw[hx,hd];simp,xO,xx,xx⟩
 ·have hx':(Qo s).all Xq=Xq p:=by
   rw[hx,Ql1 xw,Qms,UY hpd];simp
  simp only[QI hlt,h3,hx',Qa,seval];refine aC (IP p) ?_;simp only[Qa,seval]

def Hh (s:List UInt8):Nat→Option Nat
 |0=>none
 |j+1=>if s[j]? = some 46 then some j else Hh s j

theorem G9 (s:List UInt8):∀n,match Hh s n with
  |none=>∀k,k<n→s[k]?≠some 46
  |some j=>j<n∧s[j]? = some 46∧∀k,j<k→k<n→s[k]?≠some 46
 |0=>by simp[Hh]
 |n+1=>by
  unfold Hh;split
  ·rename_i h;split at h
   ·cases h
   ·rename_i h';have:=G9 s n;rw[h]at this;intro k hk;rcases Nat.lt_succ_iff_lt_or_eq.1 hk with h1|rfl
    ·exact this k h1
    ·exact h'
  ·rename_i j h;split at h
   ·rename_i h';cases h;exact⟨xw,h',fun k h1 h2=>xw⟩
   ·rename_i h';have:=G9 s n;rw[h]at this;exact⟨xw,this.2.1,fun k h1 h2=>by
     rcases Nat.lt_succ_iff_lt_or_eq.1 h2 with h3|rfl
     ·exact this.2.2 k h1 h3
     ·exact h'⟩

def J7 (s:List UInt8):List UInt8×List UInt8:=match Hh s s.length with
 |none=>([],s)
 |some j=>(s.take j,s.drop (j+1))

theorem Mp (s:List UInt8):((J7 s).1=[]∧(J7 s).2=s∧∀c∈s,c≠46)∨(s=(J7 s).1++46 :: (J7 s).2∧∀c∈(J7 s).2,c≠46):=by
 have h:=G9 s s.length;unfold J7;cases hl:Hh s s.length with
 |none=>
  rw[hl]at h;refine .inl ⟨rfl,rfl,fun c hc e=>?_⟩;subst e;obtain⟨k,hk⟩:=QlA.1 hc;exact h k (Qlm.1 hk).1 hk
 |some j=>
  rw[hl]at h;obtain⟨h1,h2,h3⟩:=h;refine .inr ⟨?_,fun c hc e=>?_⟩
  ·have:s[j]=46:=(Qlm.1 h2).2;show s=s.take j++46 :: s.drop (j+1);rw[←this,←Ql7 h1,QmH]
  ·subst e;obtain⟨k,hk⟩:=QlA.1 hc;rw[Ql4]at hk;exact h3 (j+1+k) xw (Qlm.1 hk).1 hk

def SdI (s:List UInt8)(k:Nat)(st:St):Prop :=
 ∃f,st=⟨f,[Qb],[]⟩∧k≤s.length∧Hh s s.length=Hh s k∧f 0=.str s∧f 4=.int .i64 ((k:Int)-1)

theorem Qhh (s:List UInt8)(hs:s.length≤120):Qh Tryz.prog 112 [.str s] (.tup [.str (J7 s).1,.str (J7 s).2]):=by
 refine wF Tryz.func112 ?_;simp only[eK,Tryz.f112,seval];have w0:IntKind.i64.wrap ((s.length:Int)-1)=(s.length:Int)-1:=xE
 simp only[w0,Qa,seval];refine Qi (SdI s) _ ⟨_,rfl,Qlk _,rfl,xx,xx⟩ ?_;rintro k st ⟨f,rfl,hk,hx,h0,h4⟩;simp only[h4,Qa,seval];cases k with
 |zero=>
  have d0:decide (((0:Nat):Int)-1≥0)=false:=rfl;have e:J7 s=([],s):=by unfold J7;rw[hx];rfl
  simp only[e,h0,Qa,seval]
 |succ j=>
  have j1:((j+1:Nat):Int)-1=(j:Int):=xw
  have d0:decide (((j:Nat):Int)≥0)=true:=Qnr xw;have w1:IntKind.i64.wrap ((j:Int)-1)=(j:Int)-1:=xE
  have w2:IntKind.i64.wrap ((j:Int)+1)=((j+1:Nat):Int):=xE
  obtain⟨c,hc⟩:∃c,s[j]? = some c:=⟨s[j]' xw,Qln xw⟩;simp only[j1,Qp,QmS,hc,h0,h4,Qa,seval];by_cases hdot:c=46
  ·subst hdot;have b0:((((46:UInt8).toNat:Nat):Int)==46)=true:=rfl;have e:J7 s=(s.take j,s.drop (j+1)):=by
    unfold J7;rw[hx];show(match (if s[j]? = some 46 then some j else Hh s j)with|none=>([],s)|some j=>(s.take j,s.drop (j+1)))=_;rw[Qlv hc]
   have hle:(0≤j∧j≤s.length)=True:=eq_true ⟨xw,xw⟩;have hle2:(j+1≤s.length∧s.length≤s.length)=True:=eq_true ⟨xw,Qlk _⟩;have ht:((s.drop 0).take j)=s.take j:=xA
   have ht2:((s.drop (j+1)).take (s.length-(j+1)))=s.drop (j+1):=QlY xA;simp only[w2,j1,e,Js,Jc,Xo,Qmn,Qp,QmS,hle,hle2,ht2,h0,h4,Qa,seval]
  ·have b0:(((c.toNat:Nat):Int)==46)=false:=by
    rw[Qne];exact yY
   have hne:¬s[j]? = some 46:=fun h=>by rw[hc]at h;cases h;exact hdot rfl
   simp only[b0,j1,w1,h4,Qa,seval];exact⟨j,xw,_,rfl,xw,by rw[hx];show(if s[j]? = some 46 then some j else Hh s j)=_;rw[Qlu hne],xO,xx⟩

def AW (u:List UInt8):Bool:=if u=[]then false else(Qo u).any Je

def DfI (s:List UInt8)(k:Nat)(st:St):Prop :=
 ∃f u,st=⟨f,[Qb],[]⟩∧k=u.length∧u.length≤120∧(u≠[]→(Qo u).all Xq=true)∧(Qo s).any Je=AW u∧f 0=.str u

theorem z70 (s:List UInt8):Qh Tryz.prog 70 [.str s] (.bool (WY s)):=by
 refine wF Tryz.func70 ?_;simp only[eK,Tryz.f70,seval];simp only[WY,Qa,seval];refine aC (Qhg s) ?_;cases hf:(decide (s.length≤120)&&(Qo s).all Xq)
 ·exact z7
 simp only[Qm8,Qm9,Qa,seval];obtain⟨hl,ha⟩:=Qlo.1 hf;have hl:=of_decide_eq_true hl;have hne:s≠[]:=by
  rintro rfl;cases ha
 refine Qi (DfI s) _ ⟨_,s,rfl,rfl,hl,fun _=>ha,by unfold AW;rw[Qlu hne],xx⟩ ?_;rintro _ st ⟨f,u,rfl,rfl,hul,hua,hx,h0⟩;simp only[h0,QS,Qa,seval];by_cases hu:u=[]
 ·subst hu;have b0:(!(([]:List UInt8)==[]))=false:=rfl;have e:(Qo s).any Je=false:=hx;simp only[b0,e,Qmx,Qa,seval]
 ·have b0:(!(u==[]))=true:=by simp[hu]
  simp only[b0,h0,Qa,seval];refine aC (Qhh u hul) ?_;simp only[Qa,seval];refine aC (QdD (J7 u).2) ?_;have hw:AW u=(AW (J7 u).1||Je (J7 u).2):=by
   unfold AW;rw[Qlu hu];rcases Mp u with⟨h1,h2,h3⟩|⟨h1,h2⟩
   ·rw[h1,h2,Qlv rfl,UY h3];simp
   ·have hp:Qo u=Qo (J7 u).1++[(J7 u).2]:=by
     conv=>lhs;rw[h1]
     exact BS h2
    have ha':=hua hu;rw[hp,QmI,QlM]at ha';have hn:(J7 u).1≠[]:=by
     intro h;rw[h]at ha';cases ha'.1
    rw[Qlu hn,hp];simp
  cases hq:Je (J7 u).2
  ·rw[hq,Qnt]at hw;simp only[Qa,seval];have hlen:(J7 u).1.length<u.length∧((J7 u).1≠[]→(Qo (J7 u).1).all Xq=true):=by
    rcases Mp u with⟨h1,h2,h3⟩|⟨h1,h2⟩
    ·rw[h1];exact⟨QmL.2 hu,fun h=>absurd rfl h⟩
    ·have hp:Qo u=Qo (J7 u).1++[(J7 u).2]:=by
      conv=>lhs;rw[h1]
      exact BS h2
     have ha':=hua hu;rw[hp,QmI,QlM]at ha';refine⟨?_,fun _=>ha'.1⟩;have:=congrArg List.length h1;simp at this;omega
   exact⟨(J7 u).1.length,hlen.1,_,(J7 u).1,rfl,rfl,xw,hlen.2,by rw[hx,hw],xx⟩
  ·rw[hq,Qnu]at hw;have e:(Qo s).any Je=true:=hx.trans hw;simp only[e,Qm9,Qa,seval]

theorem X7 {α:Type}{l:List α}{q:α→Bool}:(l.any fun x=>!q x)=!l.all q:=by
 induction l with
 |nil=>rfl
 |cons x l ih=>simp[ih]

theorem QdE (s:List UInt8)(hs:s.length≤17592186044000):Qh Tryz.prog 267 [.str s,.str [46]] (.list ((Qo s).map J6)):=by
 refine wF Tryz.func267 ?_;simp only[eK,Tryz.f267,seval];simp only[Qa,seval];refine aC (Qhf s hs) ?_;simp only[Qa,seval]

def IfI (s:List UInt8)(k:Nat)(st:St):Prop :=
 ∃f i,st=⟨f,[Qb],[]⟩∧k=(Qo s).length-i∧((Qo s).take i).all Xq=true∧f 0=.str s∧f 6=.list ((Qo s).map J6)∧f 7=.int .i64 ((Qo s).length:Nat)∧f 8=.int .i64 (i:Nat)

theorem Qhi (s:List UInt8)(hs:s.length≤17592186044000):Qh Tryz.prog 265 [.str s] (.bool (decide (s.length≤120)&&(Qo s).all Xq)):=by
 have hl:=G3 s;have hc:s.count 46≤s.length:=List.count_le_length;refine wF Tryz.func265 ?_;simp only[eK,Tryz.f265,seval];simp only[Qa,seval];refine aC (QdE s hs) ?_;simp only[Qmj,Qa,seval];refine Qi (IfI s) _ ⟨_,0,rfl,rfl,rfl,xx,xx,xx,xx⟩ ?_;rintro _ st ⟨f,i,rfl,rfl,hx,h0,h6,h7,h8⟩;simp only[h7,h8,Qa,seval];by_cases hlt:i<(Qo s).length
 ·obtain⟨x,hi⟩:∃x,(Qo s)[i]? = some x:=⟨(Qo s)[i],Qln hlt⟩;have hg:((Qo s).map J6)[i]? = some (.str x):=by simp[hi,J6]
  have e1:=Qr i _ hlt xC;have ht:=H2 (q:=Xq) hi;rw[hx,Qm8]at ht;simp only[QB hlt,Qp,QmS,Qf,hg,h6,h8,eE,seval];refine aC (Qdz x) ?_;cases hp:Xq x
  ·have hf:(Qo s).all Xq=false:=by
    rw[Qnn];intro h';rw[QlB.1 h' x (QlC hi)]at hp;cases hp
   simp only[hf,Qmx,Qna,Qa,seval]
  ·rw[hp]at ht;simp only[h8,e1,Qm9,Qa,seval];exact⟨(Qo s).length-(i+1),xw,_,i+1,rfl,rfl,ht,xO,xU,xZ,xx⟩
 ·rw[QlY xw]at hx;have e:decide ((s.length:Int)≤120)=decide (s.length≤120):=jH
  simp only[QI hlt,h0,hx,e,QmD,Qa,seval]

theorem Qfr (s:List UInt8)(m:Qk):Qe Tryz.prog 268 [J6 s] m fun y m1=>y=.bool (Je s)∧m1=m:=by
 refine wG Tryz.func268 ?_;simp only[eK,Tryz.f268,seval];simp only[J6,QS,Qa,seval];have e:Je s=H3.any fun w=>s==w:=rfl
 simp only[H3,List.any_cons,List.any_nil,Qnt]at e
 repeat' (first|(refine QV (fun h=>?_) (fun h=>?_)<;>simp only[h,QS,Qa,seval])|(refine XH (fun h=>?_) (fun h=>?_)<;>simp only[h,Ql,QS,eE,seval])|(refine XJ (fun h=>?_) (fun h=>?_)<;>simp only[h,Ql,QS,eE,seval]))
 all_goals exact xq

theorem QdF (s:List UInt8):Qh Tryz.prog 180 [.str s] (.bool (WX s)):=by
 refine wF Tryz.func180 ?_;simp only[eK,Tryz.f180,seval];simp only[WX,Qa,seval];refine aC (Qdz s) ?_;cases Xq s
 ·exact zC
 ·simp only[Qm8,Qa,seval];refine aC (Qha s) ?_;simp only[Qa,seval]

theorem QdG (s:List UInt8)(hs:s.length≤17592186044000):Qh Tryz.prog 177 [.str s] (.bool (WY s)):=by
 have hl:=G3 s;have hc:s.count 46≤s.length:=List.count_le_length;refine wF Tryz.func177 ?_;simp only[eK,Tryz.f177,seval];simp only[WY,Qa,seval];refine aC (Qhi s hs) ?_;cases hf:(decide (s.length≤120)&&(Qo s).all Xq)
 ·exact zC
 ·simp only[Qm8,Qa,seval];refine aC (QdE s hs) ?_;simp only[Qa,seval];refine Qj (Qg4 (Qo s) xC Je 268 [] _ fun o _=>Qfr o _) xB ?_;simp only[Qa,seval]

section
variable (m:Qk)

theorem Qhj (g:PG):Qe Tryz.prog 173 [Qm g] m fun y m1=>y=.bool (!WZ g)∧m1=m:=by
 refine wG Tryz.func173 ?_;simp only[eK,Tryz.f173,seval];have e:decide ((g.ops.length:Int) > 64)=!WZ g:=by unfold WZ;exact xK
 simp only[Qm,PG.cells,Qmj,e,eE,seval]

theorem Qhk (x:PE):Qe Tryz.prog 175 [QC x] m fun y m1=>y=.bool (!Us x)∧m1=m:=by
 refine wG Tryz.func175 ?_;simp only[eK,Tryz.f175,seval];have e1:decide ((x.items.length:Int)<1)=!decide (1≤x.items.length):=xK;have e2:decide ((x.items.length:Int) > 64)=!decide (x.items.length≤64):=xK;have e3:decide ((x.free.length:Int) > 16)=!decide (x.free.length≤16):=xK;simp only[QC,PE.cells,Qmj,e1,Us,eE,seval];cases a1:decide (1≤x.items.length)<;>cases a2:decide (x.items.length≤64)<;>cases a3:decide (x.free.length≤16)<;>simp only[a2,a3,Qm9,Qmx,QmD,Qna,Qmj,e2,e3,eE,seval]

theorem Qhl (o:PO):Qe Tryz.prog 179 [Qu o] m fun y m1=>y=.bool (!WX o.name)∧m1=m:=by
 refine wG Tryz.func179 ?_;simp only[eK,Tryz.f179,seval];simp only[Qu,PO.cells,eE,seval];refine aC (QdF o.name) ?_;simp only[Qa,seval]

theorem Qhm (o:PI):Qe Tryz.prog 183 [XD o] m fun y m1=>y=.bool (!WX o.name)∧m1=m:=by
 refine wG Tryz.func183 ?_;simp only[eK,Tryz.f183,seval];simp only[XD,PI.cells,eE,seval];refine aC (QdF o.name) ?_;simp only[Qa,seval]

theorem Qhn (g:PG)(hs:g.name.length≤17592186044000)(hl:g.ops.length≤maxLen):Qe Tryz.prog 176 [Qm g] m fun y m1=>y=.bool (!Wu g)∧m1=m:=by
 refine wG Tryz.func176 ?_;simp only[eK,Tryz.f176,seval];simp only[Qm,PG.cells,Wu,eE,seval];refine aC (QdG g.name hs) ?_;cases WY g.name
 ·exact z7
 ·simp only[Qm8,Qm9,eE,seval];refine Qj (Ml g.ops hl (fun o=>!WX o.name) 179 [] _ fun o _=>Qhl _ o) xB ?_;simp only[X7,Qa,seval]

theorem Qho (x:PE)(hs:x.name.length≤17592186044000)(hl:x.items.length≤maxLen):Qe Tryz.prog 181 [QC x] m fun y m1=>y=.bool (!Hf x)∧m1=m:=by
 refine wG Tryz.func181 ?_;simp only[eK,Tryz.f181,seval];simp only[QC,PE.cells,Hf,eE,seval];refine aC (QdG x.name hs) ?_;cases WY x.name
 ·exact z7
 ·simp only[Qm8,Qm9,eE,seval];refine Qj (SZ x.items hl (fun o=>!WX o.name) 183 [] _ fun o _=>Qhm _ o) xB ?_;simp only[X7,Qa,seval]

theorem Qhp (x y:PG):Qe Tryz.prog 185 [Qm x,Qm y] m fun r m1=>r=.bool ((XN PG.name) x y)∧m1=m:=by
 refine wG Tryz.func185 ?_;simp only[eK,Tryz.f185,seval];simp only[Qm,PG.cells,QS,XN,eE,seval]

theorem Qhq (x y:PE):Qe Tryz.prog 187 [QC x,QC y] m fun r m1=>r=.bool ((XN PE.name) x y)∧m1=m:=by
 refine wG Tryz.func187 ?_;simp only[eK,Tryz.f187,seval];simp only[QC,PE.cells,QS,XN,eE,seval]

theorem Qhr (x y:PO):Qe Tryz.prog 190 [Qu x,Qu y] m fun r m1=>r=.bool ((Wf PO.num) x y)∧m1=m:=by
 refine wG Tryz.func190 ?_;simp only[eK,Tryz.f190,seval];simp only[Qu,PO.cells,Wf,eE,seval]

theorem Qhs (x y:PI):Qe Tryz.prog 193 [XD x,XD y] m fun r m1=>r=.bool ((Wf PI.num) x y)∧m1=m:=by
 refine wG Tryz.func193 ?_;simp only[eK,Tryz.f193,seval];simp only[XD,PI.cells,Wf,eE,seval]

theorem Qht (g:PG)(hl:g.ops.length≤maxLen):Qe Tryz.prog 188 [Qm g] m fun y m1=>y=.bool (!W0 g)∧m1=m:=by
 refine wG Tryz.func188 ?_;simp only[eK,Tryz.f188,seval];simp only[Qm,PG.cells,W0,eE,seval];refine Qj (Qg6 g.ops hl (Wf PO.num) 190 [] _ fun x _ y _=>Qhr _ x y) xB ?_;simp only[Qa,seval]

theorem Qhu (x:PE)(hl:x.items.length≤maxLen):Qe Tryz.prog 191 [QC x] m fun y m1=>y=.bool (!Hg x)∧m1=m:=by
 refine wG Tryz.func191 ?_;simp only[eK,Tryz.f191,seval];simp only[QC,PE.cells,Hg,eE,seval];refine Qj (Qg8 x.items hl (Wf PI.num) 193 [] _ fun x _ y _=>Qhs _ x y) xB ?_;simp only[Qa,seval]

end

section
variable {M:Nat}(P:PL)(hP:P.ok M)(hM:M≤17592186044000)
include hP hM

omit hM in
theorem Qhv:Qh Tryz.prog 120 [P.av] (.bool (!Fw P)):=by
 have e0:P.av=.agg [.list (P.progs.map Qm),.list (P.enums.map QC)]:=rfl;have e1:decide ((if (P.progs.length:Int)<(P.enums.length:Int)then(P.enums.length:Int)else(P.progs.length:Int)) > 64)=!(decide (P.progs.length≤64)&&decide (P.enums.length≤64)):=by
  rw[Bool.not_and];split<;>exact(by rw[Qmi];simp only[Qlr,Qmm,Qns,Qlq];omega)
 refine wF Tryz.func120 ?_;simp only[eK,Tryz.f120,seval];simp only[e0,Qmj,e1,Fw,eE,seval];cases(decide (P.progs.length≤64)&&decide (P.enums.length≤64))
 ·exact z8
 simp only[Qm9,Qm8,eE,seval];refine Qj (N0 P.progs hP.len1 (fun g=>!WZ g) 173 [] _ fun o _=>Qhj _ o) xB ?_;simp only[X7,Qa,seval];cases P.progs.all WZ
 ·exact z8
 simp only[Qm9,Qm8,eE,seval];refine Qj (FP P.enums hP.len2 (fun g=>!Us g) 175 [] _ fun o _=>Qhk _ o) xB ?_;simp only[X7,Qa,seval]

omit hM in
theorem Qfs (hN1:∀g∈P.progs,g.name.length≤17592186044000)(hN2:∀g∈P.enums,g.name.length≤17592186044000):Qh Tryz.prog 121 [P.av] (.bool (!BT P)):=by
 have e0:P.av=.agg [.list (P.progs.map Qm),.list (P.enums.map QC)]:=rfl;refine wF Tryz.func121 ?_;simp only[eK,Tryz.f121,seval];simp only[e0,BT,eE,seval];refine Qj (N0 P.progs hP.len1 (fun g=>!Wu g) 176 [] _ fun o ho=>Qhn _ o (hN1 o ho) (hP.progs o ho).len) xB ?_;simp only[X7,Qa,seval];cases P.progs.all Wu
 ·exact z8
 simp only[Qm9,Qm8,eE,seval];refine Qj (FP P.enums hP.len2 (fun g=>!Hf g) 181 [] _ fun o ho=>Qho _ o (hN2 o ho) (hP.enums o ho).len1) xB ?_;simp only[X7,Qa,seval]

omit hM in
theorem Qhw:Qh Tryz.prog 122 [P.av] (.bool (!G4 P)):=by
 have e0:P.av=.agg [.list (P.progs.map Qm),.list (P.enums.map QC)]:=rfl;refine wF Tryz.func122 ?_;simp only[eK,Tryz.f122,seval];simp only[e0,G4,eE,seval];refine Qj (Qg5 P.progs hP.len1 (XN PG.name) 185 [] _ fun x _ y _=>Qhp _ x y) xB ?_;simp only[Qa,seval];cases Jk P.progs (XN PG.name)
 ·exact z8
 simp only[Qm9,Qm8,eE,seval];refine Qj (Qg7 P.enums hP.len2 (XN PE.name) 187 [] _ fun x _ y _=>Qhq _ x y) xB ?_;simp only[Qa,seval];cases Jk P.enums (XN PE.name)
 ·exact z8
 simp only[Qm9,Qm8,eE,seval];refine Qj (N0 P.progs hP.len1 (fun g=>!W0 g) 188 [] _ fun o ho=>Qht _ o (hP.progs o ho).len) xB ?_;simp only[X7,Qa,seval];cases P.progs.all W0
 ·exact z8
 simp only[Qm9,Qm8,eE,seval];refine Qj (FP P.enums hP.len2 (fun g=>!Hg g) 191 [] _ fun o ho=>Qhu _ o (hP.enums o ho).len1) xB ?_;simp only[X7,Qa,seval]

end

theorem L8 (n c:Nat):AV.shN n (.fn (.func c) [] [])=.fn (.func c) [] []:=by
 induction n with
 |zero=>rfl
 |succ n ih=>rw[AV.shN,ih];rfl

theorem Qhx (nm:PO→List UInt8)(c:Nat)(hn:∀x,Qh Tryz.prog c [Qu x] (.str (nm x)))(y x:PO)(fr:Nat→Ob)(m:Qk)(h3:fr 3=.cells [.fn (.func c) [] []])(h6:fr 6=.cells x.cells) :
  Qe Tryz.prog 271 [Qu y,.ptr 3 3 0,.ptr 3 6 0] (Qb :: Qb :: Qb :: fr :: m) fun r m1=>r=.bool (nm y==nm x)∧m1=Qb :: Qb :: Qb :: fr :: m:=by
 have hy:=hn y;have hx:=hn x;have g3:∀n,AV.shN n (.fn (.func c) [] [])=.fn (.func c) [] []:=fun n=>L8 n c
 simp only[Qu,PO.cells]at hy hx h6;refine wG Tryz.func271 ?_;simp only[eK,Tryz.f271,seval];simp only[Qu,PO.cells,h3,g3,eE,seval];exact zu

section
variable (L:List PO)(hl:L.length≤maxLen)(nm:PO→List UInt8)(c:Nat)(m:Qk)

def ReO (k:Nat)(st:St):Prop :=
 ∃f fr i,st=⟨f,fr :: m,[]⟩∧k=L.length-i∧Qt (uniq L nm) i=true∧f 0=.list (L.map Qu)∧f 3=.ptr 0 3 0∧f 7=.list (L.map Qu)∧f 8=.int .i64 (L.length:Nat)∧f 9=.int .i64 (i:Nat)∧fr 3=.cells [.fn (.func c) [] []]∧∀s∈[6],(fr s).isRow=false

include hl in
theorem Qhy (hn:∀x,Qh Tryz.prog c [Qu x] (.str (nm x))) :
  Qe Tryz.prog 196 [.list (L.map Qu),.fn (.func c) [] []] m fun y m1=>y=.bool (!Ur L nm)∧m1=m:=by
 refine wG Tryz.func196 ?_;simp only[eK,Tryz.f196,seval];simp only[Qmj,eE,seval];refine Qi (ReO L nm c m) _ ⟨_,_,0,rfl,rfl,rfl,xx,xx,xx,xx,xx,xx,xS⟩ ?_;rintro _ st ⟨f0,fr0,i,rfl,rfl,hx,h00,h30,h70,h80,h90,m30,r6⟩;refine QL (a:=_) [6] r6 ?_;intro f fr hf hm hn6;have h0:f 0=.list (L.map Qu):=qx
 have h3:f 3=.ptr 0 3 0:=xW
 have h7:f 7=.list (L.map Qu):=jU
 have h8:f 8=.int .i64 (L.length:Nat):=jM
 have h9:f 9=.int .i64 (i:Nat):=ki
 have m3:fr 3=.cells [.fn (.func c) [] []]:=j0
 have n6:=hn6 6 xy;clear hf hm hn6 h00 h30 h70 h80 h90 m30 r6;simp only[h8,h9,Qa,seval];by_cases hlt:i<L.length
 ·obtain⟨x,hi⟩:∃x,L[i]? = some x:=⟨L[i],Qln hlt⟩;have hg:(L.map Qu)[i]? = some (Qu x):=wE
  have e1:=Qr i _ hlt hl;have hle:(i≤L.length)=True:=eq_true xw;have ht:((L.map Qu).drop 0).take (i-0)=(L.take i).map Qu:=xA
  have hstep:Qt (uniq L nm) (i+1)=!(L.take i).any fun y=>nm y==nm x:=by
   rw[Qt,hx,Qm8,DR hi,NY]
  have hcl:=fun(fr:Nat→Ob) (h3:fr 3=.cells [.fn (.func c) [] []]) (h6:fr 6=.cells x.cells)=>Ml (L.take i) xD (fun y=>nm y==nm x) 271 [.ptr 0 3 0,.ptr 0 6 0] (fr :: m) fun y _=>Qhx nm c hn y x fr m h3 h6
  simp only[QB hlt,Qp,QmS,Qf,hg,Qu,PO.cells,n6,h0,h7,h9,Js,Jc,Xo,Qm4,Qmj,Qlx,Qlk,hle,true_or,Qmn,←List.map_take,eE,seval];exact oC
 ·exact yH

end

theorem Qhz (nm:PI→List UInt8)(c:Nat)(hn:∀x,Qh Tryz.prog c [XD x] (.str (nm x)))(y x:PI)(fr:Nat→Ob)(m:Qk)(h3:fr 3=.cells [.fn (.func c) [] []])(h6:fr 6=.cells x.cells) :
  Qe Tryz.prog 272 [XD y,.ptr 3 3 0,.ptr 3 6 0] (Qb :: Qb :: Qb :: fr :: m) fun r m1=>r=.bool (nm y==nm x)∧m1=Qb :: Qb :: Qb :: fr :: m:=by
 have hy:=hn y;have hx:=hn x;have g3:∀n,AV.shN n (.fn (.func c) [] [])=.fn (.func c) [] []:=fun n=>L8 n c
 simp only[XD,PI.cells]at hy hx h6;refine wG Tryz.func272 ?_;simp only[eK,Tryz.f272,seval];simp only[XD,PI.cells,h3,g3,eE,seval];exact zu

section
variable (L:List PI)(hl:L.length≤maxLen)(nm:PI→List UInt8)(c:Nat)(m:Qk)

def ReI (k:Nat)(st:St):Prop :=
 ∃f fr i,st=⟨f,fr :: m,[]⟩∧k=L.length-i∧Qt (uniq L nm) i=true∧f 0=.list (L.map XD)∧f 3=.ptr 0 3 0∧f 7=.list (L.map XD)∧f 8=.int .i64 (L.length:Nat)∧f 9=.int .i64 (i:Nat)∧fr 3=.cells [.fn (.func c) [] []]∧∀s∈[6],(fr s).isRow=false

include hl in
theorem QhA (hn:∀x,Qh Tryz.prog c [XD x] (.str (nm x))) :
  Qe Tryz.prog 199 [.list (L.map XD),.fn (.func c) [] []] m fun y m1=>y=.bool (!Ur L nm)∧m1=m:=by
 refine wG Tryz.func199 ?_;simp only[eK,Tryz.f199,seval];simp only[Qmj,eE,seval];refine Qi (ReI L nm c m) _ ⟨_,_,0,rfl,rfl,rfl,xx,xx,xx,xx,xx,xx,xS⟩ ?_;rintro _ st ⟨f0,fr0,i,rfl,rfl,hx,h00,h30,h70,h80,h90,m30,r6⟩;refine QL (a:=_) [6] r6 ?_;intro f fr hf hm hn6;have h0:f 0=.list (L.map XD):=qx
 have h3:f 3=.ptr 0 3 0:=xW
 have h7:f 7=.list (L.map XD):=jU
 have h8:f 8=.int .i64 (L.length:Nat):=jM
 have h9:f 9=.int .i64 (i:Nat):=ki
 have m3:fr 3=.cells [.fn (.func c) [] []]:=j0
 have n6:=hn6 6 xy;clear hf hm hn6 h00 h30 h70 h80 h90 m30 r6;simp only[h8,h9,Qa,seval];by_cases hlt:i<L.length
 ·obtain⟨x,hi⟩:∃x,L[i]? = some x:=⟨L[i],Qln hlt⟩;have hg:(L.map XD)[i]? = some (XD x):=wE
  have e1:=Qr i _ hlt hl;have hle:(i≤L.length)=True:=eq_true xw;have ht:((L.map XD).drop 0).take (i-0)=(L.take i).map XD:=xA
  have hstep:Qt (uniq L nm) (i+1)=!(L.take i).any fun y=>nm y==nm x:=by
   rw[Qt,hx,Qm8,DR hi,NY]
  have hcl:=fun(fr:Nat→Ob) (h3:fr 3=.cells [.fn (.func c) [] []]) (h6:fr 6=.cells x.cells)=>SZ (L.take i) xD (fun y=>nm y==nm x) 272 [.ptr 0 3 0,.ptr 0 6 0] (fr :: m) fun y _=>Qhz nm c hn y x fr m h3 h6
  simp only[QB hlt,Qp,QmS,Qf,hg,XD,PI.cells,n6,h0,h7,h9,Js,Jc,Xo,Qm4,Qmj,Qlx,Qlk,hle,true_or,Qmn,←List.map_take,eE,seval];exact oC
 ·exact yH

end

theorem QhB (o:PO):Qh Tryz.prog 197 [Qu o] (.str o.name):=by
 refine wF Tryz.func197 ?_;simp only[eK,Tryz.f197,seval];simp only[Qu,PO.cells,eE,seval]

theorem QhC (o:PI):Qh Tryz.prog 200 [XD o] (.str o.name):=by
 refine wF Tryz.func200 ?_;simp only[eK,Tryz.f200,seval];simp only[XD,PI.cells,eE,seval]

theorem QhD (x:PE)(g:PG)(fr:Nat→Ob)(m:Qk)(h2:fr 2=.cells g.cells):Qe Tryz.prog 195 [QC x,.ptr 3 2 0] (Qb :: Qb :: Qb :: fr :: m) fun y m1=>y=.bool (x.name==g.name)∧m1=Qb :: Qb :: Qb :: fr :: m:=by
 simp only[PG.cells]at h2;refine wG Tryz.func195 ?_;simp only[eK,Tryz.f195,seval];simp only[QC,PE.cells,h2,QS,eE,seval]

theorem QhE (x:PE)(hl:x.items.length≤maxLen)(m:Qk):Qe Tryz.prog 198 [QC x] m fun y m1=>y=.bool (!H4 x)∧m1=m:=by
 refine wG Tryz.func198 ?_;simp only[eK,Tryz.f198,seval];simp only[QC,PE.cells,H4,eE,seval];refine Qj (QhA x.items hl PI.name 200 _ QhC) xB ?_;simp only[Qa,seval]

section
variable {M:Nat}(P:PL)(hP:P.ok M)
include hP

theorem QhF (g:PG)(hl:g.ops.length≤maxLen)(fr:Nat→Ob)(h1:fr 1=.cells [.list (P.progs.map Qm),.list (P.enums.map QC)]) :
  Qe Tryz.prog 194 [Qm g,.ptr 3 1 0] [Qb,Qb,Qb,fr] fun y m1=>y=.bool (!KV P g)∧m1=[Qb,Qb,Qb,fr]:=by
 have e:KV P g=(!(P.enums.any fun e=>e.name==g.name)&&Ur g.ops PO.name):=by rw[KV,NY]
 refine wG Tryz.func194 ?_;simp only[eK,Tryz.f194,seval];simp only[Qm,PG.cells,h1,e,eE,seval];refine Qj (FP P.enums hP.len2 (fun e=>e.name==g.name) 195 [.ptr 0 2 0] _ fun o _=>QhD o g _ _ xx) xB ?_;cases P.enums.any fun e=>e.name==g.name
 ·simp only[Qmx,Qm8,eE,seval];refine Qj (Qhy g.ops hl PO.name 197 _ QhB) xB ?_;simp only[Qa,seval]
 ·simp only[Qm9,QmW,Qmx,Qa,seval]

theorem QhG:Qh Tryz.prog 123 [P.av] (.bool (!Mk P)):=by
 have e0:P.av=.agg [.list (P.progs.map Qm),.list (P.enums.map QC)]:=rfl;refine wF Tryz.func123 ?_;simp only[eK,Tryz.f123,seval];simp only[e0,Mk,eE,seval];refine Qj (N0 P.progs hP.len1 (fun g=>!KV P g) 194 [.ptr 0 1 0] _ fun o ho=>QhF P hP o (hP.progs o ho).len _ xx) xB ?_;simp only[X7,Qa,seval];cases P.progs.all (KV P)
 ·exact z8
 simp only[Qm9,Qm8,eE,seval];refine Qj (FP P.enums hP.len2 (fun g=>!H4 g) 198 [] _ fun o ho=>QhE o (hP.enums o ho).len1 _) xB ?_;simp only[X7,Qa,seval]

end

theorem QhH (x:PS)(n:Int)(fr:Nat→Ob)(m:Qk)(h3:fr 3=.cells [.int .i64 n]):Qe Tryz.prog 320 [JH x,.ptr 2 3 0] (Qb :: Qb :: fr :: m) fun y m1=>y=.bool (decide (x.lo≤n)&&decide (n≤x.hi))∧m1=Qb :: Qb :: fr :: m:=by
 refine wG Tryz.func320 ?_;simp only[eK,Tryz.f320,seval];simp only[JH,PS.cells,h3,eE,seval];cases h:decide (x.lo≤n)<;>simp only[h3,Qm8,QmW,eE,seval]

theorem QhI (L:List PS)(hl:L.length≤maxLen)(n:Int):Qh Tryz.prog 274 [.list (L.map JH),.int .i64 n] (.bool (kept L n)):=by
 refine wF Tryz.func274 ?_;simp only[eK,Tryz.f274,seval];simp only[eE,seval];refine Qj (Qg2 L hl (fun x=>decide (x.lo≤n)&&decide (n≤x.hi)) 320 [.ptr 0 3 0] _ fun o _=>QhH o n _ _ xx) xB ?_;simp only[kept,Qa,seval]

theorem QhJ (o:PO)(m:Qk):Qe Tryz.prog 202 [Qu o] m fun y m1=>y=.bool (!Kw o)∧m1=m:=by
 refine wG Tryz.func202 ?_;simp only[eK,Tryz.f202,seval];have e1:decide (o.num<1)=!decide (o.num≥1):=xK;have e2:decide (o.num > 65535)=!decide (o.num≤65535):=xK;simp only[Qu,PO.cells,Kw,e1,eE,seval];cases decide (o.num≥1)<;>simp only[Qm9,Qmx,Qm8,QmW,e2,eE,seval]

theorem QhK (g:PG)(hl:g.ops.length≤maxLen)(m:Qk):Qe Tryz.prog 201 [Qm g] m fun y m1=>y=.bool (!g.ops.all Kw)∧m1=m:=by
 refine wG Tryz.func201 ?_;simp only[eK,Tryz.f201,seval];simp only[Qm,PG.cells,eE,seval];refine Qj (Ml g.ops hl (fun o=>!Kw o) 202 [] _ fun o _=>QhJ o _) xB ?_;simp only[X7,Qa,seval]

theorem QhL (o:PI)(x:PE)(hl:x.free.length≤maxLen)(fr:Nat→Ob)(m:Qk)(h1:fr 1=.cells x.cells):Qe Tryz.prog 273 [XD o,.ptr 3 1 0] (Qb :: Qb :: Qb :: fr :: m) fun y m1=>y=.bool (!Ut x o)∧m1=Qb :: Qb :: Qb :: fr :: m:=by
 have hr:Qh Tryz.prog 274 [.list (x.free.map fun n=>AV.agg n.cells),.int .i64 o.num] (.bool (kept x.free o.num)):=QhI x.free hl o.num;simp only[PE.cells]at h1;refine wG Tryz.func273 ?_;simp only[eK,Tryz.f273,seval];have e2:decide (o.num > 2147483647)=!decide (o.num≤2147483647):=xK;simp only[XD,PI.cells,Ut,e2,eE,seval];cases decide (o.num≤2147483647)
 ·exact z8
 ·simp only[Qm9,Qm8,h1,eE,seval];refine aC hr ?_;simp only[Bool.not_not,Qa,seval]

def U0 (l:List PS)(i:Nat):Bool:=Xg l VF i&&Zx l BU i
theorem Ro (l:List PS):Qt (U0 l) l.length=(l.all VF&&Jk l BU):=by
 unfold U0 Jk;rw[FO,H1]

def OuI (x:PE)(m:Qk)(k:Nat)(st:St):Prop :=
 ∃f fr i,st=⟨f,fr :: m,[]⟩∧k=x.free.length-i∧Qt (U0 x.free) i=true∧f 1=.ptr 0 1 0∧f 6=.list (x.free.map JH)∧f 7=.int .i64 (x.free.length:Nat)∧f 8=.int .i64 (i:Nat)∧fr 1=.cells x.cells∧∀s∈[4],(fr s).isRow=false

theorem QhM (x:PE)(h0:x.items≠[])(hl1:x.items.length≤maxLen)(hl:x.free.length≤maxLen)(m:Qk):Qe Tryz.prog 203 [QC x] m fun y m1=>y=.bool (!Uu x)∧m1=m:=by
 have hsp:=Ro x.free;have z1:Int.toNat 0=0:=rfl;have z0:(0≤(0:Int))=True:=xA
 refine wG Tryz.func203 ?_;simp only[eK,Tryz.f203,seval];simp only[QC,PE.cells,Qmj,eE,seval];refine Qi (OuI x m) _ ⟨_,_,0,rfl,rfl,rfl,xx,xx,xx,xx,xx,xS⟩ ?_;rintro _ st ⟨f0,fr0,i,rfl,rfl,hx,h10,h60,h70,h80,m10,r4⟩;refine QL (a:=_) [4] r4 ?_;intro f fr hf hm hn4;have h1:f 1=.ptr 0 1 0:=kj
 have h6:f 6=.list (x.free.map JH):=jV
 have h7:f 7=.int .i64 (x.free.length:Nat):=jU
 have h8:f 8=.int .i64 (i:Nat):=jM
 have m1:fr 1=.cells x.cells:=qG
 have n4:=hn4 4 xy;clear hf hm hn4 h10 h60 h70 h80 m10 r4;simp only[PE.cells]at m1;simp only[h7,h8,Qa,seval];by_cases hlt:i<x.free.length
 ·obtain⟨y,hi⟩:∃y,x.free[i]? = some y:=⟨x.free[i],Qln hlt⟩;have hg:(x.free.map JH)[i]? = some (JH y):=wE
  have e1:=Qr i _ hlt hl;have hstep:Qt (U0 x.free) (i+1)=(VF y&&Zx x.free BU i):=by
   rw[Qt,hx,Qm8,U0,XM hi]
  have hend:Qt (U0 x.free) (i+1)=false→Uu x=false:=by
   intro h;unfold Uu;rw[←hsp];have:Qt (U0 x.free) x.free.length=false:=by
    rw[Qnn];intro h';rw[Q3.2 fun k hk=>Q3.1 h' k xw]at h;cases h
   rw[this];rfl
  have fin:∀(f':Fr) (fr':Nat→Ob),Qt (U0 x.free) (i+1)=true→f' 1=.ptr 0 1 0→f' 6=.list (x.free.map JH)→f' 7=.int .i64 (x.free.length:Nat)→f' 8=.int .i64 ((i+1:Nat):Int)→fr' 1=.cells x.cells→(∀s∈[4],(fr' s).isRow=false)→∃k,k<x.free.length-i∧OuI x m k ⟨f',fr' :: m,[]⟩:=by
   intro f' fr' a b c d e g h;exact⟨x.free.length-(i+1),xw,f',fr',i+1,rfl,rfl,a,b,c,d,e,g,h⟩
  have s1:VF y=(!decide (y.lo<0) && !decide (y.hi > 2147483647) && !decide (y.hi<y.lo)):=by
   unfold VF;exact(by rw[Qmi];simp only[Qlr,Qmm,Qns,QlM];omega)
  rw[s1]at hstep;simp only[QB hlt,Qp,QmS,Qf,hg,JH,PS.cells,n4,h6,h8,eE,seval];cases a1:decide (y.lo<0)
  case true=>
   rw[a1,Qm9,QmW,QmW,QmW]at hstep;simp only[hend hstep,Qmx,Qa,seval]
  cases a2:decide (y.hi > 2147483647)
  case true=>
   rw[a1,a2,Qm9,Qna,QmW,QmW]at hstep;simp only[a2,hend hstep,Qmx,eE,seval]
  cases a3:decide (y.hi<y.lo)
  case true=>
   rw[a1,a2,a3,Qm9,Qna,QmW]at hstep;simp only[a2,a3,hend hstep,Qmx,eE,seval]
  rw[a1,a2,a3]at hstep;simp only[Qmx,Qm8]at hstep;cases i with
  |zero=>
   have d0:decide (((0:Nat):Int) > 0)=false:=rfl;rw[IJ]at hstep;simp only[a2,a3,h8,eE,seval];exact yw
  |succ j=>
   have d0:decide (((j+1:Nat):Int) > 0)=true:=Qnr xw;obtain⟨z,hj⟩:∃z,x.free[j]? = some z:=⟨x.free[j]' xw,Qln xw⟩;have hgj:(x.free.map fun n=>AV.agg n.cells)[j]? = some (.agg z.cells):=by simp[hj]
   simp only[PS.cells]at hgj;rw[WW hj hi]at hstep;have w:=G8 j _ hlt hl;have s2:BU z y=!decide (y.lo≤z.hi):=by unfold BU;exact xK
   rw[s2]at hstep;simp only[a2,a3,d0,w,Qp,QmS,Qf,hgj,PS.cells,h1,m1,eE,seval];cases a4:decide (y.lo≤z.hi)
   ·rw[a4]at hstep;simp only[h8,e1,Qa,seval];exact yw
   ·rw[a4]at hstep;simp only[hend hstep,Qmx,Qa,seval]
 ·have hfr:Qt (U0 x.free) x.free.length=true:=Q3.2 fun k hk=>Q3.1 hx k xw
  obtain⟨it,its,hits⟩:∃it its,x.items=it :: its:=by
   cases h:x.items with
   |nil=>exact absurd h h0
   |cons a b=>exact⟨a,b,rfl⟩
  have hr:Uu x=(it.num==0&&x.items.all (Ut x)):=by
   unfold Uu;rw[←hsp,hfr,Qm8,H5,hits]
  have hg0:(x.items.map fun n=>AV.agg n.cells)[0]? = some (.agg it.cells):=by simp[hits]
  have hne:(it.num != 0)=!(it.num==0):=rfl;simp only[PI.cells]at hg0;simp only[QI hlt,Qf,z0,z1,hg0,PI.cells,hr,hne,QlD,Qmk,h1,m1,eE,seval];cases it.num==0
  ·exact z8
  ·simp only[Qm9,Qm8,m1,h1,eE,seval];refine Qj (SZ x.items hl1 (fun o=>!Ut x o) 273 [.ptr 0 1 0] _ fun o _=>QhL o x hl _ _ qU) (by simp only[QlW,Qmq,h1,Qa,seval]<;>rfl) ?_;simp only[X7,Qa,seval]

theorem QhN {M:Nat}(P:PL)(hP:P.ok M)(hi:∀e∈P.enums,e.items≠[]):Qh Tryz.prog 124 [P.av] (.bool (!BW P)):=by
 have e0:P.av=.agg [.list (P.progs.map Qm),.list (P.enums.map QC)]:=rfl;refine wF Tryz.func124 ?_;simp only[eK,Tryz.f124,seval];simp only[e0,BW,eE,seval];refine Qj (N0 P.progs hP.len1 (fun g=>!g.ops.all Kw) 201 [] _ fun o ho=>QhK o (hP.progs o ho).len _) xB ?_;simp only[X7,Qa,seval];cases P.progs.all fun g=>g.ops.all Kw
 ·exact z8
 simp only[Qm9,Qm8,eE,seval];refine Qj (FP P.enums hP.len2 (fun g=>!Uu g) 203 [] _ fun o ho=>QhM o (hi o ho) (hP.enums o ho).len1 (hP.enums o ho).len2 _) xB ?_;simp only[X7,Qa,seval]

end Go.Proofs.YtmlohboeoeoamaaGreatDoor.Va

namespace Go.Proofs.YtmlohboeoeoamaaGreatDoor.Va
open Go Am Rc Bt

def bt (s:List UInt8)(i lo hi:Nat):Bool :=
 match s[i]? with
 |some b=>decide (lo≤b.toNat)&&decide (b.toNat≤hi)
 |none=>false
def tl (s:List UInt8):Nat→Nat→Bool
 |_,0=>true
 |i,n+1=>bt s i 128 191&&tl s (i+1) n
def VG (s:List UInt8)(i b:Nat):Nat :=
 if b<128 then 1
 else if 194≤b∧b≤223∧tl s (i+1) 1=true then 2
 else if b=224∧bt s (i+1) 160 191=true∧tl s (i+2) 1=true then 3
 else if b=237∧bt s (i+1) 128 159=true∧tl s (i+2) 1=true then 3
 else if 225≤b∧b≤239∧b≠237∧tl s (i+1) 2=true then 3
 else if b=240∧bt s (i+1) 144 191=true∧tl s (i+2) 2=true then 4
 else if 241≤b∧b≤243∧tl s (i+1) 3=true then 4
 else if b=244∧bt s (i+1) 128 143=true∧tl s (i+2) 2=true then 4
 else 0
def sz (s:List UInt8)(i:Nat):Nat :=
 match s[i]? with
 |none=>0
 |some c=>VG s i c.toNat
def U1 (s:List UInt8):Nat→Nat→Int
 |0,_=>-1
 |k+1,i=>if i<s.length then(if sz s i=0 then(i:Int)else U1 s k (i+sz s i))else -1
def GE (s:List UInt8):Bool:=decide (U1 s s.length 0<0)

theorem QhO (c:UInt8)(n:Nat):decide ((c.toNat:Int)≥(n:Int))=decide (n≤c.toNat):=xA
theorem QhP (c:UInt8)(n:Nat):decide ((c.toNat:Int)≤(n:Int))=decide (c.toNat≤n):=xA

theorem Mq (s:List UInt8)(i lo hi:Nat):Qh Tryz.prog 314 [.str s,.int .i64 (i:Nat),.int .u8 (lo:Nat),.int .u8 (hi:Nat)] (.bool (bt s i lo hi)):=by
 refine wF Tryz.func314 ?_;simp only[eK,Tryz.f314,seval];by_cases hlt:i<s.length
 ·obtain⟨c,hc⟩:∃c,s[i]? = some c:=⟨s[i],Qln hlt⟩;have hb:bt s i lo hi=(decide (lo≤c.toNat)&&decide (c.toNat≤hi)):=by simp only[bt,hc]
  simp only[QB hlt,Qp,QmS,hc,QhO,Qa,seval];by_cases h1:lo≤c.toNat
  ·have d1:decide (lo≤c.toNat)=true:=jC
   simp only[d1,Qp,QmS,hc,hb,QhP,Qm8,Qa,seval]
  ·have d1:decide (lo≤c.toNat)=false:=jC
   simp only[d1,hb,QmW,Qa,seval]
 ·have hb:bt s i lo hi=false:=by simp only[bt,QmO (Nat.le_of_not_lt hlt)]
  simp only[QI hlt,hb,Qa,seval]

def Qft (s:List UInt8)(i n:Nat)(k:Nat)(st:St):Prop :=
 ∃f j,st=⟨f,[Qb],[]⟩∧k=n-j∧j≤n∧tl s i n=tl s (i+j) (n-j)∧f 0=.str s∧f 1=.int .i64 (i:Nat)∧f 2=.int .i64 (n:Nat)∧f 7=.int .i64 (j:Nat)

theorem Wg (a b:Nat)(h:a+b≤maxLen):IntKind.i64.wrap ((a:Int)+(b:Int))=((a+b:Nat):Int):=by
 simp only[maxLen]at h;rw[QA];omega

theorem FQ (s:List UInt8)(i n:Nat)(hi:i+n≤maxLen):Qh Tryz.prog 313 [.str s,.int .i64 (i:Nat),.int .i64 (n:Nat)] (.bool (tl s i n)):=by
 refine wF Tryz.func313 ?_;simp only[eK,Tryz.f313,seval];simp only[Qa,seval];refine Qi (Qft s i n) _ ⟨_,0,rfl,rfl,Qlx _,rfl,rfl,rfl,rfl,rfl⟩ ?_;rintro _ st ⟨f,j,rfl,rfl,hj,ht,h0,h1,h2,h7⟩;simp only[h2,h7,Qa,seval];by_cases hlt:j<n
 ·have e0:=Wg i j xw;have e1:=Qr j _ hlt xw;simp only[QB hlt,h0,h1,h7,e0,Qa,seval];refine aC (Mq s (i+j) 128 191) ?_;have hs:tl s i n=(bt s (i+j) 128 191&&tl s (i+(j+1)) (n-(j+1))):=by
   rw[ht];obtain⟨m,hm⟩:∃m,n-j=m+1:=⟨n-j-1,xw⟩;rw[hm,show n-(j+1)=m by omega];rfl
  cases hb:bt s (i+j) 128 191
  ·rw[hb]at hs;simp only[hs,QmW,Qa,seval]
  ·rw[hb,Qm8]at hs;simp only[h7,e1,Qa,seval];exact⟨n-(j+1),xw,_,j+1,rfl,rfl,xw,hs,xO,xL,v9,xx⟩
 ·have hs:tl s i n=true:=by
   rw[ht,show n-j=0 by omega];rfl
  simp only[QI hlt,hs,Qa,seval]

def Mr (s:List UInt8)(i:Nat)(c:UInt8)(D:Nat)(cond:Prop)(g:List Am.Item):Prop :=
 ∀Q:St→Prop,(∀f' B,(B=true↔cond)→f' 0=.str s→f' 1=.int .i64 (i:Nat)→f' 5=.int .u8 (c.toNat:Nat)→f' D=.bool B→Q ⟨f',[Qb],[]⟩)→
  ∀f,f 0=.str s→f 1=.int .i64 (i:Nat)→f 5=.int .u8 (c.toNat:Nat)→QD Tryz.prog g ⟨f,[Qb],[]⟩ Q

section
variable {s:List UInt8}{i:Nat}{c:UInt8}(hi:i<s.length)(hs:s.length+8≤maxLen)
include hi hs

theorem QhQ:Mr s i c 12 (194≤c.toNat∧c.toNat≤223∧tl s (i+1) 1=true) C7:=by
 intro Q hQ f h0 h1 h5;have e1:IntKind.i64.wrap ((i:Int)+1)=((i+1:Nat):Int):=Wg i 1 xw;have e2:IntKind.i64.wrap ((i:Int)+2)=((i+2:Nat):Int):=Wg i 2 xw;simp only[C7,h5,Qa,seval]
 repeat' (first|(refine QV (fun h=>?_) (fun h=>?_)<;>simp only[h,h0,h1,h5,e1,e2,eE,seval])|(refine XH (fun h=>?_) (fun h=>?_)<;>simp only[h,Ql,h0,h1,h5,e1,Qa,seval])|(refine XJ (fun h=>?_) (fun h=>?_)<;>simp only[h,Ql,h0,h1,h5,e1,e2,eE,seval])|((with_reducible apply Zf (k:=313));(case hy=>rfl);(case h1=>rfl);(case hk=>exact FQ s (i+1) 1 xw);(case h2=>rfl);(case h3=>first|exact .inl rfl|exact .inr rfl);simp only[Qa,seval]))
 all_goals(refine hQ _ _ ?_ xO xL xN rfl)
 all_goals simp only[Qlr,Qns]at *
 all_goals exact od

theorem QhR:Mr s i c 25 (c.toNat=224∧bt s (i+1) 160 191=true∧tl s (i+2) 1=true) C8:=by
 intro Q hQ f h0 h1 h5;have e1:IntKind.i64.wrap ((i:Int)+1)=((i+1:Nat):Int):=Wg i 1 xw;have e2:IntKind.i64.wrap ((i:Int)+2)=((i+2:Nat):Int):=Wg i 2 xw;simp only[C8,h5,Qa,seval]
 repeat' (first|(refine QV (fun h=>?_) (fun h=>?_)<;>simp only[h,h0,h1,h5,e1,e2,eE,seval])|(refine XH (fun h=>?_) (fun h=>?_)<;>simp only[h,Ql,h0,h1,e1,e2,Qa,seval])|(refine XJ (fun h=>?_) (fun h=>?_)<;>simp only[h,Ql,h0,h1,h5,e1,e2,eE,seval])|((with_reducible apply Zf (k:=314));(case hy=>rfl);(case h1=>rfl);(case hk=>exact Mq s (i+1) 160 191);(case h2=>rfl);(case h3=>first|exact .inl rfl|exact .inr rfl);simp only[Qa,seval])|((with_reducible apply Zf (k:=313));(case hy=>rfl);(case h1=>rfl);(case hk=>exact FQ s (i+2) 1 xw);(case h2=>rfl);(case h3=>first|exact .inl rfl|exact .inr rfl);simp only[Qa,seval]))
 all_goals(refine hQ _ _ ?_ xO xL xN rfl)
 all_goals simp only[Qls,Qne,ne_eq]at *
 all_goals exact od

theorem QhS:Mr s i c 40 (c.toNat=237∧bt s (i+1) 128 159=true∧tl s (i+2) 1=true) C9:=by
 intro Q hQ f h0 h1 h5;have e1:IntKind.i64.wrap ((i:Int)+1)=((i+1:Nat):Int):=Wg i 1 xw;have e2:IntKind.i64.wrap ((i:Int)+2)=((i+2:Nat):Int):=Wg i 2 xw;simp only[C9,h5,Qa,seval]
 repeat' (first|(refine QV (fun h=>?_) (fun h=>?_)<;>simp only[h,h0,h1,h5,e1,e2,eE,seval])|(refine XH (fun h=>?_) (fun h=>?_)<;>simp only[h,Ql,h0,h1,e1,e2,Qa,seval])|(refine XJ (fun h=>?_) (fun h=>?_)<;>simp only[h,Ql,h0,h1,h5,e1,e2,eE,seval])|((with_reducible apply Zf (k:=314));(case hy=>rfl);(case h1=>rfl);(case hk=>exact Mq s (i+1) 128 159);(case h2=>rfl);(case h3=>first|exact .inl rfl|exact .inr rfl);simp only[Qa,seval])|((with_reducible apply Zf (k:=313));(case hy=>rfl);(case h1=>rfl);(case hk=>exact FQ s (i+2) 1 xw);(case h2=>rfl);(case h3=>first|exact .inl rfl|exact .inr rfl);simp only[Qa,seval]))
 all_goals(refine hQ _ _ ?_ xO xL xN rfl)
 all_goals simp only[Qls,Qne,ne_eq]at *
 all_goals exact od

theorem Qfu:Mr s i c 55 (225≤c.toNat∧c.toNat≤239∧c.toNat≠237∧tl s (i+1) 2=true) NR:=by
 intro Q hQ f h0 h1 h5;have e1:IntKind.i64.wrap ((i:Int)+1)=((i+1:Nat):Int):=Wg i 1 xw;have e2:IntKind.i64.wrap ((i:Int)+2)=((i+2:Nat):Int):=Wg i 2 xw;simp only[NR,h5,Qa,seval]
 repeat' (first|(refine QV (fun h=>?_) (fun h=>?_)<;>simp only[h,h0,h1,h5,e1,e2,eE,seval])|(refine XH (fun h=>?_) (fun h=>?_)<;>simp only[h,Ql,h0,h1,h5,e1,Qa,seval])|(refine XJ (fun h=>?_) (fun h=>?_)<;>simp only[h,Ql,h0,h1,h5,e1,e2,eE,seval])|((with_reducible apply Zf (k:=313));(case hy=>rfl);(case h1=>rfl);(case hk=>exact FQ s (i+1) 2 xw);(case h2=>rfl);(case h3=>first|exact .inl rfl|exact .inr rfl);simp only[Qa,seval]))
 all_goals(refine hQ _ _ ?_ xO xL xN rfl)
 all_goals simp only[Qlr,Qns,QlR,bne_eq_false_iff_eq,ne_eq]at *
 all_goals exact od

theorem Qfv:Mr s i c 72 (c.toNat=240∧bt s (i+1) 144 191=true∧tl s (i+2) 2=true) NS:=by
 intro Q hQ f h0 h1 h5;have e1:IntKind.i64.wrap ((i:Int)+1)=((i+1:Nat):Int):=Wg i 1 xw;have e2:IntKind.i64.wrap ((i:Int)+2)=((i+2:Nat):Int):=Wg i 2 xw;simp only[NS,h5,Qa,seval]
 repeat' (first|(refine QV (fun h=>?_) (fun h=>?_)<;>simp only[h,h0,h1,h5,e1,e2,eE,seval])|(refine XH (fun h=>?_) (fun h=>?_)<;>simp only[h,Ql,h0,h1,e1,e2,Qa,seval])|(refine XJ (fun h=>?_) (fun h=>?_)<;>simp only[h,Ql,h0,h1,h5,e1,e2,eE,seval])|((with_reducible apply Zf (k:=314));(case hy=>rfl);(case h1=>rfl);(case hk=>exact Mq s (i+1) 144 191);(case h2=>rfl);(case h3=>first|exact .inl rfl|exact .inr rfl);simp only[Qa,seval])|((with_reducible apply Zf (k:=313));(case hy=>rfl);(case h1=>rfl);(case hk=>exact FQ s (i+2) 2 xw);(case h2=>rfl);(case h3=>first|exact .inl rfl|exact .inr rfl);simp only[Qa,seval]))
 all_goals(refine hQ _ _ ?_ xO xL xN rfl)
 all_goals simp only[Qls,Qne,ne_eq]at *
 all_goals exact od

theorem Qfw:Mr s i c 87 (241≤c.toNat∧c.toNat≤243∧tl s (i+1) 3=true) NT:=by
 intro Q hQ f h0 h1 h5;have e1:IntKind.i64.wrap ((i:Int)+1)=((i+1:Nat):Int):=Wg i 1 xw;have e2:IntKind.i64.wrap ((i:Int)+2)=((i+2:Nat):Int):=Wg i 2 xw;simp only[NT,h5,Qa,seval]
 repeat' (first|(refine QV (fun h=>?_) (fun h=>?_)<;>simp only[h,h0,h1,h5,e1,e2,eE,seval])|(refine XH (fun h=>?_) (fun h=>?_)<;>simp only[h,Ql,h0,h1,h5,e1,Qa,seval])|(refine XJ (fun h=>?_) (fun h=>?_)<;>simp only[h,Ql,h0,h1,h5,e1,e2,eE,seval])|((with_reducible apply Zf (k:=313));(case hy=>rfl);(case h1=>rfl);(case hk=>exact FQ s (i+1) 3 xw);(case h2=>rfl);(case h3=>first|exact .inl rfl|exact .inr rfl);simp only[Qa,seval]))
 all_goals(refine hQ _ _ ?_ xO xL xN rfl)
 all_goals simp only[Qlr,Qns]at *
 all_goals exact od

theorem Qfx:Mr s i c 100 (c.toNat=244∧bt s (i+1) 128 143=true∧tl s (i+2) 2=true) NU:=by
 intro Q hQ f h0 h1 h5;have e1:IntKind.i64.wrap ((i:Int)+1)=((i+1:Nat):Int):=Wg i 1 xw;have e2:IntKind.i64.wrap ((i:Int)+2)=((i+2:Nat):Int):=Wg i 2 xw;simp only[NU,h5,Qa,seval]
 repeat' (first|(refine QV (fun h=>?_) (fun h=>?_)<;>simp only[h,h0,h1,h5,e1,e2,eE,seval])|(refine XH (fun h=>?_) (fun h=>?_)<;>simp only[h,Ql,h0,h1,e1,e2,Qa,seval])|(refine XJ (fun h=>?_) (fun h=>?_)<;>simp only[h,Ql,h0,h1,h5,e1,e2,eE,seval])|((with_reducible apply Zf (k:=314));(case hy=>rfl);(case h1=>rfl);(case hk=>exact Mq s (i+1) 128 143);(case h2=>rfl);(case h3=>first|exact .inl rfl|exact .inr rfl);simp only[Qa,seval])|((with_reducible apply Zf (k:=313));(case hy=>rfl);(case h1=>rfl);(case hk=>exact FQ s (i+2) 2 xw);(case h2=>rfl);(case h3=>first|exact .inl rfl|exact .inr rfl);simp only[Qa,seval]))
 all_goals(refine hQ _ _ ?_ xO xL xN rfl)
 all_goals simp only[Qls,Qne,ne_eq]at *
 all_goals exact od

end

theorem QhT (s:List UInt8)(i:Nat)(hi:i<s.length)(hs:s.length+8≤maxLen):Qh Tryz.prog 262 [.str s,.int .i64 (i:Nat)] (.int .i64 (sz s i:Nat)):=by
 refine QgS.fn xA ?_;obtain⟨c,hc⟩:∃c,s[i]? = some c:=⟨s[i],Qln hi⟩;have hz:sz s i=VG s i c.toNat:=by simp only[sz,hc]
 unfold VG at hz;simp only[AH,AI,AJ,AK,AL,AM,AN,Ri,Rj,Rk,Rl,Rm,Qdt,Qdu,Qp,QmS,hc,Qa,seval];refine QV (fun h=>?_) (fun h=>?_)
 ·have h:c.toNat<128:=by simp at h;omega
  rw[hz,Qlv h];exact xu
 have h:¬c.toNat<128:=by simp at h;omega
 rw[hz,Qlu h];simp only[Qa,seval];refine QhQ hi hs _ (fun f B hB h0 h1 h5 hd=>?_) _ xx xx xx;by_cases hB1:B=true
 ·exact oQ
 rw[Qlu (fun hh=>hB1 (hB.2 hh))];have hB2:B=false:=qh
 subst hB2;simp only[hd,Qa,seval];refine QhR hi hs _ (fun f B hB h0 h1 h5 hd=>?_) _ xO xL xN;by_cases hB1:B=true
 ·exact oQ
 rw[Qlu (fun hh=>hB1 (hB.2 hh))];have hB2:B=false:=qh
 subst hB2;simp only[hd,Qa,seval];refine QhS hi hs _ (fun f B hB h0 h1 h5 hd=>?_) _ xO xL xN;by_cases hB1:B=true
 ·exact oQ
 rw[Qlu (fun hh=>hB1 (hB.2 hh))];have hB2:B=false:=qh
 subst hB2;simp only[hd,Qa,seval];refine Qfu hi hs _ (fun f B hB h0 h1 h5 hd=>?_) _ xO xL xN;by_cases hB1:B=true
 ·exact oQ
 rw[Qlu (fun hh=>hB1 (hB.2 hh))];have hB2:B=false:=qh
 subst hB2;simp only[hd,Qa,seval];refine Qfv hi hs _ (fun f B hB h0 h1 h5 hd=>?_) _ xO xL xN;by_cases hB1:B=true
 ·exact oQ
 rw[Qlu (fun hh=>hB1 (hB.2 hh))];have hB2:B=false:=qh
 subst hB2;simp only[hd,Qa,seval];refine Qfw hi hs _ (fun f B hB h0 h1 h5 hd=>?_) _ xO xL xN;by_cases hB1:B=true
 ·exact oQ
 rw[Qlu (fun hh=>hB1 (hB.2 hh))];have hB2:B=false:=qh
 subst hB2;simp only[hd,Qa,seval];refine Qfx hi hs _ (fun f B hB h0 h1 h5 hd=>?_) _ xO xL xN;by_cases hB1:B=true
 ·exact oQ
 rw[Qlu (fun hh=>hB1 (hB.2 hh))];have hB2:B=false:=qh
 subst hB2;simp only[hd,Qa,seval]
 try rfl

theorem L9 (s:List UInt8)(i:Nat)(hi:i<s.length)(_h:sz s i≠0):i+sz s i≤s.length:=by
 have tl1:∀n j,tl s j n=true→n≠0→j+n≤s.length:=by
  intro n
  induction n with
  |zero=>intro j _ h;exact absurd rfl h
  |succ n ih=>
   intro j hj _;simp only[tl,QlM]at hj;have hb:j<s.length:=by
    have h1:=hj.1;unfold bt at h1;split at h1
    ·rename_i b hb;exact(Qlm.1 hb).1
    ·cases h1
   by_cases h0:n=0
   ·subst h0;omega
   ·have:=ih (j+1) hj.2 h0;omega
 obtain⟨c,hc⟩:∃c,s[i]? = some c:=⟨s[i],Qln hi⟩;simp only[sz,hc]at _h ⊢;unfold VG at _h ⊢
 (repeat' split)<;>first
  |omega
  |(rename_i hh;have:=tl1 _ _ hh.2.2 xy;omega)
  |(rename_i hh;have:=tl1 _ _ hh.2.2.2 xy;omega)
  |simp_all

def QhU (s:List UInt8)(k:Nat)(st:St):Prop :=
 ∃f i,st=⟨f,[Qb],[]⟩∧i≤s.length∧s.length-i≤k∧U1 s s.length 0=U1 s k i∧f 0=.str s∧f 3=.int .i64 (i:Nat)

theorem QhV (s:List UInt8)(hs:s.length+8≤maxLen):Qh Tryz.prog 171 [.str s] (.int .i64 (U1 s s.length 0)):=by
 refine wF Tryz.func171 ?_;simp only[eK,Tryz.f171,seval];simp only[Qa,seval];refine Qi (QhU s) s.length ⟨_,0,rfl,Qlx _,Qlk _,rfl,rfl,rfl⟩ ?_;rintro k st ⟨f,i,rfl,hi,hk,hb,h0,h3⟩;simp only[h0,h3,Qa,seval];by_cases hlt:i<s.length
 ·simp only[QB hlt,h0,h3,Qa,seval];refine aC (QhT s i hlt hs) ?_;obtain⟨k,rfl⟩:∃n,k=n+1:=⟨k-1,xw⟩;have hbk:U1 s (k+1) i=if sz s i=0 then(i:Int)else U1 s k (i+sz s i):=by
   show(if i<s.length then _ else _)=_;rw[Qlv hlt]
  by_cases hz:sz s i=0
  ·have b0:((sz s i:Int)==0)=true:=by simp[hz]
   simp only[b0,h3,hb,hbk,Qlv hz,Qa,seval]
  ·have b0:((sz s i:Int)==0)=false:=xD
   have hle:=L9 s i hlt hz;have e0:=Wg i (sz s i) xw;simp only[b0,h3,e0,Qa,seval];exact⟨k,xw,_,i+sz s i,rfl,hle,xw,by rw[hb,hbk,Qlu hz],xO,xx⟩
 ·have hbk:U1 s k i = -1:=by
   cases k with
   |zero=>rfl
   |succ k=>
    show(if i<s.length then _ else _)=_;rw[Qlu hlt]
  simp only[QI hlt,hb,hbk,Qa,seval]

theorem QdH (s:List UInt8)(hs:s.length+8≤maxLen):Qh Tryz.prog 118 [.str s] (.bool (GE s)):=by
 refine wF Tryz.func118 ?_;simp only[eK,Tryz.f118,seval];simp only[Qa,seval];refine aC (QhV s hs) ?_;exact xu

def YV (s:List UInt8)(i:Nat):Bool:=(s.drop i).take 3==[239,191,189]

theorem QhW (s t:List UInt8):Qh Tryz.prog 375 [.str s,.str t] (.bool (s.take t.length==t)):=by
 refine wF Tryz.func375 ?_;simp only[eK,Tryz.f375,seval];by_cases h:t.length≤s.length
 ·have d0:decide ((s.length:Int)≥(t.length:Int))=true:=xD
  have s1:(0≤t.length∧t.length≤s.length)=True:=xD
  simp only[d0,Qp,s1,QmS,QS,Qmn,Ql6,Qa,seval]
 ·have d0:decide ((s.length:Int)≥(t.length:Int))=false:=xD
  have e0:(s.take t.length==t)=false:=by
   rw[Qne];intro hh;have:=congrArg List.length hh;simp at this;omega
  simp only[d0,e0,Qa,seval]

theorem QhX (s t:List UInt8):Qh Tryz.prog 358 [.str s,.str t] (.bool (s.take t.length==t)):=by
 refine wF Tryz.func358 ?_;simp only[eK,Tryz.f358,seval];simp only[Qa,seval];refine aC (QhW s t) ?_;simp only[Qa,seval]

theorem QhY (s:List UInt8)(i:Nat)(hi:i≤s.length)(c:Nat):Qh Tryz.prog 321 [.str s,.int .i64 (i:Nat),.int .i32 (c:Nat)] (.bool (decide (c=65533) && !YV s i)):=by
 refine wF Tryz.func321 ?_;simp only[eK,Tryz.f321,seval];by_cases hc:c=65533
 ·have b0:((c:Int)==65533)=true:=v6
  have s1:(i≤s.length∧s.length≤s.length)=True:=xD
  simp only[b0,Qp,s1,QmS,Qa,seval];refine aC (QhX (List.take (s.length-i) (List.drop i s)) [239,191,189]) ?_;have ht:List.take (s.length-i) (List.drop i s)=List.drop i s:=QlY xA;simp only[ht,YV,hc,Qa,seval]
 ·have b0:((c:Int)==65533)=false:=xD
  simp only[b0,hc,Qa,seval];simp

end Go.Proofs.YtmlohboeoeoamaaGreatDoor.Va

namespace Go.Proofs.YtmlohboeoeoamaaGreatDoor.Vp

def Ww:Nat→Nat→List UInt8
 |0,u=>[UInt8.ofNat u]
 |k+1,u=>if u<128 then [UInt8.ofNat u]else UInt8.ofNat (u % 128+128) :: Ww k (u / 128)

def put (u:Nat):List UInt8:=Ww 9 u

def JU:Nat→Nat→List UInt8→Nat×Nat×Nat
 |_,_,[]=>(0,0,4)
 |i,acc,c :: t=>
  if i=9∧1<c.toNat then(0,0,6)
  else if c.toNat<128 then(acc+c.toNat*128 ^ i,i+1,0)
  else JU (i+1) (acc+(c.toNat-128)*128 ^ i) t

def take (s:List UInt8):Nat×Nat×Nat:=JU 0 0 s

theorem toNat_ofNat (n:Nat)(h:n<256):(UInt8.ofNat n).toNat=n:=by
 simp[UInt8.toNat_ofNat'];omega

theorem IQ (k u:Nat):1≤(Ww k u).length∧(Ww k u).length≤k+1:=by
 induction k generalizing u with
 |zero=>simp[Ww]
 |succ k ih=>
  unfold Ww;split
  ·simp
  ·have:=ih (u / 128);simp;omega

theorem put_len (u:Nat):1≤(put u).length∧(put u).length≤10:=IQ 9 u

theorem H6 (k u:Nat)(h:u<128):Ww k u=[UInt8.ofNat u]:=by
 cases k<;>simp[Ww,h]

theorem FR (k u:Nat)(h:¬u<128):Ww (k+1) u=UInt8.ofNat (u % 128+128) :: Ww k (u / 128):=by
 simp[Ww,h]

def Uv (i:Nat):Nat:=2 ^ (64-7*i)

theorem Da (i u:Nat)(hi:i<9)(h:u<Uv i):u / 128<Uv (i+1):=by
 unfold Uv at *;have e:64-7*i=(64-7*(i+1))+7:=xw
 rw[e,Nat.pow_add]at h;omega

theorem QbU (k i acc u:Nat)(t:List UInt8)(hk:k+i=9)(hu:u<Uv i) :
  JU i acc (Ww k u++t)=(acc+u*128 ^ i,i+(Ww k u).length,0):=by
 induction k generalizing i acc u with
 |zero=>
  obtain rfl:i=9:=xw
  have hu2:u<2:=by simpa [Uv]using hu
  have hc:=toNat_ofNat u xw;simp only[Ww,QlK,QlL,JU,hc];rw[Qlu xw,Qlv xw];rfl
 |succ k ih=>
  by_cases h:u<128
  ·have hc:=toNat_ofNat u xw;rw[H6 _ _ h];simp only[QlK,QlL,JU,hc];rw[Qlu xw,Qlv h];rfl
  ·have hc:=toNat_ofNat (u % 128+128) xw;rw[FR _ _ h];simp only[QlK,JU,hc];rw[Qlu xw,Qlu xw,ih (i+1) _ (u / 128) xw (Da i u xw hu)];have e:acc+(u % 128+128-128)*128 ^ i+u / 128*128 ^ (i+1)=acc+u*128 ^ i:=by
    rw[Nat.pow_succ,Nat.add_sub_cancel,Qlj,Nat.mul_comm (128 ^ i) 128,←Nat.mul_assoc,←QlZ];congr 2;omega
   rw[e];simp only[QlD,QmV,Qmf,and_true];omega

theorem H7 (u:Nat)(t:List UInt8)(h:u<2 ^ 64):take (put u++t)=(u,(put u).length,0):=by
 have:=QbU 9 0 0 u t rfl (by simpa [Uv]using h)
 simpa [take,put]using this

theorem S1 (i acc:Nat)(s:List UInt8)(hi:i≤9)(ha:acc<128 ^ i)(h:(JU i acc s).2.2=0) :
  i<(JU i acc s).2.1∧(JU i acc s).2.1≤i+s.length∧(JU i acc s).2.1≤10∧(JU i acc s).1<2 ^ 64:=by
 induction s generalizing i acc with
 |nil=>simp[JU]at h
 |cons c t ih=>
  unfold JU at h ⊢;split
  ·rename_i h1;rw[Qlv h1]at h;simp at h
  ·rename_i h1;rw[Qlu h1]at h;have hp:128 ^ i=2 ^ (7*i):=by rw[show(128:Nat)=2 ^ 7 from rfl,←Nat.pow_mul]
   split
   ·rename_i h2;refine⟨Nat.lt_succ_self i,xA,by show i+1≤10;omega,?_⟩;show acc+c.toNat*128 ^ i<2 ^ 64;rcases Nat.lt_or_ge i 9 with h9|h9
    ·have:c.toNat*128 ^ i≤127*128 ^ i:=Qmv _ xw;have h3:acc+c.toNat*128 ^ i<128 ^ (i+1):=by rw[Nat.pow_succ];omega
     have h4:128 ^ (i+1)≤128 ^ 9:=Nat.pow_le_pow_right xw xw;omega
    ·obtain rfl:i=9:=xw
     have:c.toNat≤1:=xw
     omega
   ·rename_i h2;rw[Qlu h2]at h;have h9:i<9:=by
     rcases Nat.lt_or_ge i 9 with h9|h9
     ·exact h9
     ·exact absurd ⟨xw,xw⟩ h1
    have hc:=c.toNat_lt;have h3:acc+(c.toNat-128)*128 ^ i<128 ^ (i+1):=by
     have:(c.toNat-128)*128 ^ i≤127*128 ^ i:=Qmv _ xw;rw[Nat.pow_succ];omega
    obtain⟨a,b,d,e⟩:=ih (i+1) _ xw h3 h;exact⟨xw,xD,d,e⟩

theorem Hi (s:List UInt8)(h:(take s).2.2=0):0<(take s).2.1∧(take s).2.1≤s.length∧(take s).2.1≤10∧(take s).1<2 ^ 64:=by
 have:=S1 0 0 s xw xw h
 simpa [take]using this

theorem BX (i acc:Nat)(s t:List UInt8)(h:(JU i acc s).2.2≠4):JU i acc (s++t)=JU i acc s:=by
 induction s generalizing i acc with
 |nil=>simp[JU]at h
 |cons c r ih=>
  simp only[QlK];unfold JU at h ⊢;split
  ·rfl
  ·rename_i h1;rw[Qlu h1]at h;split
   ·rfl
   ·rename_i h2;rw[Qlu h2]at h;exact ih _ _ h

theorem QbV (i acc:Nat)(s:List UInt8)(hi:i≤9)(hl:10≤i+s.length):(JU i acc s).2.2≠4:=by
 induction s generalizing i acc with
 |nil=>simp at hl;omega
 |cons c r ih=>
  unfold JU;split
  ·simp
  ·rename_i h1;split
   ·simp
   ·rename_i h2;exact ih _ _ xw (by simp at hl;omega)

theorem take_take (s:List UInt8):take (s.take 10)=take s:=by
 rcases Nat.lt_or_ge s.length 10 with h|h
 ·rw[QlY xw]
 ·have:=BX 0 0 (s.take 10) (s.drop 10) (QbV 0 0 _ xw xD);rw[QmH]at this;exact this.symm

end Go.Proofs.YtmlohboeoeoamaaGreatDoor.Vp

namespace Go.Proofs.YtmlohboeoeoamaaGreatDoor.Va
open Go Am Rc Bt Vp

theorem Wm (s:List UInt8)(j:Nat)(c:UInt8)(h:s[j]? = some c):(⟨⟨s⟩⟩:ByteArray).get! j=c:=by
 show(⟨s⟩:Array UInt8)[j]! = c;simp[h]

theorem N1 (a:UInt8)(n:Nat)(hn:n<256):(a==UInt8.ofNat n)=decide (a.toNat=n):=by
 rw[Qmi,Qls,Qlr]
 constructor
 ·rintro rfl;rw[toNat_ofNat _ hn]
 ·intro h;rw[←UInt8.toNat_inj,toNat_ofNat _ hn,h]

set_option maxHeartbeats 4000000 in
theorem QhZ (s:List UInt8)(i:Nat)(a b c d:UInt8)(t:List UInt8)(hr:s.drop i=a :: b :: c :: d :: t):(decide ((X6 s i).1=65533) && !YV s i)=decide (sz s i=0)∧(sz s i≠0→(X6 s i).2=sz s i):=by
 have hsz:∀j,(s[i+j]? = (a :: b :: c :: d :: t)[j]?):=fun j=>by rw[←hr,Ql4]
 have hn:ByteArray.size ⟨⟨s⟩⟩=s.length:=rfl;have hl:s.length=i+(a :: b :: c :: d :: t).length:=by
  have h:=congrArg List.length hr;simp at h ⊢;omega
 have h0:=hsz 0;have h1:=hsz 1;have h2:=hsz 2;have h3:=hsz 3;simp only[QlV]at h0;have g0:=Wm s i a h0;have g1:=Wm s (i+1) b h1;have g2:=Wm s (i+2) c h2;have g3:=Wm s (i+3) d h3;have l1:(i+1<s.length)=True:=jK
 have l2:(i+2<s.length)=True:=jK
 have l3:(i+3<s.length)=True:=jK
 have wa:=a.toNat_lt;have wb:=b.toNat_lt;have wc:=c.toNat_lt;have wd:=d.toNat_lt;have hrep:YV s i=(decide (a.toNat=239)&&(decide (b.toNat=191)&&decide (c.toNat=189))):=by
  exact yN
 simp only[Qmw,Qmr]at h0 h1 h2 h3;generalize hD:X6 s i=D;generalize hS:sz s i=S;rw[hrep];simp only[X6,Utf8.decode,Utf8.valid,Utf8.runeError,hn,l1,l2,l3,QlV,g0,g1,g2,g3,sz,h0,VG,tl,bt,Qlj,seval,h1,h2,h3,decide_true,Qm8,QmD,QlM,Qlq,Qlr,Qls,ge_iff_le]at hD hS;clear hsz hr hl h0 h1 h2 h3 g0 g1 g2 g3 l1 l2 l3 hrep hn;generalize a.toNat=x at *;generalize b.toNat=y at *;generalize c.toNat=z at *;generalize d.toNat=u at *
 (repeat' split at hD)<;>subst hD<;>(repeat' split at hS)<;>subst hS<;>refine⟨?_,?_⟩<;>(try rw[Qmi])<;>(try simp only[QlM,Qlr,Qmm,Qnv,Qns])<;>first|omega|(intro _;rfl)|(simp;done)|(simp;omega)

theorem IR (s:List UInt8)(i:Nat)(hi:i<s.length):(decide ((X6 s i).1=65533) && !YV s i)=decide (sz s i=0)∧(sz s i≠0→(X6 s i).2=sz s i):=by
 have hsz:∀j,(s[i+j]? = (s.drop i)[j]?):=fun j=>by rw[Ql4]
 have hn:ByteArray.size ⟨⟨s⟩⟩=s.length:=rfl;have hl:s.length=i+(s.drop i).length:=xD
 generalize hr:s.drop i=r at hsz hl;have h0:=hsz 0;have h1:=hsz 1;have h2:=hsz 2;have h3:=hsz 3;simp only[QlV]at h0
 match r,hl with
 | [],hl=>simp at hl;omega
 | [a],hl=>
  have g0:=Wm s i a h0;have l1:(i+1<s.length)=False:=jK
  have l2:(i+2<s.length)=False:=jK
  have l3:(i+3<s.length)=False:=jK
  have wa:=a.toNat_lt;have hrep:YV s i=false:=by simp[YV,hr]
  simp only[Qmw,List.getElem?_nil,Qmr]at h0 h1 h2 h3;simp only[X6,Utf8.decode,Utf8.runeError,hn,l1,l2,l3,QlV,g0,sz,h0,VG,tl,bt,Qlj,seval,h1,h2,h3,hrep,decide_false,QmW,Qna,QmD,QlH,and_false]
  (repeat' split)<;>refine⟨?_,?_⟩<;>(try rw[Qmi])<;>(try simp only[Qlr,Qmx,QmD])<;>first|omega|(intro _;rfl)|(intro _;omega)|(simp;done)|(simp;omega)
 | [a,b],hl=>
  have g0:=Wm s i a h0;have g1:=Wm s (i+1) b h1;have l1:(i+1<s.length)=True:=jK
  have l2:(i+2<s.length)=False:=jK
  have l3:(i+3<s.length)=False:=jK
  have wa:=a.toNat_lt;have wb:=b.toNat_lt;have hrep:YV s i=false:=by simp[YV,hr]
  simp only[Qmw,List.getElem?_nil,Qmr]at h0 h1 h2 h3;simp only[X6,Utf8.decode,Utf8.runeError,hn,l1,l2,l3,QlV,g0,g1,sz,h0,VG,tl,bt,Qlj,seval,h1,h2,h3,hrep,decide_false,decide_true,QmW,Qna,Qm8,QmD,QlH,and_false,QlM,Qlr,Qls,ge_iff_le]
  (repeat' split)<;>refine⟨?_,?_⟩<;>(try rw[Qmi])<;>(try simp only[Qlr,Qmx,QmD])<;>first|omega|(intro _;rfl)|(intro _;omega)|(simp;done)|(simp;omega)
 | [a,b,c],hl=>
  have g0:=Wm s i a h0;have g1:=Wm s (i+1) b h1;have g2:=Wm s (i+2) c h2;have l1:(i+1<s.length)=True:=jK
  have l2:(i+2<s.length)=True:=jK
  have l3:(i+3<s.length)=False:=jK
  have wa:=a.toNat_lt;have wb:=b.toNat_lt;have wc:=c.toNat_lt;have hrep:YV s i=(decide (a.toNat=239)&&(decide (b.toNat=191)&&decide (c.toNat=189))):=by
   exact yN
  simp only[Qmw,List.getElem?_nil,Qmr]at h0 h1 h2 h3;simp only[X6,Utf8.decode,Utf8.valid,Utf8.runeError,hn,l1,l2,l3,QlV,g0,g1,g2,sz,h0,VG,tl,bt,Qlj,seval,h1,h2,h3,hrep,decide_false,decide_true,QmW,Qna,Qm8,QmD,QlH,and_false,QlM,Qlq,Qlr,Qls,ge_iff_le]
  (repeat' split)<;>refine⟨?_,?_⟩<;>(try rw[Qmi])<;>(try simp only[QlM,Qlr,Qmm,Qns,Qnv])<;>first|omega|(intro _;rfl)|(intro _;omega)|(simp;done)|(simp;omega)
 |a :: b :: c :: d :: t,hl=>exact QhZ s i a b c d t hr

def Qh0 (s:List UInt8)(k:Nat)(st:St):Prop :=
 ∃f fr i,st=⟨f,[fr],[]⟩∧i≤s.length∧s.length-i≤k∧U1 s s.length 0=U1 s k i∧f 0=.str s∧f 6=.ptr 0 6 0∧fr 6=.iter (.str s) i

theorem Qh1 (s:List UInt8):Qh Tryz.prog 275 [.str s] (.int .i64 (U1 s s.length 0)):=by
 refine wF Tryz.func275 ?_;simp only[eK,Tryz.f275,seval];simp only[Qa,seval];refine Vx rfl rfl ?_;simp only[Qa,seval];refine Qi (Qh0 s) s.length ⟨_,_,0,rfl,Qlx _,Qlk _,rfl,xx,xx,xx⟩ ?_;rintro k st ⟨f,fr,i,rfl,hi,hk,hb,h0,h6,m6⟩;simp only[Qa,seval];refine Vy xU m6 (fun hlt=>?_) (fun hge=>?_)
 ·obtain⟨hd,hw⟩:=IR s i hlt;obtain⟨k,rfl⟩:∃n,k=n+1:=⟨k-1,xw⟩;have hbk:U1 s (k+1) i=if sz s i=0 then(i:Int)else U1 s k (i+sz s i):=by
   show(if i<s.length then _ else _)=_;rw[Qlv hlt]
  have hwr:=QhY s i hi (X6 s i).1;rw[hd]at hwr;generalize X6 s i=cw at hw hwr;obtain⟨c,w⟩:=cw;simp only[h0,Qa,seval];refine aC hwr ?_;by_cases hz:sz s i=0
  ·simp only[hz,decide_true,hb,hbk,Qa,seval]
  ·have hw:=hw hz;simp only at hw;have hle:=L9 s i hlt hz;simp only[hz,decide_false,Qa,seval];exact⟨k,xw,_,_,i+sz s i,rfl,hle,xw,by rw[hb,hbk,Qlu hz],xO,xU,by rw[←hw]<;>first|rfl|simp only[eE,seval]⟩
 ·have hbk:U1 s k i = -1:=by
   cases k with
   |zero=>rfl
   |succ k=>
    show(if i<s.length then _ else _)=_;rw[Qlu xw]
  simp only[hb,hbk,Qa,seval]

theorem S2 (s:List UInt8):Qh Tryz.prog 207 [.str s] (.bool (GE s)):=by
 refine wF Tryz.func207 ?_;simp only[eK,Tryz.f207,seval];simp only[Qa,seval];refine aC (Qh1 s) ?_;exact xu

end Go.Proofs.YtmlohboeoeoamaaGreatDoor.Va

namespace Go.Proofs.YtmlohboeoeoamaaGreatDoor.Va
open Go Am Rc Bt

def W2 (k:Int)(b:Nat):Bool :=
 if k=1 then decide ((b:Int)≤1)else if k=2 then decide (IntKind.i64.wrap (b:Int)≥-2147483648)&&decide (IntKind.i64.wrap (b:Int)≤2147483647)
 else if k=4 then decide ((b:Int)<4294967296)else if k=9 then decide ((b:Int)<2147483648)else true

theorem Qh2 (k:Int)(b:Nat):Qh Tryz.prog 366 [.int .i64 k,.int .u64 (b:Nat)] (.bool (W2 k b)):=by
 have e1:decide ((b:Int)≤4294967295)=decide ((b:Int)<4294967296):=jH
 have e2:decide ((b:Int)≤2147483647)=decide ((b:Int)<2147483648):=jH
 refine wF Tryz.func366 ?_;simp only[eK,Tryz.f366,seval];simp only[Qa,seval];unfold W2;by_cases h1:k=1
 ·subst h1;have b1:((1:Int)==1)=true:=rfl;simp only[b1,Qa,seval]
 ·have b1:(k==1)=false:=qn
  by_cases h2:k=2
  ·subst h2;have b2:((2:Int)==2)=true:=rfl;simp only[b1,b2,h1,Qa,seval];cases hd:decide (IntKind.i64.wrap (b:Int)≥-2147483648)<;>simp only[Qm8,QmW,Qa,seval]
  ·have b2:(k==2)=false:=wg
   by_cases h9:k=9
   ·subst h9;have b9:((9:Int)==9)=true:=rfl;simp only[b1,b2,b9,h1,h2,e2,Qa,seval]
   ·have b9:(k==9)=false:=vu
    by_cases h4:k=4
    ·subst h4;have b4:((4:Int)==4)=true:=rfl;simp only[b1,b2,b9,b4,h1,h2,e1,Qa,seval]
    ·have b4:(k==4)=false:=kR
     simp only[b1,b2,b9,b4,h1,h2,h4,h9,Qa,seval]

end Go.Proofs.YtmlohboeoeoamaaGreatDoor.Va

namespace Go.Proofs.YtmlohboeoeoamaaGreatDoor.Ev
open Go Am Rc

noncomputable def tab:VD:=fun k=>match k with
 |51=>some (LU,Rh,8)
 |93=>some (r93,o93,107)
 |95=>some (Aq,C2,8)
 |149=>some (SR,NQ,8)
 |152=>some (Iv,SS,8)
 |374=>some (SU,Iw,143)
 |k=>ct k

theorem QdI:DP Tryz.prog tab:=by
 intro k c rs N h;unfold tab at h;split at h
 ·cases h;exact k51
 ·cases h;exact k93
 ·cases h;exact L0
 ·cases h;exact Iu
 ·cases h;exact Qdh
 ·cases h;exact Qdj
 ·exact Qfp h

def nat:YG:=fun _ _ _=>none

theorem nat_ok:YB Tryz.prog nat:=by
 intro k args m v m' h;cases h

end Go.Proofs.YtmlohboeoeoamaaGreatDoor.Ev

namespace Go.Proofs.YtmlohboeoeoamaaGreatDoor.Va
open Go Am Rc Bt

def vo (k:Int)(b:Nat)(t:List UInt8)(l p s r:List AV):AV:=.agg [.int .i64 k,.int .u64 (b:Nat),.str t,.list l,.list p,.list s,.list r]

section
variable (k:Int)(b:Nat)(t:List UInt8)(l p s r:List AV)

def U2:Bool:=(l.length:Int)==0&&(p.length:Int)==0&&(s.length:Int)==0&&(r.length:Int)==0
def Ms:Bool:=isk k&&U2 l p s r&&(b:Int)==0&&t==[]
def emp:Bool:=(k==11&&(l.length:Int)==0)||(k==12&&(p.length:Int)==0)||Ms k b t l p s r

theorem QdJ:Qh Tryz.prog 109 [vo k b t l p s r] (.bool (U2 l p s r)):=by
 refine wF Tryz.func109 ?_;simp only[eK,Tryz.f109,seval];simp only[vo,U2,eE,seval];cases h0:((l.length:Int)==0)<;>cases h1:((p.length:Int)==0)<;>cases h2:((s.length:Int)==0)<;>simp only[h1,h2,Qm8,QmW,eE,seval]

theorem QdK (hl:l.length≤140737488351232)(hp:p.length≤140737488351232)(hs:s.length≤140737488351232)(hr:r.length≤140737488351232) :
  Qh Tryz.prog 159 [vo k b t l p s r] (.bool (U2 l p s r&&(if Zp k=true then(b:Int)==0 else t==[]))):=by
 refine wF Tryz.func159 ?_;simp only[eK,Tryz.f159,seval];have w:IntKind.i64.wrap (IntKind.i64.wrap (IntKind.i64.wrap ((l.length:Int)+(p.length:Int))+(s.length:Int))+(r.length:Int))=(l.length+p.length+s.length+r.length:Nat):=by
  simp only[QA];omega
 simp only[vo,w,eE,seval];by_cases h:l.length+p.length+s.length+r.length=0
 ·have d:decide (((l.length+p.length+s.length+r.length:Nat):Int) > 0)=false:=Qnl xw;have e:U2 l p s r=true:=by
   unfold U2;simp only[QlM,Qls];omega
  simp only[d,e,Qm8,eE,seval];refine aC (Qdv k) ?_;cases Zp k
  ·simp only[QlH,QS,eE,seval]
  ·simp only[eE,seval]
 ·have d:decide (((l.length+p.length+s.length+r.length:Nat):Int) > 0)=true:=Qnr xw;have e:U2 l p s r=false:=by
   unfold U2;rw[Qnn];simp only[ne_eq,QlM,Qls];omega
  simp only[d,e,QmW,Qa,seval]

end

open Br

def key (o:PO):Bool:=if o.card=5 then decide (o.key≥1)&&decide (o.key≤7)&&o.key != 6 else o.key==0
def BY (P:PL)(o:PO):Bool :=
 if o.kind=10 then decide (o.target≥0)&&decide (o.target<(P.progs.length:Int))&&o.card != 3
 else if o.kind=9 then decide (o.target≥0)&&decide (o.target<(P.enums.length:Int))else isk o.kind&&o.target == -1
def Wh (P:PL)(o:PO):Bool:=GE o.alias&&decide ((o.alias.length:Int)≤4096)&&decide (o.card≥1)&&decide (o.card≤5)&&key o&&BY P o
def J8 (o:PO):Bool:=o.union == -1||o.card==2
def KB:List PO→Int→Int→Option Int
 | [],n,_=>some n
 |o :: l,n,b=>if o.union=n then KB l (n+1) n else if o.union = -1∨o.union=b then KB l n o.union else none
def Kx (g:PG):Bool:=match KB g.ops 0 (-1)with
 |some n=>g.unions==n
 |none=>false
def X8 (k kd:Int)(b:Nat)(t:List UInt8)(l p s r:List AV):Bool :=
 isk k&&kd==k&&U2 l p s r&&(if Zp kd=true then(b:Int)==0 else t==[])&&W2 k b&&decide ((t.length:Int)≤4096)&&(k != 7||GE t)
def alias:List UInt8:=[97,108,105,97,115]
def nok:List AV→Bool
 | [.int _ kd,.int _ b,.str t,.list l,.list p,.list s,.list r]=>X8 7 kd b.toNat t l p s r
 |_=>false
def Yg (i:PI):Bool:=match i.notes with
 | []=>true
 | [n]=>n.name==alias&&nok n.val
 |_=>false
def W3 (P:PL)(g:PG):Bool:=Kx g&&g.ops.all fun o=>Wh P o&&J8 o
def W4 (x:PE):Bool:=x.notes.isEmpty&&x.items.all Yg
def args (P:PL):Bool:=P.progs.all (W3 P)&&P.enums.all W4

theorem QbW {α:Type}(l:List α)(p q:α→Bool):(l.all fun x=>p x&&q x)=(l.all p&&l.all q):=by
 induction l with
 |nil=>rfl
 |cons x l ih=>
  simp only[QmB,ih];cases p x<;>cases q x<;>cases l.all p<;>cases l.all q<;>rfl

theorem IS (k kd:Int)(b:Nat)(t:List UInt8)(l p s r:List AV)(hl:l.length≤140737488351232)(hp:p.length≤140737488351232)(hs:s.length≤140737488351232)(hr:r.length≤140737488351232) :
  Qh Tryz.prog 345 [.int .i64 k,vo kd b t l p s r] (.bool (X8 k kd b t l p s r)):=by
 have hle:=QdK kd b t l p s r hl hp hs hr;have hw:=Qh2 k b;simp only[vo]at hle;have n1:(kd != k)=!(kd==k):=rfl;have n2:(k != 7)=!(k==7):=rfl;have n3:decide ((t.length:Int) > 4096)=!decide ((t.length:Int)≤4096):=xK;refine wF Tryz.func345 ?_;simp only[eK,Tryz.f345,seval];simp only[vo,X8,n2,eE,seval];refine aC (NV k) ?_;cases isk k
 ·exact z7
 simp only[Qm8,Qm9,n1,eE,seval];cases a1:(kd==k)
 ·exact z7
 simp only[Qm8,Qm9,eE,seval];refine aC hle ?_;cases(U2 l p s r&&(if Zp kd=true then(b:Int)==0 else t==[]))
 ·exact z7
 simp only[Qm8,Qm9,eE,seval];refine aC hw ?_;cases W2 k b
 ·exact z7
 simp only[Qm8,Qm9,n3,eE,seval];cases a2:decide ((t.length:Int)≤4096)
 ·exact z7
 simp only[Qm8,Qm9,n2,Qa,seval];cases a3:(k==7)
 ·simp only[Qmx,Qnc,Qa,seval]
 ·simp only[Qm9,Qnd,eE,seval];refine aC (S2 t) ?_;simp only[Qa,seval]

theorem Qh3 (o:PO):Qh Tryz.prog 208 [Qu o] (.bool (key o)):=by
 refine wF Tryz.func208 ?_;simp only[eK,Tryz.f208,seval];simp only[Qu,PO.cells,key,eE,seval];by_cases h:o.card=5
 ·have b0:(o.card != 5)=false:=w_
  simp only[b0,Qlv h,eE,seval];cases a1:decide (o.key≥1)<;>cases a2:decide (o.key≤7)<;>simp only[a2,Qm8,QmW,eE,seval]
 ·have b0:(o.card != 5)=true:=w_
  simp only[b0,Qlu h,eE,seval]

section
variable (P:PL)

theorem Qh4 (o:PO):Qh Tryz.prog 209 [P.av,Qu o] (.bool (BY P o)):=by
 have e0:P.av=.agg [.list (P.progs.map Qm),.list (P.enums.map QC)]:=rfl;refine wF Tryz.func209 ?_;simp only[eK,Tryz.f209,seval];simp only[e0,Qu,PO.cells,BY,eE,seval];by_cases h:o.kind=10
 ·exact zt
 ·have b0:(o.kind==10)=false:=w_
  by_cases h9:o.kind=9
  ·exact zO
  ·have b1:(o.kind==9)=false:=vu
   simp only[b0,b1,Qlu h,Qlu h9,eE,seval];refine aC (NV o.kind) ?_;cases isk o.kind<;>simp only[Qm8,QmW,eE,seval]

def UnI (g:PG)(k:Nat)(st:St):Prop :=
 ∃f fr i n b,st=⟨f,[fr],[]⟩∧k=g.ops.length-i∧i≤g.ops.length∧(g.ops.take i).all J8=true∧KB g.ops 0 (-1)=KB (g.ops.drop i) n b∧0≤n∧n≤i∧-1≤b∧b<n∧f 1=.ptr 0 1 0∧f 3=.int .i64 (n-1)∧f 4=.int .i64 b∧
  f 8=.list (g.ops.map fun o=>.agg o.cells)∧f 9=.int .i64 (g.ops.length:Nat)∧f 10=.int .i64 (i:Nat)∧fr 1=.cells g.cells∧∀s∈[6],(fr s).isRow=false

theorem BZ {l:List PO}{i:Nat}{o:PO}(h:l[i]? = some o)(n b:Int):KB (l.drop i) n b=if o.union=n then KB (l.drop (i+1)) (n+1) n else if o.union = -1∨o.union=b then KB (l.drop (i+1)) n o.union else none:=by
 have hlt:i<l.length:=(Qlm.1 h).1;rw[Ql7 hlt,show l[i]=o from(Qlm.1 h).2];rfl

theorem Qh5 (g:PG)(hl:g.ops.length≤9223372036854775000):Qh Tryz.prog 205 [Qm g] (.bool (g.ops.all J8&&Kx g)):=by
 refine wF Tryz.func205 ?_;simp only[eK,Tryz.f205,seval];simp only[Qm,PG.cells,Qmj,eE,seval];refine Qi (UnI g) _ ⟨_,_,0,0,-1,rfl,rfl,Qlx _,rfl,rfl,xy,xy,xy,xy,xx,xx,xx,xx,xx,xx,xx,xS⟩ ?_;rintro _ st ⟨f0,fr0,i,n,b,rfl,rfl,hil,hu,hj,hn0,hni,hb1,hbn,h10,h30,h40,h80,h90,hA0,m10,r6⟩;refine QL (a:=_) [6] r6 ?_;intro f fr hf hm hn6;have h1:f 1=.ptr 0 1 0:=kj
 have h3:f 3=.int .i64 (n-1):=xW
 have h4:f 4=.int .i64 b:=jx
 have h8:f 8=.list (g.ops.map fun o=>.agg o.cells):=jM
 have h9:f 9=.int .i64 (g.ops.length:Nat):=ki
 have hA:f 10=.int .i64 (i:Nat):=by rw[hf,hA0]<;>rfl
 have m1:fr 1=.cells g.cells:=qG
 have n6:=hn6 6 xy;clear hf hm hn6 h10 h30 h40 h80 h90 hA0 m10 r6;simp only[PG.cells]at m1;have w0:IntKind.i64.wrap (n-1+1)=n:=xE
 simp only[h9,hA,Qa,seval];by_cases hlt:i<g.ops.length
 ·obtain⟨o,hi⟩:∃o,g.ops[i]? = some o:=⟨g.ops[i],Qln hlt⟩;have hg:(g.ops.map fun o=>AV.agg o.cells)[i]? = some (.agg o.cells):=wE
  have e1:=Qr i _ hlt xC;have ht:=H2 (q:=J8) hi;rw[hu,Qm8]at ht;have hbad:J8 o=false→g.ops.all J8=false:=fun h=>by
   rw[Qnn];intro h';rw[QlB.1 h' o (QlC hi)]at h;cases h
  rw[BZ hi]at hj;have fin:∀(f':Fr) (fr':Nat→Ob) (n':Int),J8 o=true→(if o.union=n then n'=n+1 else n'=n)→KB g.ops 0 (-1)=KB (g.ops.drop (i+1)) n' o.union→(o.union=n∨o.union = -1∨o.union=b)→f' 1=.ptr 0 1 0→f' 3=.int .i64 (n'-1)→f' 4=.int .i64 o.union→
    f' 8=.list (g.ops.map fun o=>.agg o.cells)→f' 9=.int .i64 (g.ops.length:Nat)→f' 10=.int .i64 ((i+1:Nat):Int)→fr' 1=.cells g.cells→(∀s∈[6],(fr' s).isRow=false)→∃k,k<g.ops.length-i∧UnI g k ⟨f',[fr'],[]⟩:=by
   intro f' fr' n' a b' c d e1 e3 e4 e8 e9 eA em er;refine⟨g.ops.length-(i+1),xw,f',fr',i+1,n',o.union,rfl,rfl,xw,by rw[ht,a],c,?_,?_,?_,?_,e1,e3,e4,e8,e9,eA,em,er⟩<;>split at b'<;>omega
  simp only[PO.cells]at hg;simp only[QB hlt,Qp,QmS,Qf,hg,PO.cells,n6,h8,hA,eE,seval];by_cases a1:o.union = -1
  ·have b1:(o.union != -1)=false:=by simp[a1]
   have hk:J8 o=true:=by simp[J8,a1]
   rw[Qlu xw,Qlv (.inl a1)]at hj;have mx:(if n-1<o.union then o.union else n-1)=n-1:=Qlu xw;simp only[b1,h3,hA,mx,e1,eE,seval];exact fin _ _ n hk (by rw[Qlu xw]) hj (.inr (.inl a1)) xL xx xx xV j7 xx qU xS
  have b1:(o.union != -1)=true:=by simp[a1]
  by_cases a2:o.card=2
  case neg=>
   have b2:(o.card != 2)=true:=by simp[a2]
   have hk:J8 o=false:=by simp[J8,a1,a2]
   simp only[b1,b2,hbad hk,QmW,eE,seval]
  have b2:(o.card != 2)=false:=by simp[a2]
  have hk:J8 o=true:=by simp[J8,a2]
  by_cases a3:o.union=n
  ·have b3:(o.union != n)=false:=by simp[a3]
   rw[Qlv a3,←a3]at hj;have mx:(if n-1<o.union then o.union else n-1)=o.union:=Qlv xw;simp only[b1,b2,b3,h3,hA,w0,mx,e1,eE,seval];exact fin _ _ (o.union+1) hk (by rw[Qlv a3,a3]) hj (.inl a3) xL (by simp only[Qa,seval];congr 1;omega) xx xV j7 xx qU xS
  have b3:(o.union != n)=true:=by simp[a3]
  by_cases a4:o.union=b
  ·have b4:(o.union != b)=false:=by simp[a4]
   rw[Qlu a3,Qlv (.inr a4)]at hj;have mx:(if n-1<o.union then o.union else n-1)=n-1:=Qlu xw;simp only[b1,b2,b3,b4,h3,h4,hA,w0,mx,e1,eE,seval];exact fin _ _ n hk (by rw[Qlu a3]) hj (.inr (.inr a4)) xL xx xx xV j7 xx qU xS
  ·have b4:(o.union != b)=true:=by simp[a4]
   rw[Qlu a3,Qlu xw]at hj;have hun:Kx g=false:=by unfold Kx;rw[hj]
   simp only[b1,b2,b3,b4,hun,Qna,h3,h4,w0,eE,seval]
 ·rw[QlY xw]at hu;rw[Ql1 xw]at hj;have hun:Kx g=(g.unions==n):=by unfold Kx;rw[hj];rfl
  simp only[QI hlt,h1,h3,m1,w0,hu,hun,Qm8,eE,seval]

theorem Qh6 (o:PO)(fr2 fr:Nat→Ob)(h1:fr 1=.cells [.list (P.progs.map Qm),.list (P.enums.map QC)]):Qe Tryz.prog 206 [Qu o,.ptr 7 1 0] [Qb,Qb,Qb,fr2,Qb,Qb,Qb,fr] fun y m1=>y=.bool (!Wh P o)∧m1=[Qb,Qb,Qb,fr2,Qb,Qb,Qb,fr]:=by
 have n1:decide ((o.alias.length:Int) > 4096)=!decide ((o.alias.length:Int)≤4096):=xK;have n2:decide (o.card<1)=!decide (o.card≥1):=xK;have n3:decide (o.card > 5)=!decide (o.card≤5):=xK;have hk:=Qh3 o;have ha:Qh Tryz.prog 209 [.agg [.list (P.progs.map Qm),.list (P.enums.map QC)],Qu o] (.bool (BY P o)):=Qh4 P o;simp only[Qu,PO.cells]at hk ha;refine wG Tryz.func206 ?_;simp only[eK,Tryz.f206,seval];simp only[Qu,PO.cells,Wh,eE,seval];refine aC (S2 o.alias) ?_;cases GE o.alias
 ·exact z7
 simp only[Qm8,Qm9,n1,eE,seval];cases a1:decide ((o.alias.length:Int)≤4096)
 ·exact z7
 simp only[n2,Qm8,Qm9,eE,seval];cases a2:decide (o.card≥1)
 ·exact z7
 simp only[n3,Qm8,Qm9,eE,seval];cases a3:decide (o.card≤5)
 ·exact z7
 simp only[Qm8,Qm9,eE,seval];refine aC hk ?_;cases key o
 ·exact z7
 simp only[Qm8,Qm9,h1,eE,seval];refine aC ha ?_;simp only[Qa,seval]

theorem Qh7 (g:PG)(hl:g.ops.length≤9223372036854775000)(fr:Nat→Ob)(h1:fr 1=.cells [.list (P.progs.map Qm),.list (P.enums.map QC)]) :
  Qe Tryz.prog 204 [Qm g,.ptr 3 1 0] [Qb,Qb,Qb,fr] fun y m1=>y=.bool (!W3 P g)∧m1=[Qb,Qb,Qb,fr]:=by
 have hu:=Qh5 g hl;have e:W3 P g=((g.ops.all J8&&Kx g)&&g.ops.all (Wh P)):=by
  unfold W3;rw[show(g.ops.all fun o=>Wh P o&&J8 o)=(g.ops.all (Wh P)&&g.ops.all J8)from QbW ..];cases Kx g<;>cases g.ops.all (Wh P)<;>cases g.ops.all J8<;>rfl
 simp only[Qm,PG.cells]at hu;refine wG Tryz.func204 ?_;simp only[eK,Tryz.f204,seval];simp only[Qm,PG.cells,e,eE,seval];refine aC hu ?_;cases(g.ops.all J8&&Kx g)
 ·exact z7
 simp only[Qm8,Qm9,eE,seval];refine Qj (Ml g.ops xC (fun o=>!Wh P o) 206 [.ptr 4 1 0] _ fun o _=>Qh6 P o _ fr h1) xB ?_;simp only[X7,Qa,seval]

end

noncomputable def S3:VD:=fun k=>match k with
 |322=>some (rk 322 Tryz.f322,Cg.rs Tryz.f322,Tryz.f322.ntmps)
 |_=>none
theorem Rp:DP Tryz.prog S3:=by
 intro k c rs N h;unfold S3 at h;split at h
 ·cases h;exact kc Tryz.func322 rfl xy
 ·cases h
def AX:Option (AV×Qk)→Bool
 |some (.mp ks vs,_)=>match Kd (.s alias) ks vs with
  |some (.agg [.int .i64 a,.int .i64 b])=>a==7&&b==84&&keys true ks
  |_=>false
 |_=>false
theorem AY:AX (Hr Ev.nat S3 (Jd Ev.nat S3 300) 322 [] [])=true:=by decide +kernel
theorem QdM:∃ks vs,Qh Tryz.prog 322 [] (.mp ks vs)∧Kd (.s alias) ks vs=some (.agg [.int .i64 7,.int .i64 84])∧keys true ks=true:=by
 have h:=AY;unfold AX at h;split at h
 ·rename_i ks vs m' h1;split at h
  ·rename_i a b h2;simp only[QlM,Qls]at h;obtain⟨⟨rfl,rfl⟩,h3⟩:=h;exact⟨ks,vs,(UW Ev.nat_ok Rp (An Ev.nat_ok Rp 300) _ _ _ _ _ h1).mono fun _ _ e=>e.1,h2,h3⟩
  ·cases h
 ·cases h

theorem Qh8:Qh Tryz.prog 359 [.str alias] (.int .i64 7):=by
 obtain⟨ks,vs,h1,h2,h3⟩:=QdM;have hg:AV.gr (.agg [.int .i64 7,.int .i64 84])=true:=rfl;refine wF Tryz.func359 ?_;simp only[eK,Tryz.f359,seval];simp only[Qa,seval];refine aC h1 ?_;simp only[KP,Am.K5,h3,cond_true,h2,hg,Qa,seval]

section
variable (kd:Int)(b:Nat)(t:List UInt8)(l p s r:List AV)(hl:l.length≤140737488351232)(hp:p.length≤140737488351232)(hs:s.length≤140737488351232)(hr:r.length≤140737488351232)

def nv:AV:=.agg [.str alias,.int .i64 kd,.int .u64 (b:Nat),.str t,.list l,.list p,.list s,.list r]

include hl hp hs hr in
theorem Qh9:Qh Tryz.prog 323 [nv kd b t l p s r] (.bool (X8 7 kd b t l p s r)):=by
 have hf:=IS 7 kd b t l p s r hl hp hs hr;have b0:((7:Int) != 0)=true:=rfl;simp only[vo]at hf;refine wF Tryz.func323 ?_;simp only[eK,Tryz.f323,seval];simp only[nv,eE,seval];refine aC Qh8 ?_;simp only[b0,eE,seval];refine aC hf ?_;simp only[Qa,seval]

include hl hp hs hr in
theorem Qia (last:List UInt8):Qh Tryz.prog 276 [nv kd b t l p s r,.int .i64 4,.str last,.bool false] (.int .i64 (if X8 7 kd b t l p s r=true then 0 else 12)):=by
 have hf:=Qh9 kd b t l p s r hl hp hs hr;obtain⟨ks,vs,h1,h2,h3⟩:=QdM;have hg:AV.gr (.agg [.int .i64 7,.int .i64 84])=true:=rfl;have b0:decide ((4:Int)<1)=false:=rfl;have b1:decide ((4:Int) > 6)=false:=rfl;have b2:(0≤(4:Int))=True:=xA
 have b3:(bits .and .i64 (Int.fdiv 84 (2 ^ min 4 64)) 1==0)=false:=xy
 have b4:(bits .and .i64 ((84:Int).fdiv (2 ^ (min (4:Int).toNat IntKind.i64.bits))) 1==0)=false:=xy
 simp only[nv]at hf;refine wF Tryz.func276 ?_;simp only[eK,Tryz.f276,seval];simp only[nv,eE,seval];refine aC h1 ?_;simp only[Am.K5,h3,cond_true,h2,hg,b2,b3,eE,seval];refine aC hf ?_;cases X8 7 kd b t l p s r
 ·simp only[Qmx,QlH,Qa,seval]
 ·simp only[Qm9,Qa,seval]

def NcI (k:Nat)(st:St):Prop :=
 ∃f fr i,st=⟨f,[fr],[]⟩∧k=1-i∧i≤1∧(i=0→∃last,f 5=.str last)∧(i=1→X8 7 kd b t l p s r=true)∧f 1=.int .i64 4∧f 12=.list [nv kd b t l p s r]∧f 13=.int .i64 1∧f 14=.int .i64 (i:Nat)∧∀s∈[7],(fr s).isRow=false

include hl hp hs hr in
theorem Qib:Qh Tryz.prog 212 [.list [nv kd b t l p s r],.int .i64 4] (.int .i64 (if X8 7 kd b t l p s r=true then 0 else 12)):=by
 have b0:decide (((1:Nat):Int) > 8)=false:=rfl;refine wF Tryz.func212 ?_;simp only[eK,Tryz.f212,seval];simp only[QlD,Qmk,QlN,Qa,seval];refine Qi (NcI kd b t l p s r) 1 ⟨_,_,0,rfl,rfl,Qlx _,fun _=>⟨[],xx⟩,(fun h=>kq),xx,xx,xx,xx,xS⟩ ?_;rintro _ st ⟨f0,fr0,i,rfl,rfl,hi,hl5,hf,h10,h120,h130,h140,r7⟩;refine QL (a:=_) [7] r7 ?_;intro f fr hff hm hn7;have h1:f 1=.int .i64 4:=by rw[hff,h10]<;>rfl
 have h12:f 12=.list [nv kd b t l p s r]:=by rw[hff,h120]<;>rfl
 have h13:f 13=.int .i64 1:=by rw[hff,h130]<;>rfl
 have h14:f 14=.int .i64 (i:Nat):=by rw[hff,h140]<;>rfl
 have h5:i=0→∃last,f 5=.str last:=fun h=>by
  obtain⟨la,e⟩:=hl5 h;exact⟨la,by rw[hff,e]<;>rfl⟩
 have n7:=hn7 7 xy;clear hff hm hn7 h10 h120 h130 h140 r7 hl5;have ho:=fun la=>Qia kd b t l p s r hl hp hs hr la
 simp only[nv]at ho h12;simp only[h13,h14,Qa,seval];rcases Nat.le_one_iff_eq_zero_or_eq_one.1 hi with rfl|rfl
 ·obtain⟨la,h5⟩:=h5 rfl;have c0:decide (((0:Nat):Int)<1)=true:=rfl;have c1:decide (((0:Nat):Int) > 0)=false:=rfl;have e1:IntKind.i64.wrap (((0:Nat):Int)+1)=((1:Nat):Int):=rfl;have z0:(0≤((0:Nat):Int))=True:=xA
  have z1:Int.toNat ((0:Nat):Int)=0:=rfl;simp only[Qf,n7,h1,h5,h12,h14,eE,seval];refine aC (ho la) ?_;cases hfv:X8 7 kd b t l p s r
  ·have d0:((12:Int) != 0)=true:=rfl;simp only[d0,QlH,Qa,seval]
  ·have d0:((0:Int) != 0)=false:=rfl;simp only[d0,h14,eE,seval];exact⟨0,xw,_,_,1,rfl,rfl,Qlk _,(fun h=>kq),fun _=>hfv,xL,jP,kS,xx,xS⟩
 ·have c0:decide (((1:Nat):Int)<1)=false:=rfl;simp only[hf rfl,Qa,seval]

end

theorem Qaa {M:Nat}{n:PN}(h:n.ok Tryz.prog M 32)(hM:M≤140737488351232):∃kd b t l p s r,n.val=[.int .i64 kd,.int .u64 ((b:Nat):Int),.str t,.list l,.list p,.list s,.list r]∧t.length≤M∧l.length≤140737488351232∧p.length≤140737488351232∧s.length≤140737488351232∧r.length≤140737488351232:=by
 obtain⟨_,k,hk⟩:=h;obtain⟨k,h⟩:=Z0 Tryz.underlying32 hk;simp only[Xy.HasL]at h;obtain⟨_,_,e,h0,_,_,rfl,h1,_,_,rfl,h2,_,_,rfl,h3,_,_,rfl,h4,_,_,rfl,h5,_,_,rfl,h6,rfl⟩:=h;obtain⟨a0,rfl,w0⟩:=Zj Tryz.underlying3 h0;obtain⟨a1,rfl,w1⟩:=Zj Tryz.underlying26 h1;obtain⟨a2,rfl,w2⟩:=K9 Tryz.underlying9 h2;obtain⟨_,l3,rfl,w3,_⟩:=Y8 Tryz.underlying27 h3;obtain⟨_,l4,rfl,w4,_⟩:=Y8 Tryz.underlying28 h4;obtain⟨_,l5,rfl,w5,_⟩:=Y8 Tryz.underlying29 h5;obtain⟨_,l6,rfl,w6,_⟩:=Y8 Tryz.underlying30 h6;have hb:0≤a1:=CX w1;obtain⟨b,rfl⟩:=Qnb hb;exact⟨a0,b,a2,_,_,_,_,e,w2,xD,xD,xD,xD⟩

theorem Qic {M:Nat}(hM:M≤140737488351232)(x:PI)(hx:x.ok M)(m:Qk):Qe Tryz.prog 211 [XD x] m fun y m1=>y=.bool (!Yg x)∧m1=m:=by
 have z0:(0≤(0:Int))=True:=xA
 have z1:Int.toNat 0=0:=rfl;refine wG Tryz.func211 ?_;simp only[eK,Tryz.f211,seval];simp only[XD,PI.cells,Qmj,eE,seval];rcases hn:x.notes with _|⟨n,_|⟨n2,ns⟩⟩
 ·have c0:decide (((0:Nat):Int) > 1)=false:=rfl;have c1:(((0:Nat):Int)==1)=false:=rfl;have e:Yg x=true:=by unfold Yg;rw[hn]
  simp only[Qmk,Qmq,e,Qm9,eE,seval]
 ·obtain⟨kd,b,t,l,p,s,r,hv,ht,h3,h4,h5,h6⟩:=Qaa (hx.notes n (by rw[hn];simp)) hM;have c0:decide (((1:Nat):Int) > 1)=false:=rfl;have c1:(((1:Nat):Int)==1)=true:=rfl;have e:Yg x=(n.name==alias&&X8 7 kd b t l p s r):=by
   unfold Yg;rw[hn];show(n.name==alias&&nok n.val)=_;rw[hv];rfl
  have en:Zg n.cells=.agg [.str n.name,.int .i64 kd,.int .u64 ((b:Nat):Int),.str t,.list l,.list p,.list s,.list r]:=by
   rw[PN.cells,hv];rfl
  have hne:(!(n.name==[97,108,105,97,115]))=!(n.name==alias):=rfl;have hc:=Qib kd b t l p s r h3 h4 h5 h6;simp only[nv]at hc;simp only[QlD,Qmk,QlW,Qmq,QlN,en,Qf,z0,z1,Qmr,QS,hne,e,eE,seval];by_cases ha:n.name=alias
  ·have b0:(n.name==alias)=true:=by simp[ha]
   rw[←ha]at hc;simp only[b0,Qm9,Qm8,eE,seval];refine aC hc ?_;cases X8 7 kd b t l p s r
   ·have d0:((12:Int) != 0)=true:=rfl;simp only[QlH,d0,Qmx,Qa,seval]
   ·have d0:((0:Int) != 0)=false:=rfl;simp only[d0,Qm9,Qa,seval]
  ·have b0:(n.name==alias)=false:=by simp[ha]
   simp only[b0,Qmx,QmW,Qa,seval]
 ·have c0:decide ((((ns.length+1+1:Nat)):Int) > 1)=true:=Qnr xw;have e:Yg x=false:=by unfold Yg;rw[hn]
  simp only[QlD,c0,e,Qmx,Qa,seval]

theorem Qid {M:Nat}(hM:M≤140737488351232)(x:PE)(hx:x.ok M)(m:Qk):Qe Tryz.prog 210 [QC x] m fun y m1=>y=.bool (!W4 x)∧m1=m:=by
 have n1:decide ((x.notes.length:Int) > 0)=!x.notes.isEmpty:=by
  cases x.notes with
  |nil=>rfl
  |cons a l=>simp
 refine wG Tryz.func210 ?_;simp only[eK,Tryz.f210,seval];simp only[QC,PE.cells,Qmj,W4,n1,eE,seval];cases a1:x.notes.isEmpty
 ·exact z8
 simp only[Qm9,Qm8,eE,seval];refine Qj (SZ x.items hx.len1 (fun o=>!Yg o) 211 [] _ fun o ho=>Qic hM o (hx.items o ho) _) xB ?_;simp only[X7,Qa,seval]

theorem Qie {M:Nat}(hM:M≤140737488351232)(P:PL)(hP:P.ok M)(hl:∀g∈P.progs,g.ops.length≤64):Qh Tryz.prog 125 [P.av] (.bool (!args P)):=by
 have e0:P.av=.agg [.list (P.progs.map Qm),.list (P.enums.map QC)]:=rfl;refine wF Tryz.func125 ?_;simp only[eK,Tryz.f125,seval];simp only[e0,args,eE,seval];refine Qj (N0 P.progs hP.len1 (fun g=>!W3 P g) 204 [.ptr 0 1 0] _ fun o ho=>Qh7 P o (Qll (hl o ho) xy) _ xx) xB ?_;simp only[X7,Qa,seval];cases P.progs.all (W3 P)
 ·exact z8
 simp only[Qm9,Qm8,eE,seval];refine Qj (FP P.enums hP.len2 (fun g=>!W4 g) 210 [] _ fun o ho=>Qid hM o (hP.enums o ho) _) xB ?_;simp only[X7,Qa,seval]

def ZY (B:List Bool)(o:PO):Bool:=o.card==1&&o.kind==10 && !(B[o.target.toNat]?.getD false)
def Db (G:List PG)(B:List Bool)(i:Nat):List Bool:=match G[i]? with
 |some g=>B.set i (!g.ops.any (ZY B))
 |none=>B
def KC (G:List PG)(B:List Bool):Nat→List Bool
 |0=>B
 |i+1=>Db G (KC G B i) i
def its (G:List PG):Nat→List Bool
 |0=>List.replicate G.length false
 |c+1=>KC G (its G c) G.length
def fin (P:PL):Bool:=(its P.progs P.progs.length).all id

def Tgt (P:PL):Prop:=∀g∈P.progs,∀o∈g.ops,o.kind=10→0≤o.target∧o.target<(P.progs.length:Int)

theorem QbX (G:List PG)(B:List Bool)(i:Nat):(Db G B i).length=B.length:=by
 unfold Db;split<;>simp
theorem DS (G:List PG)(B:List Bool):∀i,(KC G B i).length=B.length
 |0=>rfl
 |i+1=>by rw[KC,QbX,DS G B i]
theorem DT (G:List PG):∀c,(its G c).length=G.length
 |0=>by simp[its]
 |c+1=>by rw[its,DS,DT G c]

def Rq (G:List PG)(B:List Bool):Prop:=∀(i:Nat) (g:PG),G[i]? = some g→B[i]? = some true→g.ops.any (ZY B)=false

theorem AZ {B B':List Bool}(h:∀k:Nat,B[k]?.getD false=true→B'[k]?.getD false=true){o:PO}(hn:ZY B o=false):ZY B' o=false:=by
 unfold ZY at *;cases hc:(o.card==1&&o.kind==10)
 ·rfl
 ·rw[hc]at hn;simp only[Qm8,Bool.not_eq_false']at hn ⊢;rw[h _ hn]

theorem QbY {G:List PG}{B:List Bool}(h:Rq G B)(i:Nat):Rq G (Db G B i)∧∀k:Nat,B[k]?.getD false=true→(Db G B i)[k]?.getD false=true:=by
 have mono:∀k:Nat,B[k]?.getD false=true→(Db G B i)[k]?.getD false=true:=by
  intro k hk;unfold Db;split
  ·rename_i g hg;by_cases hki:i=k
   ·subst hki;have hb:B[i]? = some true:=by
     cases hB:B[i]? with
     |none=>rw[hB]at hk;cases hk
     |some b=>rw[hB]at hk;simp at hk;rw[hk]
    have hlt:=(Qlm.1 hb).1;rw[List.getElem?_set_self hlt,h i g hg hb];rfl
   ·rw[Qnw hki];exact hk
  ·exact hk
 refine⟨fun j g hg hb=>?_,mono⟩;rw[List.any_eq_false];intro o ho;rw[Qnx];have hB:B[j]? = some true∨g.ops.any (ZY B)=false:=by
  unfold Db at hb;split at hb
  ·rename_i g' hg';by_cases hij:i=j
   ·subst hij;rw[hg]at hg';cases hg'
    right
    by_cases hlt:i<B.length
    ·rw[List.getElem?_set_self hlt]at hb
     simpa using hb
    ·rw[QmO xD]at hb;cases hb
   ·rw[Qnw hij]at hb;exact .inl hb
  ·exact .inl hb
 have ha:g.ops.any (ZY B)=false:=hB.elim (h j g hg) id;rw[List.any_eq_false]at ha;exact AZ mono (by simpa using ha o ho)

theorem N2 {G:List PG}{B:List Bool}(h:Rq G B):∀i,Rq G (KC G B i)
 |0=>h
 |i+1=>(QbY (N2 h i) i).1
theorem Rr (G:List PG):∀c,Rq G (its G c)
 |0=>by
  intro i g _ hb;rw[its,List.getElem?_replicate]at hb;split at hb<;>cases hb
 |c+1=>N2 (Rr G c) _

theorem QdO {G:List PG}{B:List Bool}(h:Rq G B){i:Nat}{g:PG}{b:Bool}(hg:G[i]? = some g)(hb:B[i]? = some b):Db G B i=B.set i (b || !g.ops.any (ZY B)):=by
 unfold Db;rw[hg];cases b with
 |false=>rfl
 |true=>
  show B.set i _=B.set i (true||_);rw[h i g hg hb];rfl

theorem S4 {P:Program}{f:Fr}{d:Nat}{its:List Am.Item}{m:Qk}{ds:List DF}{K:St→Prop}{k l s:Nat}{args:List RA}{ys:List AV}{v:AV}(hk:Qe P k ys m fun x m1=>x=v∧m1=m)(hy:args.map (RA.ev f)=ys)(h:QD P its ⟨QJ f d v,m,ds⟩ K) :
  QD P (⟨some d,.callK l s (.f k) args,none⟩ :: its) ⟨f,m,ds⟩ K:=by
 refine⟨k,[],[],v,m,rfl,?_,rfl,h⟩;show Qe P k (args.map (RA.ev f)++[]) m fun x m1=>x=v∧m1=m
 rw[Qms,hy];exact hk

theorem Qif (B:List Bool)(hl:B.length≤maxLen):Qh Tryz.prog 277 [.list (B.map AV.bool),.bool false] (.int .i64 (Za (fun b=>!b) B 0)):=by
 let I:Nat→St→Prop:=fun k st=>∃f i,st=⟨f,[Qb],[]⟩∧k=B.length-i∧Za (fun b=>!b) B 0=Za (fun b=>!b) (B.drop i) i∧f 0=.list (B.map AV.bool)∧f 1=.bool false∧f 7=.int .i64 (B.length:Nat)∧f 8=.int .i64 (i:Nat)
 refine wF Tryz.func277 ?_;simp only[eK,Tryz.f277,seval];simp only[Qmj,Qa,seval];refine Qi I _ ⟨_,0,rfl,rfl,rfl,xx,xx,xx,xx⟩ ?_;rintro _ st ⟨f,i,rfl,rfl,hx,h0,h1,h7,h8⟩;simp only[h7,h8,Qa,seval];by_cases hlt:i<B.length
 ·obtain⟨x,hi⟩:∃x,B[i]? = some x:=⟨B[i],Qln hlt⟩;have hg:(B.map AV.bool)[i]? = some (.bool x):=wE
  have e1:=Qr i _ hlt hl;rw[FN _ hi]at hx;cases x
  ·rw[Qlv (show(!false)=true from rfl)]at hx;have b0:(false==false)=true:=rfl;simp only[QB hlt,Qp,QmS,Qf,hg,b0,h0,h1,h8,hx,eE,seval]
  ·rw[Qlu xy]at hx;have b0:(false==true)=false:=rfl;simp only[QB hlt,Qp,QmS,Qf,hg,b0,h0,h1,h8,e1,eE,seval];exact⟨B.length-(i+1),xw,_,i+1,rfl,rfl,hx,xO,xL,xZ,xx⟩
 ·have hx':Za (fun b=>!b) B 0 = -1:=wl
  simp only[QI hlt,hx',Qa,seval]

theorem Qig (B:List Bool)(hl:B.length≤maxLen):Qh Tryz.prog 214 [.list (B.map AV.bool),.bool false] (.bool (!B.all id)):=by
 have e:(!B.all id)=B.any fun b=>!b:=by rw[X7];rfl
 refine wF Tryz.func214 ?_;simp only[eK,Tryz.f214,seval];simp only[Qa,seval];refine aC (Qif B hl) ?_;simp only[Wv,e,Qa,seval]

theorem Qih (o:PO)(n:Nat)(B:List Bool)(hB:B.length=n)(ht:o.kind=10→0≤o.target∧o.target<(n:Int))(fr:Nat→Ob)(m:Qk)(h3:fr 3=.cells [.vec 0 9 1 0 n false])(h9:fr 9=.vec 1 1 (B.map AV.bool)) :
  Qe Tryz.prog 213 [Qu o,.ptr 3 3 0] (Qb :: Qb :: Qb :: fr :: m) fun y m1=>y=.bool (ZY B o)∧m1=Qb :: Qb :: Qb :: fr :: m:=by
 refine wG Tryz.func213 ?_;simp only[eK,Tryz.f213,seval];simp only[Qu,PO.cells,ZY,eE,seval];cases a1:(o.card==1)
 ·exact zC
 cases a2:(o.kind==10)
 ·simp only[a2,QmW,Qna,eE,seval]
 obtain⟨t1,t2⟩:=ht (by simpa using a2);obtain⟨t,hte⟩:=Qnb t1;obtain⟨y,hy⟩:∃y,B[t]? = some y:=⟨B[t]' xw,Qln xw⟩;have hg:(B.map AV.bool)[t]? = some (.bool y):=kY
 have hlt:(t<n)=True:=eq_true xw;simp only[a2,hte,hy,hg,hlt,h3,h9,Qf,Qp,QmS,QmA,Qm8,QlN,eE,seval]

structure En (P:PL)(c:Nat)(B:List Bool)(f:Fr)(fr:Nat→Ob):Prop where
 h1:f 1=.ptr 0 1 0
 m1:fr 1=.cells [.list (P.progs.map Qm),.list (P.enums.map QC)]
 h3:f 3=.ptr 0 3 0
 m3:fr 3=.cells [.vec 0 9 1 0 P.progs.length false]
 m9:fr 9=.vec 1 1 (B.map AV.bool)
 h12:f 12=.int .i64 (P.progs.length:Nat)
 h13:f 13=.int .i64 (c:Nat)
 r5:∀s∈[5],(fr s).isRow=false

theorem En.drop {P:PL}{c:Nat}{B:List Bool}{f f':Fr}{fr fr':Nat→Ob}(h:En P c B f fr)(hf:∀i,f' i=GW [5] (f i))(hm:∀i,i∉[5]→fr' i=HX [5] (fr i))(hn:∀i∈[5],fr' i=.none):En P c B f' fr' where
 h1:=by rw[hf,h.h1]<;>rfl
 m1:=by rw[hm 1 xy,h.m1]<;>rfl
 h3:=by rw[hf,h.h3]<;>rfl
 m3:=by rw[hm 3 xy,h.m3]<;>rfl
 m9:=by rw[hm 9 xy,h.m9]<;>rfl
 h12:=by rw[hf,h.h12]<;>rfl
 h13:=by rw[hf,h.h13]<;>rfl
 r5:=fun s hs=>by rw[hn s hs]<;>rfl

def EnA (P:PL)(k:Nat)(st:St):Prop:=∃f fr c,st=⟨f,[fr],[]⟩∧k=P.progs.length-c∧c≤P.progs.length∧En P c (its P.progs c) f fr
def EnB (P:PL)(c:Nat)(k:Nat)(st:St):Prop:=∃f fr i,st=⟨f,[fr],[]⟩∧k=P.progs.length-i∧i≤P.progs.length∧En P c (KC P.progs (its P.progs c) i) f fr∧f 16=.list (P.progs.map Qm)∧f 17=.int .i64 (P.progs.length:Nat)∧f 18=.int .i64 (i:Nat)

theorem Qii {M:Nat}(P:PL)(hP:P.ok M)(hl:P.progs.length≤64)(hT:Tgt P):Qh Tryz.prog 126 [P.av] (.bool (!fin P)):=by
 have e0:P.av=.agg [.list (P.progs.map Qm),.list (P.enums.map QC)]:=rfl;have hmx:P.progs.length≤maxLen:=xC
 have hz:ZS 1 [AV.bool false]=.bool false:=rfl;have hr0:(List.replicate P.progs.length (AV.bool false))=(its P.progs 0).map AV.bool:=by simp[its]
 refine wF Tryz.func126 ?_;simp only[eK,Tryz.f126,seval];simp only[e0,Qmj,eE,seval];refine DL (n:=P.progs.length) (k:=P.progs.length) rfl rfl (Qlk _) xw xw rfl ?_;simp only[hz,hr0,Qmj,eE,seval];refine Qi (EnA P) _ ⟨_,_,0,rfl,rfl,Qlx _,⟨xx,xx,xx,xx,xx,xx,xx,xS⟩⟩ ?_;rintro _ st ⟨f0,fr0,c,rfl,rfl,hc,H0⟩;refine QL (a:=_) [5] H0.r5 ?_;intro f fr hf hm hn;have H:=H0.drop hf hm hn;clear hf hm hn;obtain⟨h1,m1,h3,m3,m9,h12,h13,r5⟩:=id H;simp only[h12,h13,Qa,seval];by_cases hlt:c<P.progs.length
 ·have e1:=Qr c _ hlt hmx;simp only[QB hlt,h1,m1,Qmj,eE,seval];refine Qi (EnB P c) _ ⟨_,_,0,rfl,rfl,Qlx _,⟨xL,qU,xM,j5,(by exact m9),jP,kS,r5⟩,xx,xx,xx⟩ ?_;rintro _ st ⟨f0,fr0,i,rfl,rfl,hi,H0,h160,h170,h180⟩;refine QL (a:=_) [5] H0.r5 ?_;intro f fr hf hm hn;have H:=H0.drop hf hm hn;have h16:f 16=.list (P.progs.map Qm):=wH
  have h17:f 17=.int .i64 (P.progs.length:Nat):=qM
  have h18:f 18=.int .i64 (i:Nat):=qo
  have n5:=hn 5 xy;clear hf hm hn;obtain⟨h1,m1,h3,m3,m9,h12,h13,r5⟩:=id H;simp only[h17,h18,Qa,seval];by_cases hli:i<P.progs.length
  ·obtain⟨g,hg⟩:∃g,P.progs[i]? = some g:=⟨P.progs[i],Qln hli⟩;have hgm:(P.progs.map Qm)[i]? = some (Qm g):=by simp[hg]
   have hBl:(KC P.progs (its P.progs c) i).length=P.progs.length:=by rw[DS,DT]
   obtain⟨b,hb⟩:∃b,(KC P.progs (its P.progs c) i)[i]? = some b:=⟨_,Qln xw⟩;have hbm:((KC P.progs (its P.progs c) i).map AV.bool)[i]? = some (.bool b):=by simp[hb]
   have hst:=QdO (N2 (Rr P.progs c) i) hg hb;have e2:=Qr i _ hli hmx;have s1:(i<P.progs.length)=True:=eq_true hli;have hTg:=hT g (QlC hg);generalize hBB:KC P.progs (its P.progs c) i=B at *;have fin2:∀(f':Fr) (fr':Nat→Ob) (v:Bool),(b || !g.ops.any (ZY B))=v→f' 1=.ptr 0 1 0→fr' 1=.cells [.list (P.progs.map Qm),.list (P.enums.map QC)]→f' 3=.ptr 0 3 0→fr' 3=.cells [.vec 0 9 1 0 P.progs.length false]→
     fr' 9=.vec 1 1 ((B.map AV.bool).set i (.bool v))→f' 12=.int .i64 (P.progs.length:Nat)→f' 13=.int .i64 (c:Nat)→(∀s∈[5],(fr' s).isRow=false)→f' 16=.list (P.progs.map Qm)→f' 17=.int .i64 (P.progs.length:Nat)→f' 18=.int .i64 ((i+1:Nat):Int)→∃k,k<P.progs.length-i∧EnB P c k ⟨f',[fr'],[]⟩:=by
    intro f' fr' v hv a1 a2 a3 a4 a5 a6 a7 a8 a9 a10 a11;have hB':KC P.progs (its P.progs c) (i+1)=B.set i v:=by rw[KC,hBB,hst,hv]
    exact⟨P.progs.length-(i+1),xw,f',fr',i+1,rfl,rfl,xw,⟨a1,a2,a3,a4,by rw[hB',a5,List.map_set],a6,a7,a8⟩,a9,a10,a11⟩
   have ist:∀(fr':Nat→Ob) (v:Bool),fr' 9=.vec 1 1 (B.map AV.bool)→Xp [fr'] (.vptr 0 9 1 i 0) [.bool v]=some [QJ fr' 9 (.vec 1 1 ((B.map AV.bool).set i (.bool v)))]:=by
    intro fr' v h9;have e:Am.Qc [fr'] 0 9=.vec 1 1 (B.map AV.bool):=h9;simp only[Xp,e,hbm];simp[AV.cells,AV.rfL,AV.rf,Am.put,JP]
   have ia:∀fr':Nat→Ob,fr' 9=.vec 1 1 (B.map AV.bool)→Qf [fr'] 1 none (.vec 0 9 1 0 P.progs.length false) (i:Int)=some (.vptr 0 9 1 i 0):=by
    intro fr' h9;have e:Am.Qc [fr'] 0 9=.vec 1 1 (B.map AV.bool):=h9;simp only[Qf,e,Qp,if_true,QmS];simp;omega
   have hcl:=fun(fr':Nat→Ob) (h3:fr' 3=.cells [.vec 0 9 1 0 P.progs.length false]) (h9:fr' 9=.vec 1 1 (B.map AV.bool))=>Ml g.ops (hP.progs g (QlC hg)).len (ZY B) 213 [.ptr 0 3 0] [fr'] fun o ho=>Qih o P.progs.length B hBl (hTg o ho) fr' _ h3 h9
   simp only[QB hli,Qp,QmS,Qf,hgm,Qm,PG.cells,n5,hbm,s1,QlN,h3,h16,h18,m3,m9,eE,seval];cases b
   ·simp only[eE,seval];refine S4 (hcl _ j5 (by exact m9)) (by simp only[QlW,Qmq,h3,Qa,seval]<;>rfl) ?_;generalize hav:g.ops.any (ZY B)=av;rw[hav]at fin2;exact zj
   ·exact zj
  ·have hii:i=P.progs.length:=xw
   subst hii;simp only[QI hli,h13,e1,Qa,seval];exact⟨P.progs.length-(c+1),xw,_,_,c+1,rfl,rfl,xw,⟨xL,qU,xM,j5,m9,jP,xx,r5⟩⟩
 ·have hcc:c=P.progs.length:=xw
  subst hcc;have hBl:=DT P.progs P.progs.length;simp only[QI hlt,h3,m3,eE,seval];refine Zf (Qig (its P.progs P.progs.length) xw) ?_ rfl rfl (.inr rfl) ?_
  ·have el:Am.Qc [fr] 0 9=.vec 1 1 ((its P.progs P.progs.length).map AV.bool):=m9;simp only[QlW,Qmq,AV.stillL,AV.still,el,Qa,seval];have hle:(0+P.progs.length≤((its P.progs P.progs.length).map AV.bool).length)=True:=eq_true xD;have ht:((its P.progs P.progs.length).map AV.bool).take P.progs.length=(its P.progs P.progs.length).map AV.bool:=QlY xD;simp only[QmW,QlH,if_false,hle,if_true,ht]
  ·simp only[fin,Qa,seval]

def ck (P:PL):Int :=
 if Fw P=false then 3 else if BT P=false then 8 else if G4 P=false then 11 else if Mk P=false then 9 else if BW P=false then 6 else if args P=false then 1 else if fin P=false then 19 else 0

theorem Dc {P:PL}(h:Fw P=true):P.progs.length≤64∧P.enums.length≤64∧(∀g∈P.progs,g.ops.length≤64)∧∀e∈P.enums,1≤e.items.length∧e.items.length≤64∧e.free.length≤16:=by
 unfold Fw at h;simp only[QlM,Qlr,QlB]at h;obtain⟨⟨⟨h1,h2⟩,h3⟩,h4⟩:=h;refine⟨h1,h2,fun g hg=>?_,fun e he=>?_⟩
 ·have:=h3 g hg;unfold WZ at this;exact of_decide_eq_true this
 ·have:=h4 e he;unfold Us at this;simp only[QlM,Qlr]at this;exact⟨this.1.1,this.1.2,this.2⟩

theorem Mt {P:PL}(h:args P=true):Tgt P:=by
 intro g hg o ho hk;unfold args at h;simp only[QlM,QlB]at h;have h1:=h.1 g hg;unfold W3 at h1;simp only[QlM,QlB]at h1;have h2:=(h1.2 o ho).1;unfold Wh at h2;simp only[QlM]at h2;have h3:=h2.2;unfold BY at h3;rw[Qlv hk]at h3;simp only[QlM,Qlr]at h3;exact⟨h3.1.1,h3.1.2⟩

theorem Qij {M:Nat}(P:PL)(hP:P.ok M)(hM:M≤140737488351232)(hN1:∀g∈P.progs,g.name.length≤17592186044000)(hN2:∀g∈P.enums,g.name.length≤17592186044000):Qh Tryz.prog 76 [P.av] (.int .i64 (ck P)):=by
 have e0:P.av=.agg [.list (P.progs.map Qm),.list (P.enums.map QC)]:=rfl;have c1:=Qhv P hP;have c2:=Qfs P hP hN1 hN2;have c3:=Qhw P hP;have c4:=QhG P hP;refine wF Tryz.func76 ?_;simp only[eK,Tryz.f76,seval];simp only[e0,ck,eE,seval];refine aC c1 ?_;cases hl:Fw P
 ·exact za
 obtain⟨l1,l2,l3,l4⟩:=Dc hl;have c5:=QhN P hP fun e he h=>by have:=(l4 e he).1;rw[h]at this;simp at this
 have c6:=Qie hM P hP l3;simp only[Qm9,Qny,eE,seval];refine aC c2 ?_;cases BT P
 ·exact za
 simp only[Qm9,Qny,eE,seval];refine aC c3 ?_;cases G4 P
 ·exact za
 simp only[Qm9,Qny,eE,seval];refine aC c4 ?_;cases Mk P
 ·exact za
 simp only[Qm9,Qny,eE,seval];refine aC c5 ?_;cases BW P
 ·exact za
 simp only[Qm9,Qny,eE,seval];refine aC c6 ?_;cases ha:args P
 ·exact za
 have c7:=Qii P hP l1 (Mt ha);simp only[Qm9,Qny,eE,seval];refine aC c7 ?_;cases fin P
 ·exact za
 ·simp only[Qm9,Qny,Qa,seval]

def Pc (P:PL):List AV:=[.list (P.progs.map Qm),.list (P.enums.map QC)]
theorem Dd (P:PL):P.av=.agg [.list (P.progs.map Qm),.list (P.enums.map QC)]:=rfl
theorem IU (b:Bool)(q:Nat→Bool)(i:Nat):(b&&Qt q (i+1))=((b&&Qt q i)&&q i):=by rw[Qt,Ql9]

def Ac (n s:Nat)(q:Nat→Bool)(b:Bool)(c:Nat)(L:List (Nat×AV))(O:List (Nat×Ob))(l:List Nat)(m:Qk):Nat→St→Prop :=
 Ix (fun k=>(3,.bool (b&&Qt q k)) :: (c,.int .i64 (k:Nat)) :: L) (fun _=>O) l (fun k=>n-k) (fun k=>s≤k∧(k≤n∨k=s)) (fun _=>m)
section
variable {P:Program}{a:RC}{Q:Exit→St→Prop}{f:Fr}{fr:Nat→Ob}{m:Qk}{n s k:Nat}{q:Nat→Bool}{b:Bool}{c:Nat}{L:List (Nat×AV)}{O:List (Nat×Ob)}{l:List Nat}
theorem Mu (k:Int):∀l,GW l (.int .i64 k)=.int .i64 k
 | []=>rfl
 |_ :: l=>Mu k l
theorem VH (b:Bool):∀l,GW l (.bool b)=.bool b
 | []=>rfl
 |_ :: l=>VH b l
theorem Xt (n s:Nat)(q:Nat→Bool)(b:Bool)(c:Nat)(L:List (Nat×AV))(O:List (Nat×Ob))(l:List Nat)(h0:(b&&Qt q s)=b)
  (h:∀(k:Nat) f fr,s≤k∧(k≤n∨k=s)→QU P a ⟨XL ((3,.bool (b&&Qt q k)) :: (c,.int .i64 (k:Nat)) :: L) f,XL (O++l.map fun s=>(s,.none)) fr :: m,[]⟩ (Kl (Ac n s q b c L O l m) (n-k) Q))
  (hf:Ag f ((3,.bool b) :: (c,.int .i64 (s:Nat)) :: L):=by exact rfl) (ho:Ag fr O:=by exact rfl) (hr:(l.all fun s=>!(fr s).isRow)=true:=by exact rfl)
  (hs:L.map (fun q=>GW l q.2)=L.map Prod.snd:=by exact rfl) (ht:O.map (fun q=>(l.contains q.1,HX l q.2))=O.map fun q=>(false,q.2):=by exact rfl):QU P (.loop (DO l a)) ⟨f,fr :: m,[]⟩ Q :=
 Hv (X:=Nat) (fun k=>(3,.bool (b&&Qt q k)) :: (c,.int .i64 (k:Nat)) :: L) (fun _=>O) l (fun k=>n-k) (fun k=>s≤k∧(k≤n∨k=s)) (fun _=>m) s ⟨Qlk _,.inr rfl⟩ h (by rw[h0];exact hf) ho hr rfl (fun k=>by simp only[QlW,hs,Mu,VH]) (fun _=>ht)
theorem Ac.go {v:Bool}(hk:s≤k∧(k≤n∨k=s))(hlt:k<n)(hf:Ag f ((3,.bool v) :: (c,.int .i64 ((k+1:Nat):Int)) :: L))(hv:((b&&Qt q k)&&q k)=v)(ho:Ag fr O:=by exact rfl)(hr:(l.all fun s=>!(fr s).isRow)=true:=by exact rfl) :
  ∃j,j<n-k∧Ac n s q b c L O l m j ⟨f,fr :: m,[]⟩ :=
 Ix.go (k+1) xw ⟨xw,.inl xw⟩ (by rw[IU,hv];exact hf) ho hr
theorem JV (h0:∀i,i<s→q i=true)(hk:s≤k∧(k≤n∨k=s))(hn:¬k<n):Qt q k=Qt q n:=by
 rcases Nat.lt_or_ge n k with h|h
 ·rw[Q3.2 fun i hi=>h0 i xw,Q3.2 fun i hi=>h0 i xw]
 ·rw[show k=n by omega]
theorem ZG {α:Type}{l:List α}{q:α→Bool}{k:Nat}(hk:0≤k∧(k≤l.length∨k=0))(hn:¬k<l.length):Qt (Xg l q) k=l.all q:=by
 rw[JV (fun i hi=>absurd hi (Qnz i)) hk hn,H1]
end
theorem Xe {α:Type}{l:List α}{i:Nat}{x:α}(g:α→AV)(h:l[i]? = some x):(l.map g)[i]? = some (g x):=by
 rw[QmN,h];rfl

section
variable {M:Nat}(P:PL)(hP:P.ok M)
include hP

theorem z33:Qh Tryz.prog 33 [P.av] (.bool (Fw P)):=by
 obtain⟨B,hB⟩:∃B,(decide ((P.progs.length:Int)≤64)&&decide ((P.enums.length:Int)≤64))=B:=⟨_,rfl⟩;have hl:Fw P=((B&&P.progs.all WZ)&&P.enums.all Us):=by
  rw[←hB,show decide ((P.progs.length:Int)≤64)=decide (P.progs.length≤64)by rw[decide_eq_decide];omega,show decide ((P.enums.length:Int)≤64)=decide (P.enums.length≤64)by rw[decide_eq_decide];omega];rfl
 refine wF Tryz.func33 ?_;simp only[eK,Tryz.f33,seval];simp only[Dd,Qmj,eE,seval];cases c1:decide ((P.progs.length:Int)≤64)
 all_goals
  rw[c1]at hB;simp only[Qm8,QmW]at hB;simp only[Qmj,cond_true,cond_false,eE,seval];refine Xt P.progs.length 0 (Xg P.progs WZ) B 4 [(1,.ptr 0 1 0)] [(1,.cells (Pc P))] [] jB ?_ (by rw[←hB];rfl);rintro k f fr hk;simp only[Pc,Qmj,XL,Qmq,eE,seval];rcases XS P.progs k with⟨x,hx,hlt⟩|hlt
  ·have hg:=Xe Qm hx;have e1:=Qr k _ hlt hP.len1;have e3:decide ((x.ops.length:Int)≤64)=WZ x:=by unfold WZ;exact(by rw[Qmi];simp only[Qlr];omega)
   rw[G6]at hg;cases hb:(B&&Qt (Xg P.progs WZ) k)
   ·simp only[QB hlt,e1,cond_true,cond_false,Qa,seval];exact Ac.go hk hlt rfl q8
   ·simp only[QB hlt,Qp,QmS,Qf,hg,Qmj,e1,e3,cond_true,cond_false,eE,seval];exact Ac.go hk hlt rfl (by rw[hb,XM hx];rfl)
  simp only[QI hlt,ZG hk hlt,Qa,seval];refine Xt P.enums.length 0 (Xg P.enums Us) (B&&P.progs.all WZ) 5 [(1,.ptr 0 1 0)] [(1,.cells (Pc P))] [] jB ?_;rintro k f fr hk;simp only[Pc,Qmj,XL,Qmq,eE,seval];rcases XS P.enums k with⟨x,hx,hlt⟩|hlt
  ·have hg:=Xe QC hx;have e1:=Qr k _ hlt hP.len2;have e3:((decide ((x.items.length:Int)≥1)&&decide ((x.items.length:Int)≤64))&&decide ((x.free.length:Int)≤16))=Us x:=by unfold Us;exact(by rw[Qmi];simp only[Qlr,QlM];omega)
   rw[G5]at hg;simp only[QB hlt,Qp,QmS,Qf,hg,Qmj,eE,seval];cases hb:((B&&P.progs.all WZ)&&Qt (Xg P.enums Us) k)
   ·simp only[e1,cond_true,cond_false,Qa,seval];exact Ac.go hk hlt rfl q8
   cases c2:decide ((x.items.length:Int)≥1)<;>cases c3:decide ((x.items.length:Int)≤64) <;>
   ·rw[c2,c3]at e3;simp only[Qp,QmS,Qf,hg,Qmj,c2,c3,e1,cond_true,cond_false,eE,seval];exact Ac.go (v:=(Us x)) hk hlt (by rw[←e3];rfl) (by rw[hb,XM hx];rfl)
  simp only[QI hlt,ZG hk hlt,hl,Qa,seval]

theorem z34:Qh Tryz.prog 34 [P.av] (.bool (BT P)):=by
 have hn:BT P=(P.progs.all Wu&&P.enums.all Hf):=rfl;obtain⟨T,hT⟩:∃T,T=true:=⟨_,rfl⟩;refine wF Tryz.func34 ?_;simp only[eK,Tryz.f34,seval];simp only[Dd,eE,seval];refine Xt P.progs.length 0 (Xg P.progs Wu) T 4 [(1,.ptr 0 1 0)] [(1,.cells (Pc P))] [] (by simp[Qt]) ?_ (by(rw[hT];rfl));rintro k f fr hk;simp only[Pc,Qmj,XL,Qmq,eE,seval];rcases XS P.progs k with⟨x,hx,hlt⟩|hlt
 ·have hg:=Xe Qm hx;have e1:=Qr k _ hlt hP.len1;have hsl:=(hP.progs x (QlC hx)).len;rw[G6]at hg;simp only[QB hlt,Qa,seval];cases hb:(T&&Qt (Xg P.progs Wu) k)
  case' false=>simp only[cond_true,cond_false,Qa,seval]
  case' true=>
   simp only[Qp,QmS,Qf,hg,cond_true,cond_false,eE,seval];refine aC (z70 x.name) ?_;simp only[cond_true,cond_false,Qa,seval]
  all_goals
   refine Xt x.ops.length 0 (Xg x.ops fun o=>WX o.name) ((T&&Qt (Xg P.progs Wu) k)&&WY x.name) 5 [(1,.ptr 0 1 0),(4,.int .i64 (k:Nat))] [(1,.cells (Pc P))] [] (by simp[Qt]) ?_ (by rw[hb];rfl);rintro j f fr hj;simp only[Pc,Qp,QmS,Qf,hg,Qmj,XL,Qmq,eE,seval];rcases XS x.ops j with⟨o,ho,hlj⟩|hlj
   ·have hgo:=Xe Qu ho;have e2:=Qr j _ hlj hsl;rw[G7]at hgo;cases hc:((T&&Qt (Xg P.progs Wu) k)&&WY x.name)&&Qt (Xg x.ops fun o=>WX o.name) j
    ·simp only[QB hlj,e2,cond_true,cond_false,Qa,seval];exact Ac.go hj hlj rfl (by rw[hc];rfl)
    ·simp only[QB hlj,Qp,QmS,Qf,hg,hgo,cond_true,cond_false,eE,seval];refine aC (z71 o.name) ?_;simp only[e2,cond_true,cond_false,Qa,seval];exact Ac.go hj hlj rfl (by rw[hc,XM ho];rfl)
   simp only[QI hlj,ZG hj hlj,e1,Qa,seval];exact Ac.go hk hlt rfl (by rw[XM hx];exact(Ql9 ..).symm)
 simp only[QI hlt,ZG hk hlt,hT,Qm8,Qa,seval]

 refine Xt P.enums.length 0 (Xg P.enums Hf) (P.progs.all Wu) 6 [(1,.ptr 0 1 0)] [(1,.cells (Pc P))] [] (by simp[Qt]) ?_ (by rfl);rintro k f fr hk;simp only[Pc,Qmj,XL,Qmq,eE,seval];rcases XS P.enums k with⟨x,hx,hlt⟩|hlt
 ·have hg:=Xe QC hx;have e1:=Qr k _ hlt hP.len2;have hsl:=(hP.enums x (QlC hx)).len1;rw[G5]at hg;simp only[QB hlt,Qa,seval];cases hb:((P.progs.all Wu)&&Qt (Xg P.enums Hf) k)
  case' false=>simp only[cond_true,cond_false,Qa,seval]
  case' true=>
   simp only[Qp,QmS,Qf,hg,cond_true,cond_false,eE,seval];refine aC (z70 x.name) ?_;simp only[cond_true,cond_false,Qa,seval]
  all_goals
   refine Xt x.items.length 0 (Xg x.items fun o=>WX o.name) (((P.progs.all Wu)&&Qt (Xg P.enums Hf) k)&&WY x.name) 7 [(1,.ptr 0 1 0),(6,.int .i64 (k:Nat))] [(1,.cells (Pc P))] [] (by simp[Qt]) ?_ (by rw[hb];rfl);rintro j f fr hj;simp only[Pc,Qp,QmS,Qf,hg,Qmj,XL,Qmq,eE,seval];rcases XS x.items j with⟨o,ho,hlj⟩|hlj
   ·have hgo:=Xe XD ho;have e2:=Qr j _ hlj hsl;rw[NZ]at hgo;cases hc:(((P.progs.all Wu)&&Qt (Xg P.enums Hf) k)&&WY x.name)&&Qt (Xg x.items fun o=>WX o.name) j
    ·simp only[QB hlj,e2,cond_true,cond_false,Qa,seval];exact Ac.go hj hlj rfl (by rw[hc];rfl)
    ·simp only[QB hlj,Qp,QmS,Qf,hg,hgo,cond_true,cond_false,eE,seval];refine aC (z71 o.name) ?_;simp only[e2,cond_true,cond_false,Qa,seval];exact Ac.go hj hlj rfl (by rw[hc,XM ho];rfl)
   simp only[QI hlj,ZG hj hlj,e1,Qa,seval];exact Ac.go hk hlt rfl (by rw[XM hx];exact(Ql9 ..).symm)
 simp only[QI hlt,ZG hk hlt,hn,Qa,seval]

theorem z35:Qh Tryz.prog 35 [P.av] (.bool (G4 P)):=by
 have hn:G4 P=((Jk P.progs (XN PG.name)&&P.progs.all W0)&&(Jk P.enums (XN PE.name)&&P.enums.all Hg)):=by
  unfold G4;cases Jk P.progs (XN PG.name)<;>cases P.progs.all W0<;>cases Jk P.enums (XN PE.name)<;>rfl
 obtain⟨T,hT⟩:∃T,T=true:=⟨_,rfl⟩;refine wF Tryz.func35 ?_;simp only[eK,Tryz.f35,seval];simp only[Dd,eE,seval];refine Xt P.progs.length 0 (fun i=>Zx P.progs (XN PG.name) i&&Xg P.progs W0 i) T 4 [(1,.ptr 0 1 0)] [(1,.cells (Pc P))] [] (by simp[Qt]) ?_ (by(rw[hT];rfl));rintro k f fr hk;simp only[Pc,Qmj,XL,Qmq,eE,seval];rcases XS P.progs k with⟨x,hx,hlt⟩|hlt
 ·have hg:=Xe Qm hx;have e1:=Qr k _ hlt hP.len1;have hsl:=(hP.progs x (QlC hx)).len;rw[G6]at hg;simp only[QB hlt,Qa,seval];obtain⟨A,hA⟩:∃A,(T&&Qt (fun i=>Zx P.progs (XN PG.name) i&&Xg P.progs W0 i) k)=A:=⟨_,rfl⟩;rcases (show(A=false)∨(A=true∧k=0)∨(A=true∧∃j y,k=j+1∧P.progs[j]? = some y)by
   cases A
   ·exact .inl rfl
   ·cases k with
    |zero=>exact .inr (.inl ⟨rfl,rfl⟩)
    |succ j=>exact .inr (.inr ⟨rfl,j,P.progs[j]'(by omega),rfl,Qln (by omega)⟩))with h|⟨h,h0⟩|⟨h,j,y,h0,hy⟩
  case' inl=>
   have hv:(A&&Zx P.progs (XN PG.name) k)=false:=by rw[h];rfl
   simp only[hA,h,cond_true,cond_false,Qa,seval]
  case' inr.inl=>
   have hv:(A&&Zx P.progs (XN PG.name) k)=true:=by rw[h,h0];rfl
   have b0:((k:Int)==0)=true:=by rw[h0];rfl
   simp only[hA,h,b0,cond_true,cond_false,Qa,seval]
  case' inr.inr=>
   have hgy:=Xe Qm hy;have hv:(A&&Zx P.progs (XN PG.name) k)=(XN PG.name) y x:=by
    subst h0;rw[h,WW hy hx];rfl
   have b0:((k:Int)==0)=false:=by rw[Qne];omega
   have wj:IntKind.i64.wrap ((k:Int)-1)=(j:Int):=by
    subst h0;exact G8 j _ hlt hP.len1
   rw[G6]at hgy;simp only[hA,h,b0,wj,Qp,QmS,Qf,hg,hgy,QS,cond_true,cond_false,eE,seval]
  all_goals
   refine Xt x.ops.length 1 (Zx x.ops (Wf PO.num)) (A&&Zx P.progs (XN PG.name) k) 5 [(1,.ptr 0 1 0),(4,.int .i64 (k:Nat))] [(1,.cells (Pc P))] [] (by simp[Qt,Zx]) ?_ (by rw[hv];rfl);rintro i f fr hi;simp only[Pc,Qp,QmS,Qf,hg,Qmj,XL,Qmq,eE,seval];rcases XS x.ops i with⟨o,ho,hli⟩|hli
   ·obtain⟨i,rfl⟩:∃n,i=n+1:=⟨i-1,by omega⟩;obtain⟨z,hz⟩:∃z,x.ops[i]? = some z:=⟨x.ops[i]'(by omega),Qln (by omega)⟩;have hgo:=Xe Qu ho;have hgz:=Xe Qu hz;have e2:=Qr (i+1) _ hli hsl;have wi:=G8 i _ hli hsl;rw[G7]at hgo hgz;cases hc:(A&&Zx P.progs (XN PG.name) k)&&Qt (Zx x.ops (Wf PO.num)) (i+1)
    ·simp only[QB hli,e2,cond_true,cond_false,Qa,seval];exact Ac.go hi hli rfl (by rw[hc];rfl)
    ·simp only[QB hli,Qp,QmS,Qf,hg,hgo,hgz,wi,e2,cond_true,cond_false,eE,seval];exact Ac.go hi hli rfl (by rw[hc,WW hz ho];rfl)
   have he:Qt (Zx x.ops (Wf PO.num)) i=W0 x:=JV (fun i hi=>by rw[show i=0 by omega];rfl) hi hli;simp only[QI hli,he,e1,Qa,seval];exact Ac.go hk hlt rfl (by rw[hA,XM hx,Ql9])
 have he:Qt (fun i=>Zx P.progs (XN PG.name) i&&Xg P.progs W0 i) k=(Jk P.progs (XN PG.name)&&P.progs.all W0):=by
  rw[JV (fun i hi=>absurd hi (Qnz i)) hk hlt,FO,H1];rfl
 simp only[QI hlt,he,hT,Qm8,Qa,seval]

 refine Xt P.enums.length 0 (fun i=>Zx P.enums (XN PE.name) i&&Xg P.enums Hg i) (Jk P.progs (XN PG.name)&&P.progs.all W0) 6 [(1,.ptr 0 1 0)] [(1,.cells (Pc P))] [] (by simp[Qt]) ?_ (by rfl);rintro k f fr hk;simp only[Pc,Qmj,XL,Qmq,eE,seval];rcases XS P.enums k with⟨x,hx,hlt⟩|hlt
 ·have hg:=Xe QC hx;have e1:=Qr k _ hlt hP.len2;have hsl:=(hP.enums x (QlC hx)).len1;rw[G5]at hg;simp only[QB hlt,Qa,seval];obtain⟨A,hA⟩:∃A,((Jk P.progs (XN PG.name)&&P.progs.all W0)&&Qt (fun i=>Zx P.enums (XN PE.name) i&&Xg P.enums Hg i) k)=A:=⟨_,rfl⟩;rcases (show(A=false)∨(A=true∧k=0)∨(A=true∧∃j y,k=j+1∧P.enums[j]? = some y)by
   cases A
   ·exact .inl rfl
   ·cases k with
    |zero=>exact .inr (.inl ⟨rfl,rfl⟩)
    |succ j=>exact .inr (.inr ⟨rfl,j,P.enums[j]'(by omega),rfl,Qln (by omega)⟩))with h|⟨h,h0⟩|⟨h,j,y,h0,hy⟩
  case' inl=>
   have hv:(A&&Zx P.enums (XN PE.name) k)=false:=by rw[h];rfl
   simp only[hA,h,cond_true,cond_false,Qa,seval]
  case' inr.inl=>
   have hv:(A&&Zx P.enums (XN PE.name) k)=true:=by rw[h,h0];rfl
   have b0:((k:Int)==0)=true:=by rw[h0];rfl
   simp only[hA,h,b0,cond_true,cond_false,Qa,seval]
  case' inr.inr=>
   have hgy:=Xe QC hy;have hv:(A&&Zx P.enums (XN PE.name) k)=(XN PE.name) y x:=by
    subst h0;rw[h,WW hy hx];rfl
   have b0:((k:Int)==0)=false:=by rw[Qne];omega
   have wj:IntKind.i64.wrap ((k:Int)-1)=(j:Int):=by
    subst h0;exact G8 j _ hlt hP.len2
   rw[G5]at hgy;simp only[hA,h,b0,wj,Qp,QmS,Qf,hg,hgy,QS,cond_true,cond_false,eE,seval]
  all_goals
   refine Xt x.items.length 1 (Zx x.items (Wf PI.num)) (A&&Zx P.enums (XN PE.name) k) 7 [(1,.ptr 0 1 0),(6,.int .i64 (k:Nat))] [(1,.cells (Pc P))] [] (by simp[Qt,Zx]) ?_ (by rw[hv];rfl);rintro i f fr hi;simp only[Pc,Qp,QmS,Qf,hg,Qmj,XL,Qmq,eE,seval];rcases XS x.items i with⟨o,ho,hli⟩|hli
   ·obtain⟨i,rfl⟩:∃n,i=n+1:=⟨i-1,by omega⟩;obtain⟨z,hz⟩:∃z,x.items[i]? = some z:=⟨x.items[i]'(by omega),Qln (by omega)⟩;have hgo:=Xe XD ho;have hgz:=Xe XD hz;have e2:=Qr (i+1) _ hli hsl;have wi:=G8 i _ hli hsl;rw[NZ]at hgo hgz;cases hc:(A&&Zx P.enums (XN PE.name) k)&&Qt (Zx x.items (Wf PI.num)) (i+1)
    ·simp only[QB hli,e2,cond_true,cond_false,Qa,seval];exact Ac.go hi hli rfl (by rw[hc];rfl)
    ·simp only[QB hli,Qp,QmS,Qf,hg,hgo,hgz,wi,e2,cond_true,cond_false,eE,seval];exact Ac.go hi hli rfl (by rw[hc,WW hz ho];rfl)
   have he:Qt (Zx x.items (Wf PI.num)) i=Hg x:=JV (fun i hi=>by rw[show i=0 by omega];rfl) hi hli;simp only[QI hli,he,e1,Qa,seval];exact Ac.go hk hlt rfl (by rw[hA,XM hx,Ql9])
 have he:Qt (fun i=>Zx P.enums (XN PE.name) i&&Xg P.enums Hg i) k=(Jk P.enums (XN PE.name)&&P.enums.all Hg):=by
  rw[JV (fun i hi=>absurd hi (Qnz i)) hk hlt,FO,H1];rfl
 simp only[QI hlt,he,hn,Qa,seval]

end

theorem z72 (L:List PS)(hl:L.length≤maxLen)(n:Int):Qh Tryz.prog 72 [.list (L.map JH),.int .i64 n] (.bool (kept L n)):=by
 refine wF Tryz.func72 ?_;simp only[eK,Tryz.f72,seval];simp only[Qa,seval];refine Hv (X:=Nat) (fun k=>[(0,.list (L.map JH)),(1,.int .i64 n),(5,.int .i64 (k:Nat))]) (fun _=>[]) [] (fun k=>L.length-k) (fun k=>k≤L.length∧kept (L.take k) n=false) (fun _=>[]) 0 ⟨Qlx _,rfl⟩ ?_;rintro k f fr ⟨hk,hz⟩;simp only[Qmj,XL,Qmq,Qa,seval];rcases XS L k with⟨x,hx,hlt⟩|hlt
 case inr=>
  rw[QlY xw]at hz;simp only[QI hlt,hz,Qa,seval]
 have hg:=Xe JH hx;have e1:=Qr k _ hlt hl;have ht:kept (L.take (k+1)) n=_:=Mj hx;have hyes:(decide (x.lo≤n)&&decide (n≤x.hi))=true→kept L n=true:=fun h=>Qm6.2 ⟨x,QlC hx,h⟩
 rw[show((L.take k).any fun x=>decide (x.lo≤n)&&decide (n≤x.hi))=false from hz,Qnd]at ht;simp only[JH,PS.cells]at hg;simp only[QB hlt,Qp,QmS,Qf,hg,eE,seval];cases a1:decide (x.lo≤n)
 ·simp only[e1,cond_true,cond_false,Qa,seval];exact Ix.go (k+1) xw ⟨xw,by rw[ht,a1];rfl⟩
 cases a2:decide (n≤x.hi)
 ·simp only[a2,Qp,QmS,Qf,hg,e1,cond_true,cond_false,eE,seval];exact Ix.go (k+1) xw ⟨xw,by rw[ht,a1,a2];rfl⟩
 ·rw[hyes (by rw[a1,a2];rfl)];simp only[a2,Qp,QmS,Qf,hg,cond_true,cond_false,eE,seval]

theorem De {α:Type}{l:List α}{p:α→Bool}:∀ {j:Nat},j≤l.length→Qt (Xg l p) j=(l.take j).all p
 |0,_=>jB
 |j+1,h=>by
  have hx:l[j]? = some l[j]:=Qln xw;rw[Qt,De xw,H2 hx,XM hx]

theorem z36 {M:Nat}(P:PL)(hP:P.ok M):Qh Tryz.prog 36 [P.av] (.bool (Mk P)):=by
 have hn:Mk P=(P.progs.all (KV P)&&P.enums.all H4):=rfl;obtain⟨T,hT⟩:∃T,T=true:=⟨_,rfl⟩;refine wF Tryz.func36 ?_;simp only[eK,Tryz.f36,seval];simp only[Dd,eE,seval];refine Xt P.progs.length 0 (Xg P.progs (KV P)) T 4 [(1,.ptr 0 1 0)] [(1,.cells (Pc P))] [] jB ?_ (by rw[hT];rfl);rintro k f fr hk;simp only[Pc,Qmj,XL,Qmq,eE,seval];rcases XS P.progs k with⟨x,hx,hlt⟩|hlt
 ·have hg:=Xe Qm hx;have e1:=Qr k _ hlt hP.len1;have hsl:=(hP.progs x (QlC hx)).len;rw[G6]at hg;simp only[QB hlt,Qa,seval];refine Xt P.enums.length 0 (Xg P.enums fun e=>!(e.name==x.name)) (T&&Qt (Xg P.progs (KV P)) k) 5 [(1,.ptr 0 1 0),(4,.int .i64 (k:Nat))] [(1,.cells (Pc P))] [] jB ?_;rintro j f fr hj;simp only[Pc,Qmj,XL,Qmq,eE,seval];rcases XS P.enums j with⟨y,hy,hlj⟩|hlj
  ·have hgy:=Xe QC hy;have e2:=Qr j _ hlj hP.len2;have hcm:(x.name==y.name)=(y.name==x.name):=by rw[Qmi,Qls,Qls];exact⟨Eq.symm,Eq.symm⟩
   rw[G5]at hgy;cases hc:(T&&Qt (Xg P.progs (KV P)) k)&&Qt (Xg P.enums fun e=>!(e.name==x.name)) j
   ·exact ze
   ·simp only[QB hlj,Qp,QmS,Qf,hg,hgy,QS,hcm,e2,cond_true,cond_false,eE,seval];exact Ac.go hj hlj rfl (by rw[hc,XM hy];rfl)
  simp only[QI hlj,ZG hj hlj,Qp,QmS,Qf,hg,eE,seval];refine Xt x.ops.length 0 (uniq x.ops PO.name) ((T&&Qt (Xg P.progs (KV P)) k)&&P.enums.all fun e=>!(e.name==x.name)) 7 [(1,.ptr 0 1 0),(4,.int .i64 (k:Nat)),(6,.list (x.ops.map Qu))] [(1,.cells (Pc P))] [] jB ?_;rintro i f fr hi;simp only[Pc,Qmj,XL,Qmq,Qa,seval];rcases XS x.ops i with⟨o,ho,hli⟩|hli
  ·have hgo:=Xe Qu ho;have e2:=Qr i _ hli hsl;rw[G7]at hgo;simp only[QB hli,Qa,seval];refine Xt i 0 (Xg x.ops fun y=>!(y.name==o.name)) (((T&&Qt (Xg P.progs (KV P)) k)&&P.enums.all fun e=>!(e.name==x.name))&&Qt (uniq x.ops PO.name) i) 8 [(1,.ptr 0 1 0),(4,.int .i64 (k:Nat)),(6,.list (x.ops.map Qu)),(7,.int .i64 (i:Nat))] [(1,.cells (Pc P))] [] jB ?_;rintro n f fr hn';simp only[Pc,XL,Qmq,Qa,seval];by_cases hln:n<i
   ·obtain⟨z,hz⟩:∃z,x.ops[n]? = some z:=⟨x.ops[n]' xw,Qln xw⟩;have hgz:=Xe Qu hz;have e3:=Qr n _ (show n<x.ops.length by omega) hsl;rw[G7]at hgz;cases hc:(((T&&Qt (Xg P.progs (KV P)) k)&&P.enums.all fun e=>!(e.name==x.name))&&Qt (uniq x.ops PO.name) i)&&Qt (Xg x.ops fun y=>!(y.name==o.name)) n
    ·exact yI
    ·exact yc
   have he:Qt (Xg x.ops fun y=>!(y.name==o.name)) n=uniq x.ops PO.name i:=by
    rw[JV (fun i hi=>absurd hi (Qnz i)) hn' hln,De xw,DR ho]
   simp only[QI hln,he,e2,Qa,seval];exact Ac.go hi hli rfl rfl
  have he:Qt (uniq x.ops PO.name) i=Ur x.ops PO.name:=JV (fun i hi=>absurd hi (Qnz i)) hi hli;simp only[QI hli,he,e1,Qa,seval];exact Ac.go hk hlt rfl (by rw[XM hx];exact(Ql9 ..).symm)
 simp only[QI hlt,ZG hk hlt,hT,Qm8,Qa,seval];refine Xt P.enums.length 0 (Xg P.enums H4) (P.progs.all (KV P)) 9 [(1,.ptr 0 1 0)] [(1,.cells (Pc P))] [] jB ?_;rintro k f fr hk;simp only[Pc,Qmj,XL,Qmq,eE,seval];rcases XS P.enums k with⟨x,hx,hlt⟩|hlt
 ·have hg:=Xe QC hx;have e1:=Qr k _ hlt hP.len2;have hsl:=(hP.enums x (QlC hx)).len1;rw[G5]at hg;simp only[QB hlt,Qp,QmS,Qf,hg,eE,seval];refine Xt x.items.length 0 (uniq x.items PI.name) (P.progs.all (KV P)&&Qt (Xg P.enums H4) k) 11 [(1,.ptr 0 1 0),(9,.int .i64 (k:Nat)),(10,.list (x.items.map XD))] [(1,.cells (Pc P))] [] jB ?_;rintro i f fr hi;simp only[Pc,Qmj,XL,Qmq,Qa,seval];rcases XS x.items i with⟨o,ho,hli⟩|hli
  ·have hgo:=Xe XD ho;have e2:=Qr i _ hli hsl;rw[NZ]at hgo;simp only[QB hli,Qa,seval];refine Xt i 0 (Xg x.items fun y=>!(y.name==o.name)) ((P.progs.all (KV P)&&Qt (Xg P.enums H4) k)&&Qt (uniq x.items PI.name) i) 12 [(1,.ptr 0 1 0),(9,.int .i64 (k:Nat)),(10,.list (x.items.map XD)),(11,.int .i64 (i:Nat))] [(1,.cells (Pc P))] [] jB ?_;rintro n f fr hn';simp only[Pc,XL,Qmq,Qa,seval];by_cases hln:n<i
   ·obtain⟨z,hz⟩:∃z,x.items[n]? = some z:=⟨x.items[n]' xw,Qln xw⟩;have hgz:=Xe XD hz;have e3:=Qr n _ (show n<x.items.length by omega) hsl;rw[NZ]at hgz;cases hc:((P.progs.all (KV P)&&Qt (Xg P.enums H4) k)&&Qt (uniq x.items PI.name) i)&&Qt (Xg x.items fun y=>!(y.name==o.name)) n
    ·exact yI
    ·exact yc
   have he:Qt (Xg x.items fun y=>!(y.name==o.name)) n=uniq x.items PI.name i:=by
    rw[JV (fun i hi=>absurd hi (Qnz i)) hn' hln,De xw,DR ho]
   simp only[QI hln,he,e2,Qa,seval];exact Ac.go hi hli rfl rfl
  have he:Qt (uniq x.items PI.name) i=Ur x.items PI.name:=JV (fun i hi=>absurd hi (Qnz i)) hi hli;simp only[QI hli,he,e1,Qa,seval];exact Ac.go hk hlt rfl (by rw[XM hx];exact rfl)
 exact xl

theorem QdP:Qh Tryz.prog 115 [.str alias] (.int .i64 7):=by
 refine wF Tryz.func115 ?_;simp only[eK,Tryz.f115,seval];have b1:(alias==([100,101,112,114,101,99,97,116,101,100]:List UInt8))=false:=xy
 have b2:(alias==([115,101,99,114,101,116]:List UInt8))=false:=xy
 have b3:(alias==([105,100,101,109,112,111,116,101,110,116]:List UInt8))=false:=xy
 have b4:(alias==([100,111,99]:List UInt8))=false:=xy
 have b5:(alias==([97,108,105,97,115]:List UInt8))=true:=xy
 simp only[QS,b1,b2,b3,b4,b5,Qa,seval]

theorem Qik:Qh Tryz.prog 116 [.str alias,.int .i64 4] (.bool true):=by
 refine wF Tryz.func116 ?_;simp only[eK,Tryz.f116,seval];have b1:(alias==([100,101,112,114,101,99,97,116,101,100]:List UInt8))=false:=xy
 have b4:(alias==([100,111,99]:List UInt8))=false:=xy
 have b5:(alias==([97,108,105,97,115]:List UInt8))=true:=xy
 have c2:((4:Int)==2)=false:=rfl;have c4:((4:Int)==4)=true:=rfl;simp only[QS,b1,b4,b5,c2,c4,Qa,seval]

section
variable (kd:Int)(b:Nat)(t:List UInt8)(l p s r:List AV)(ht:t.length+8≤maxLen)
include ht

theorem Qil:Qh Tryz.prog 170 [.int .i64 7,vo kd b t l p s r] (.bool (X8 7 kd b t l p s r)):=by
 have hl:=QdJ kd b t l p s r;simp only[vo]at hl;have n1:(kd != 7)=!(kd==7):=rfl;have k7:isk 7=true:=rfl;have t7:Zp 7=true:=rfl;have f7:W2 7 b=true:=rfl;have c8:((7:Int)==8)=false:=rfl;have c7:((7:Int) != 7)=false:=rfl;refine wF Tryz.func170 ?_;simp only[eK,Tryz.f170,seval];simp only[vo,X8,k7,f7,c7,Qm8,QmD,Qnd,eE,seval];refine aC (Iy 7) ?_;simp only[k7,n1,Qm9,eE,seval];by_cases hk:kd=7
 ·subst hk;have a1:((7:Int)==7)=true:=rfl;simp only[a1,Qm9,Qm8,t7,eE,seval];refine aC hl ?_;cases U2 l p s r
  ·exact z8
  simp only[Qm9,Qm8,Qa,seval];refine aC (NW 7) ?_;simp only[t7,eE,seval];cases a2:((b:Int)==0)
  ·exact zC
  cases a3:decide ((t.length:Int)≤4096)
  ·simp only[a3,QmW,Qna,eE,seval]
  simp only[a3,c8,Qm8,eE,seval];refine aC (QdH t ht) ?_;simp only[Qa,seval]
 ·have a1:(kd==7)=false:=jD
  simp only[a1,Qmx,QmW,Qa,seval]

theorem Qim:Qh Tryz.prog 117 [nv kd b t l p s r] (.bool (X8 7 kd b t l p s r)):=by
 have hf:=Qil kd b t l p s r ht;have b0:((7:Int) != 0)=true:=rfl;simp only[vo]at hf;refine wF Tryz.func117 ?_;simp only[eK,Tryz.f117,seval];simp only[nv,eE,seval];refine aC QdP ?_;simp only[b0,eE,seval];cases a1:(kd==7)
 ·have e:X8 7 kd b t l p s r=false:=by unfold X8;rw[a1];rfl
  simp only[e,Qa,seval]
 ·simp only[eE,seval];refine aC hf ?_;simp only[Qa,seval]

def RcI (k:Nat)(st:St):Prop :=
 ∃f i,st=⟨f,[Qb],[]⟩∧k=1-i∧i≤1∧(i=1→X8 7 kd b t l p s r=true)∧f 0=.list [nv kd b t l p s r]∧f 1=.int .i64 4∧f 5=.int .i64 (i:Nat)

theorem z73:Qh Tryz.prog 73 [.list [nv kd b t l p s r],.int .i64 4] (.int .i64 (if X8 7 kd b t l p s r=true then 0 else 12)):=by
 have b0:decide (((1:Nat):Int) > 8)=false:=rfl;have hr:=Qim kd b t l p s r ht;simp only[nv]at hr;refine wF Tryz.func73 ?_;simp only[eK,Tryz.f73,seval];simp only[QlD,Qmk,QlN,Qa,seval];refine Qi (RcI kd b t l p s r) 1 ⟨_,0,rfl,rfl,Qlx _,(fun h=>kq),xx,xx,xx⟩ ?_;rintro _ st ⟨f,i,rfl,rfl,hi,hf,h0,h1,h5⟩;simp only[nv]at h0;simp only[h0,h5,QlD,Qmk,QlN,Qa,seval];rcases Nat.le_one_iff_eq_zero_or_eq_one.1 hi with rfl|rfl
 ·have c0:decide (((0:Nat):Int)<((1:Nat):Int))=true:=rfl;have c1:decide (((0:Nat):Int) > 0)=false:=rfl;have d7:((7:Int)==0)=false:=rfl;have e1:IntKind.i64.wrap (((0:Nat):Int)+1)=((1:Nat):Int):=rfl;have z0:(0≤((0:Nat):Int))=True:=xA
  have z1:Int.toNat ((0:Nat):Int)=0:=rfl;simp only[Qf,Qmr,h0,h5,eE,seval];refine aC QdP ?_;simp only[d7,Qf,Qmr,h0,h1,h5,eE,seval];refine aC Qik ?_;simp only[Qm9,Qf,Qmr,h0,h5,eE,seval];refine aC hr ?_;cases hfv:X8 7 kd b t l p s r
  ·simp only[Qmx,QlH,Qa,seval]
  ·simp only[Qm9,h5,Qa,seval];exact⟨0,xw,_,1,rfl,rfl,Qlk _,fun _=>hfv,xO,xL,xx⟩
 ·have c0:decide (((1:Nat):Int)<((1:Nat):Int))=false:=rfl;simp only[hf rfl,Qa,seval]

end

section
variable (P:PL)

def H8 (P:PL)(o:PO):Bool :=
 if o.kind=10 then decide (o.target≥0)&&decide (o.target<(P.progs.length:Int))&&o.card != 3
 else if o.kind=9 then decide (o.target≥0)&&decide (o.target<(P.enums.length:Int))else o.target == -1

theorem Qin (o:PO):Qh Tryz.prog 119 [P.av,Qu o] (.bool (H8 P o)):=by
 have e0:P.av=.agg [.list (P.progs.map Qm),.list (P.enums.map QC)]:=rfl;refine wF Tryz.func119 ?_;simp only[eK,Tryz.f119,seval];simp only[e0,Qu,PO.cells,H8,eE,seval];by_cases h:o.kind=10
 ·exact zt
 ·have b0:(o.kind==10)=false:=w_
  by_cases h9:o.kind=9
  ·exact zO
  ·have b1:(o.kind==9)=false:=vu
   simp only[b0,b1,Qlu h,Qlu h9,eE,seval]

theorem QdQ (o:PO):(Wh P o&&J8 o)=(GE o.alias&&(decide ((o.alias.length:Int)≤4096)&&(decide (o.card≥1)&&(decide (o.card≤5)&&(decide (o.kind≥1)&&(decide (o.kind≤10)&&(key o&&H8 P o&&J8 o))))))):=by
 have h:BY P o=(decide (o.kind≥1)&&decide (o.kind≤10)&&H8 P o):=by
  unfold BY H8;by_cases h:o.kind=10
  ·rw[Qlv h,Qlv h,h];rfl
  ·rw[Qlu h,Qlu h];by_cases h9:o.kind=9
   ·rw[Qlv h9,Qlv h9,h9];rfl
   ·rw[Qlu h9,Qlu h9];congr 1
    unfold isk;rw[Qmi,QlM,QlM];simp only[Qlr];omega
 unfold Wh;rw[h];cases GE o.alias<;>cases decide ((o.alias.length:Int)≤4096)<;>cases decide (o.card≥1)<;>cases decide (o.card≤5)<;>cases decide (o.kind≥1)<;>cases decide (o.kind≤10)<;>cases key o<;>cases H8 P o<;>cases J8 o<;>rfl

theorem z75 (o:PO)(ha:o.alias.length+8≤maxLen):Qh Tryz.prog 75 [P.av,Qu o] (.bool (Wh P o&&J8 o)):=by
 have e0:P.av=.agg [.list (P.progs.map Qm),.list (P.enums.map QC)]:=rfl;have n1:decide ((o.alias.length:Int) > 4096)=!decide ((o.alias.length:Int)≤4096):=xK;have n2:decide (o.card<1)=!decide (o.card≥1):=xK;have n3:decide (o.card > 5)=!decide (o.card≤5):=xK;have n4:decide (o.kind<1)=!decide (o.kind≥1):=xK;have n5:decide (o.kind > 10)=!decide (o.kind≤10):=xK;have ht:Qh Tryz.prog 119 [.agg [.list (P.progs.map Qm),.list (P.enums.map QC)],Qu o] (.bool (H8 P o)):=Qin P o;have hk1:o.card≠5→key o=(o.key==0):=fun h=>by unfold key;rw[Qlu h]
 have hk2:o.card=5→key o=((decide (o.key≥1)&&decide (o.key≤5))||o.key==7):=fun h=>by
  unfold key;rw[Qlv h,Qmi];simp only[QlM,Qlq,Qlr,Qls,QlR,ne_eq];omega
 have hu:J8 o=(o.union == -1||o.card==2):=rfl;simp only[Qu,PO.cells]at ht;rw[QdQ];refine k75.fn xA ?_;simp only[L1,L2,L3,L4,L5,L6,r75,o75,e0,Qu,PO.cells,eE,seval];refine aC (QdH o.alias ha) ?_;cases GE o.alias
 ·exact z8
 cases a1:decide ((o.alias.length:Int)≤4096)
 ·simp only[Qm9,Qmx,Qm8,n1,a1,QmW,eE,seval]
 cases a2:decide (o.card≥1)
 ·simp only[Qm9,Qmx,Qm8,n1,n2,a1,a2,QmW,eE,seval]
 cases a3:decide (o.card≤5)
 ·simp only[Qm9,Qmx,Qm8,n1,n2,n3,a1,a2,a3,QmW,eE,seval]
 cases a4:decide (o.kind≥1)
 ·simp only[Qm9,Qmx,Qm8,n1,n2,n3,n4,a1,a2,a3,a4,QmW,eE,seval]
 cases a5:decide (o.kind≤10)
 ·simp only[Qm9,Qmx,Qm8,n1,n2,n3,n4,n5,a1,a2,a3,a4,a5,QmW,eE,seval]
 have fin:∀(f:Fr) (fr:Nat→Ob) (kb:Bool),kb=key o→f 2=.ptr 0 2 0→fr 2=.cells [.list (P.progs.map Qm),.list (P.enums.map QC)]→f 3=.ptr 0 3 0→fr 3=.cells [.int .i64 o.num,.str o.name,.str o.alias,.int .i64 o.card,.int .i64 o.key,.int .i64 o.kind,.int .i64 o.target,.int .i64 o.union]→f 5=.bool kb→
   QD Tryz.prog SX ⟨f,[fr],[]⟩ (Kc Tryz.prog .ret (ZI [.tmp 4] 0 fun x _=>x=.bool (key o&&H8 P o&&J8 o)) .normal):=by
  intro f fr kb hkb h2 m2 h3 m3 h5;subst hkb;simp only[SX,h5,Qa,seval];cases key o
  ·exact zC
  simp only[h2,m2,h3,m3,Qm8,eE,seval];refine aC ht ?_;cases H8 P o
  ·exact zC
  rw[hu];cases c1:(o.union == -1)<;>simp only[h3,m3,c1,Qm8,Qnc,Qnd,eE,seval]
 by_cases h5:o.card=5
 ·have b5:(o.card != 5)=false:=q7
  have hk:=hk2 h5;simp only[Qm9,Qm8,n1,n2,n3,n4,n5,a1,a2,a3,a4,a5,eE,seval];cases c1:decide (o.key≥1)<;>cases c2:decide (o.key≤5)<;>cases c3:(o.key==7)<;>simp only[c2,c3,b5,eE,seval]
  all_goals
   rw[c1,c2,c3]at hk;exact fin _ _ _ hk.symm xx xx xx xx xx
 ·have b5:(o.card != 5)=true:=q7
  have hk:=hk1 h5;simp only[Qm9,Qm8,n1,n2,n3,n4,n5,a1,a2,a3,a4,a5,eE,seval];cases c1:decide (o.key≥1)<;>cases c2:decide (o.key≤5)<;>cases c3:(o.key==7)<;>simp only[c2,c3,b5,eE,seval]
  all_goals exact fin _ _ _ hk.symm xx xx xx xx xx

end

end Go.Proofs.YtmlohboeoeoamaaGreatDoor.Va

namespace Go.Proofs.YtmlohboeoeoamaaGreatDoor.Cp
open Go Am Bt Vp

structure C where
 d:List UInt8
 a:Int
 e:Int
 dp:Int
 nd:Int
 tx:Int

def C.av (c:C):AV:=.agg [.str c.d,.int .i64 c.a,.int .i64 c.e,.int .i64 c.dp,.int .i64 c.nd,.int .i64 c.tx]
def zc:C:=⟨[],0,0,0,0,0⟩

structure L where
 b:Int
 dp:Int
 nd:Int
 tx:Int
def L.av (l:L):AV:=.agg [.int .i64 l.b,.int .i64 l.dp,.int .i64 l.nd,.int .i64 l.tx]

def C.sound (c:C):Bool:=decide (0≤c.a)&&decide (c.a≤c.e)&&decide (c.e≤(c.d.length:Int))
def C.rest (c:C):List UInt8:=bif c.sound then(c.d.drop c.a.toNat).take (c.e.toNat-c.a.toNat)else []
def C.left (c:C):Int:=(c.rest.length:Int)
def C.ahead (c:C)(n:Int):C:={ c with a:=IntKind.i64.wrap (c.a+n) }

def opn (s:List UInt8)(l:L):C×Nat :=
 if l.b<0∨l.dp<0∨l.nd<0∨l.tx<0 then(zc,1)else if l.b<(s.length:Int)then(zc,3)else(⟨s,0,s.length,l.dp,l.nd,l.tx⟩,0)

def C.varint (c:C):Nat×C×Nat :=
 let r:=Vp.take c.rest
 if r.2.2=0 then(r.1,c.ahead r.2.1,0)else(0,c,r.2.2)

def Uw (s:List UInt8):Nat:=(s.take 8).foldr (fun b u=>256*u+b.toNat) 0

def C.fixed (c:C):Nat×C×Nat :=
 if c.rest.length<8 then(0,c,4)else(Uw c.rest,c.ahead 8,0)

def C.spend (c:C)(n:Int):C×Nat :=
 if n<0 then(c,1)else if c.nd<n then(c,3)else({ c with nd:=IntKind.i64.wrap (c.nd-n) },0)

def Wx (r:Nat×C×Nat):AV:=.tup [.int .u64 (r.1:Nat),r.2.1.av,.int .i64 (r.2.2:Nat)]
def Hw (r:C×Nat):AV:=.tup [r.1.av,.int .i64 (r.2:Nat)]

theorem C.sound_iff (c:C):c.sound=true↔0≤c.a∧c.a≤c.e∧c.e≤(c.d.length:Int):=by
 simp[C.sound,and_assoc]

theorem C.rest_len (c:C):c.left=if c.sound=true then c.e-c.a else 0:=by
 unfold C.left C.rest;split
 ·rename_i h;rw[h];have:=(C.sound_iff c).1 h;simp;omega
 ·rename_i h;have h:c.sound=false:=xQ
  rw[h];rfl

theorem C.rest_of {c:C}(h:c.sound=true):c.rest=(c.d.drop c.a.toNat).take (c.e.toNat-c.a.toNat):=by
 unfold C.rest;rw[h];rfl

theorem C.rest_no {c:C}(h:c.sound=false):c.rest=[]:=by
 unfold C.rest;rw[h];rfl

theorem C.head_of {c:C}(h:c.sound=true)(n:Nat)(k:Int)(hk:k=if c.a+n<c.e then c.a+n else c.e):c.rest.take n=(c.d.drop c.a.toNat).take (k.toNat-c.a.toNat):=by
 have hs:=(C.sound_iff c).1 h;rw[C.rest_of h,QmF];congr 1
 split at hk<;>omega

end Go.Proofs.YtmlohboeoeoamaaGreatDoor.Cp

namespace Go.Proofs.YtmlohboeoeoamaaGreatDoor.Up
open Go Am Bt Vp Cp

structure R where
 num:Int
 wire:Int
 bits:Nat
 data:List UInt8
 deriving DecidableEq

def R.av (f:R):AV:=.agg [.int .i64 f.num,.int .i64 f.wire,.int .u64 (f.bits:Nat),.str f.data]
def zr:R:=⟨0,0,0,[]⟩

def ZB (num wire:Int):List UInt8×Nat :=
 if num<1∨65535<num∨wire<0∨6<wire then([],6)else(Vp.put (num*8+wire).toNat,0)
def Df (r:List UInt8×Nat):AV:=.tup [.str r.1,.int .i64 (r.2:Nat)]

def Qq (c:C):Int×Int×C×Nat :=
 let r:=c.varint
 if r.2.2=0 then
  if r.1 % 8=7 then(0,0,c,5)else if r.1 / 8<1∨65535<r.1 / 8 then(0,0,c,6)else((r.1 / 8:Nat),(r.1 % 8:Nat),r.2.1,0)
 else(0,0,c,r.2.2)
def VI (r:Int×Int×C×Nat):AV:=.tup [.int .i64 r.1,.int .i64 r.2.1,r.2.2.1.av,.int .i64 (r.2.2.2:Nat)]

def XK (wire:Int):Bool:=wire==0||wire==1||wire==2

def Kk (c:C)(wire:Int):List UInt8×C×Nat :=
 let r:=c.varint
 if r.2.2=0 then
  if r.2.1.left<(r.1:Int)then([],c,4)
  else if (if wire=3 then c.tx else 65536)<(r.1:Int)then([],c,3)
  else((r.2.1.d.drop r.2.1.a.toNat).take r.1,r.2.1.ahead r.1,0)
 else([],c,r.2.2)
def Dg (r:List UInt8×C×Nat):AV:=.tup [.str r.1,r.2.1.av,.int .i64 (r.2.2:Nat)]

def Zv (c:C)(f:R):R×C×Nat :=
 if f.wire=2 then({ f with bits:=c.fixed.1 },c.fixed.2.1,c.fixed.2.2)
 else if f.wire=0∨f.wire=1 then({ f with bits:=c.varint.1 },c.varint.2.1,c.varint.2.2)
 else({ f with data:=(Kk c f.wire).1 },(Kk c f.wire).2.1,(Kk c f.wire).2.2)

def Xv (c:C):R×C×Nat :=
 let t:=Qq c
 if t.2.2.2=0 then
  let s:=t.2.2.1.spend 1
  if s.2=0 then
   let k:=Zv s.1 { num:=t.1,wire:=t.2.1,bits:=0,data:=[] }
   if k.2.2=0 then k else(zr,c,k.2.2)
  else(zr,c,s.2)
 else(zr,c,t.2.2.2)
def N3 (r:R×C×Nat):AV:=.tup [r.1.av,r.2.1.av,.int .i64 (r.2.2:Nat)]

theorem Mv {c:C}(h:c.rest≠[]):c.sound=true:=by
 cases hs:c.sound with
 |true=>rfl
 |false=>exact absurd (C.rest_no hs) h

theorem Z6 {c:C}(hl:c.d.length≤9223372036854775807)(h:c.varint.2.2=0):∃n:Nat,0<n∧n≤10∧(n:Int)≤c.left∧c.varint.2.1={ c with a:=c.a+n }∧c.sound=true∧c.varint.2.1.sound=true∧c.varint.1<2 ^ 64:=by
 unfold C.varint at h ⊢;have hb:=Hi c.rest;generalize Vp.take c.rest=r at h hb ⊢;obtain⟨u,n,e⟩:=r;simp only at h hb ⊢;split at h
 ·rename_i he;subst he;obtain⟨h1,h2,h3,h4⟩:=hb rfl;have hne:c.rest≠[]:=by intro e;rw[e]at h2;simp at h2;omega
  have hs:=Mv hne;have hs':=(C.sound_iff c).1 hs;have hle:=c.rest_len;rw[Qlv hs]at hle;have hw:IntKind.i64.wrap (c.a+(n:Int))=c.a+n:=by
   have:(n:Int)≤c.left:=by unfold C.left;omega
   rw[QA];omega
  have hnl:(n:Int)≤c.left:=by unfold C.left;omega
  refine⟨n,h1,h3,hnl,?_,hs,?_,?_⟩
  ·rw[Qlv rfl];simp only[C.ahead,hw]
  ·rw[Qlv rfl];rw[C.sound_iff];simp only[C.ahead,hw];omega
  ·rw[Qlv rfl];exact h4
 ·rename_i he;exact absurd h he

end Go.Proofs.YtmlohboeoeoamaaGreatDoor.Up

namespace Go.Proofs.YtmlohboeoeoamaaGreatDoor.Br
open Go Am Up

theorem QbZ {M k:Nat}{cs:List AV}(h:Xy Tryz.prog M k 57 cs):∃f:R,((Lit.int .i64 f.num).wf=true∧(Lit.int .i64 f.wire).wf=true∧(Lit.int .u64 (f.bits:Int)).wf=true∧f.data.length≤M)∧.agg cs=f.av:=by
 obtain⟨k,h⟩:=Z0 Tryz.underlying57 h;simp only[Xy.HasL]at h;obtain⟨_,_,rfl,h0,_,_,rfl,h1,_,_,rfl,h2,_,_,rfl,h3,rfl⟩:=h;obtain⟨a0,rfl,w0⟩:=Zj Tryz.underlying3 h0;obtain⟨a1,rfl,w1⟩:=Zj Tryz.underlying3 h1;obtain⟨a2,rfl,w2⟩:=Zj Tryz.underlying26 h2;obtain⟨a3,rfl,w3⟩:=K9 Tryz.underlying9 h3;have hn:0≤a2:=CX w2;obtain⟨n,rfl⟩:=Qnb hn;exact⟨⟨a0,a1,n,a3⟩,⟨w0,w1,w2,w3⟩,rfl⟩

inductive V where
 |mk (k:Int) (b:Nat) (t:List UInt8) (l:List V) (p:List (V×V)) (s:List (Int×V)) (r:List R)
 deriving Inhabited

mutual
def V.cells:V→List AV
 |.mk k b t l p s r=>[.int .i64 k,.int .u64 (b:Nat),.str t,.list (V.cl l),.list (V.cp p),.list (V.cs s),.list (r.map R.av)]
def V.cl:List V→List AV
 | []=>[]
 |x :: l=>.agg x.cells :: V.cl l
def V.cp:List (V×V)→List AV
 | []=>[]
 |(a,b) :: l=>.agg (a.cells++b.cells) :: V.cp l
def V.cs:List (Int×V)→List AV
 | []=>[]
 |(n,a) :: l=>.agg (.int .i64 n :: a.cells) :: V.cs l
end

def V.kd:V→Int|.mk k _ _ _ _ _ _=>k
def V.bits:V→Nat|.mk _ b _ _ _ _ _=>b
def V.text:V→List UInt8|.mk _ _ t _ _ _ _=>t
def V.list:V→List V|.mk _ _ _ l _ _ _=>l
def V.pairs:V→List (V×V)|.mk _ _ _ _ p _ _=>p
def V.slots:V→List (Int×V)|.mk _ _ _ _ _ s _=>s
def V.raws:V→List R|.mk _ _ _ _ _ _ r=>r

def V.av (v:V):AV:=.agg v.cells
def V.pav (p:V×V):AV:=.agg (p.1.cells++p.2.cells)
def V.sav (s:Int×V):AV:=.agg (.int .i64 s.1 :: s.2.cells)

theorem V.cl_eq:∀l:List V,V.cl l=l.map V.av
 | []=>rfl
 |x :: l=>by rw[V.cl,V.cl_eq l];rfl
theorem V.cp_eq:∀l:List (V×V),V.cp l=l.map V.pav
 | []=>rfl
 |(a,b) :: l=>by rw[V.cp,V.cp_eq l];rfl
theorem V.cs_eq:∀l:List (Int×V),V.cs l=l.map V.sav
 | []=>rfl
 |(n,a) :: l=>by rw[V.cs,V.cs_eq l];rfl

theorem V.eta:∀v:V,v.cells=[.int .i64 v.kd,.int .u64 (v.bits:Nat),.str v.text,.list (v.list.map V.av),.list (v.pairs.map V.pav),.list (v.slots.map V.sav),.list (v.raws.map R.av)]
 |.mk k b t l p s r=>by rw[V.cells,V.cl_eq,V.cp_eq,V.cs_eq];rfl

theorem V.ind {P:V→Prop}(h:∀v:V,(∀x∈v.list,P x)→(∀x∈v.pairs,P x.1∧P x.2)→(∀x∈v.slots,P x.2)→P v)(v:V):P v :=
 V.rec (motive_1:=P) (motive_2:=fun l=>∀x∈l,P x) (motive_3:=fun p=>∀x∈p,P x.1∧P x.2) (motive_4:=fun s=>∀x∈s,P x.2) (motive_5:=fun q=>P q.1∧P q.2) (motive_6:=fun q=>P q.2)
  (fun k b t l p s r hl hp hs=>h (.mk k b t l p s r) hl hp hs)
  xA (fun a l ha hl=>by simpa using ⟨ha,hl⟩)
  xA (fun a l ha hl=>by simp only[QmM,forall_eq_or_imp];exact⟨ha,hl⟩)
  xA (fun a l ha hl=>by simp only[QmM,forall_eq_or_imp];exact⟨ha,hl⟩)
  (fun a b ha hb=>⟨ha,hb⟩) (fun n a ha=>ha) v

structure _root_.Go.Proofs.YtmlohboeoeoamaaGreatDoor.Up.R.ok (M:Nat)(f:R):Prop where
 num:(Lit.int .i64 f.num).wf=true
 wire:(Lit.int .i64 f.wire).wf=true
 bits:(Lit.int .u64 (f.bits:Int)).wf=true
 data:f.data.length≤M

inductive V.ok (M:Nat):V→Prop
 |mk {v:V} (kd:(Lit.int .i64 v.kd).wf=true) (bits:(Lit.int .u64 (v.bits:Int)).wf=true) (text:v.text.length≤M) (nl:v.list.length≤1099511627776) (np:v.pairs.length≤549755813888) (ns:v.slots.length≤1099511627776) (nr:v.raws.length≤70368744177664)
   (list:∀x∈v.list,V.ok M x) (keys:∀x∈v.pairs,V.ok M x.1) (vals:∀x∈v.pairs,V.ok M x.2) (nums:∀x∈v.slots,(Lit.int .i64 x.1).wf=true) (slots:∀x∈v.slots,V.ok M x.2) (raws:∀x∈v.raws,x.ok M):V.ok M v

section
variable {M:Nat}{v:V}(h:v.ok M)
include h
theorem V.ok.kd:(Lit.int .i64 v.kd).wf=true:=by cases h;assumption
theorem V.ok.bits:(Lit.int .u64 (v.bits:Int)).wf=true:=by cases h;assumption
theorem V.ok.text:v.text.length≤M:=by cases h;assumption
theorem V.ok.nl:v.list.length≤1099511627776:=by cases h;assumption
theorem V.ok.np:v.pairs.length≤549755813888:=by cases h;assumption
theorem V.ok.ns:v.slots.length≤1099511627776:=by cases h;assumption
theorem V.ok.nr:v.raws.length≤70368744177664:=by cases h;assumption
theorem V.ok.list:∀x∈v.list,x.ok M:=by cases h;assumption
theorem V.ok.keys:∀x∈v.pairs,x.1.ok M:=by cases h;assumption
theorem V.ok.vals:∀x∈v.pairs,x.2.ok M:=by cases h;assumption
theorem V.ok.nums:∀x∈v.slots,(Lit.int .i64 x.1).wf=true:=by cases h;assumption
theorem V.ok.slots:∀x∈v.slots,x.2.ok M:=by cases h;assumption
theorem V.ok.raws:∀x∈v.raws,x.ok M:=by cases h;assumption
end

theorem V.cells_length (v:V):v.cells.length=7:=by rw[V.eta];rfl

theorem N4 {c:List AV}(h:2≤c.length):Zg c=.agg c:=by
 match c,h with
 |_ :: _ :: _,_=>rfl

theorem Qfy {M:Nat}(hM:M=reachBytes∨M≤1048576):∀ {k:Nat} {cs:List AV},Xy Tryz.prog M k 32 cs→∃v:V,v.ok M∧cs=v.cells:=by
 intro k
 induction k using Nat.strongRecOn with
 |ind k ih=>
 intro cs h;cases k with
 |zero=>cases h
 |succ k=>
 simp only[Xy,Tryz.underlying32,Xy.HasL]at h;obtain⟨_,_,rfl,h0,_,_,rfl,h1,_,_,rfl,h2,_,_,rfl,h3,_,_,rfl,h4,_,_,rfl,h5,_,_,rfl,h6,rfl⟩:=h;obtain⟨a0,rfl,w0⟩:=Zj Tryz.underlying3 h0;obtain⟨a1,rfl,w1⟩:=Zj Tryz.underlying26 h1;obtain⟨a2,rfl,w2⟩:=K9 Tryz.underlying9 h2;have hb:0≤a1:=CX w1;obtain⟨b,rfl⟩:=Qnb hb;have sl:∀ {k0:Nat} {t e:TypeId} {cs:List AV},k0≤k→Tryz.prog.underlying t=some (.slice e)→Xy Tryz.prog M k0 t cs→∃(k':Nat) (l:List (List AV)),k'<k∧cs=[.list (l.map Zg)]∧(l.length≤M∧(M=reachBytes→l.length*Tryz.prog.bytesOf e≤M))∧∀c∈l,Xy Tryz.prog M k' e c:=by
  intro k0 t e cs hk hu h;cases k0 with
  |zero=>cases h
  |succ k0=>
   simp only[Xy,hu]at h;obtain⟨l,h1,h4,h3,h2⟩:=h;exact⟨k0,l,xw,h1,⟨h2,h4.2⟩,h3⟩
 have nb:∀ {n b:Nat} (c:Nat),(n≤M∧(M=reachBytes→n*b≤M))→1048576≤c→(n*b≤140737488351232→n≤c)→n≤c:=fun c h1 h2 h3=>by
  rcases hM with e|e
  ·refine h3 (Qll (h1.2 e) ?_);rw[e];exact Qlk _
  ·exact Qll h1.1 (Qll e h2)
 have y1:Tryz.prog.bytesOf 32=128:=xH
 have y2:Tryz.prog.bytesOf 68=256:=xH
 have y3:Tryz.prog.bytesOf 50=136:=xH
 have y4:Tryz.prog.bytesOf 57=40:=xH
 obtain⟨k3,l3,b3,rfl,w3,hl3⟩:=sl (Qlk _) Tryz.underlying27 h3;obtain⟨k4,l4,b4,rfl,w4,hl4⟩:=sl (Qlk _) Tryz.underlying28 h4;obtain⟨k5,l5,b5,rfl,w5,hl5⟩:=sl (Qlk _) Tryz.underlying29 h5;obtain⟨k6,l6,b6,rfl,w6,hl6⟩:=sl (Qlk _) Tryz.underlying30 h6;obtain⟨vs,rfl,hvs⟩:=Jq (f:=V.cells) (ok:=V.ok M) fun c hc=>ih k3 xw (hl3 c hc)
 obtain⟨ps,rfl,hps⟩:=Jq (l:=l4) (f:=fun p:V×V=>p.1.cells++p.2.cells) (ok:=fun p=>p.1.ok M∧p.2.ok M) fun c hc=>by
  have h:=hl4 c hc;cases k4 with
  |zero=>cases h
  |succ k4=>
  simp only[Xy,Tryz.underlying68,Xy.HasL]at h;obtain⟨a,_,rfl,h0,b,_,rfl,h1,rfl⟩:=h;obtain⟨x,hx,rfl⟩:=ih k4 xw h0;obtain⟨y,hy,rfl⟩:=ih k4 xw h1;exact⟨(x,y),⟨hx,hy⟩,xA⟩
 obtain⟨ss,rfl,hss⟩:=Jq (l:=l5) (f:=fun s:Int×V=>.int .i64 s.1 :: s.2.cells) (ok:=fun s=>(Lit.int .i64 s.1).wf=true∧s.2.ok M) fun c hc=>by
  have h:=hl5 c hc;cases k5 with
  |zero=>cases h
  |succ k5=>
  simp only[Xy,Tryz.underlying50,Xy.HasL]at h;obtain⟨_,_,rfl,h0,b,_,rfl,h1,rfl⟩:=h;obtain⟨a0,rfl,w0⟩:=Zj Tryz.underlying3 h0;obtain⟨y,hy,rfl⟩:=ih k5 xw h1;exact⟨(a0,y),⟨w0,hy⟩,xA⟩
 obtain⟨rs,rfl,hrs⟩:=Jq (l:=l6) (f:=fun r:R=>r.av.cells) (ok:=R.ok M) fun c hc=>by
  obtain⟨f,⟨g1,g2,g3,g4⟩,e⟩:=QbZ (hl6 c hc);refine⟨f,⟨g1,g2,g3,g4⟩,?_⟩;rw[←e];rfl
 refine⟨.mk a0 b a2 vs ps ss rs,.mk w0 w1 w2 (by rw[Qmj,y1]at w3;exact nb _ w3 xy xw) (by rw[Qmj,y2]at w4;exact nb _ w4 xy xw) (by rw[Qmj,y3]at w5;exact nb _ w5 xy xw) (by rw[Qmj,y4]at w6;exact nb _ w6 xy xw) hvs (fun x hx=>(hps x hx).1) (fun x hx=>(hps x hx).2) (fun x hx=>(hss x hx).1) (fun x hx=>(hss x hx).2) hrs,?_⟩;rw[V.eta];have e3:(vs.map V.cells).map Zg=vs.map V.av:=by
  rw[Qnj];exact Qni fun c _=>N4 (by rw[V.cells_length];omega)
 have e4:(ps.map (fun p=>p.1.cells++p.2.cells)).map Zg=ps.map V.pav:=by
  rw[Qnj];exact Qni fun p _=>N4 (by rw[Ql2,V.cells_length];omega)
 have e5:(ss.map (fun s=>AV.int .i64 s.1 :: s.2.cells)).map Zg=ss.map V.sav:=by
  rw[Qnj];exact Qni fun p _=>N4 (by rw[QlD,V.cells_length];omega)
 have e6:(rs.map (fun r=>r.av.cells)).map Zg=rs.map R.av:=by
  rw[Qnj];exact Qni fun r _=>rfl
 rw[e3,e4,e5,e6];rfl

end Go.Proofs.YtmlohboeoeoamaaGreatDoor.Br

namespace Go.Proofs.YtmlohboeoeoamaaGreatDoor.Va
open Go Am Rc Bt Br

def oth (k:Int)(b:Nat)(t:List UInt8)(l p s r:List AV):Bool :=
 (k != 11&&decide ((l.length:Int) > 0))||(k != 12&&decide ((p.length:Int) > 0))||(k != 10&&decide (((s.length+r.length:Nat):Int) > 0))||((b:Int) != 0&&(Zp k||k==10||k==11||k==12))||(!(t==[]) && !Zp k)

section
variable (k:Int)(b:Nat)(t:List UInt8)(l p s r:List AV)(hs:s.length≤140737488351232)(hr:r.length≤140737488351232)

set_option maxHeartbeats 2000000 in
include hs hr in
theorem z89:Qh Tryz.prog 89 [vo k b t l p s r] (.bool (oth k b t l p s r)):=by
 have w:IntKind.i64.wrap ((s.length:Int)+(r.length:Int))=((s.length+r.length:Nat):Int):=by simp only[QA];omega
 have n4:((b:Int) != 0)=!((b:Int)==0):=rfl;have n5:(t != [])=!(t==[]):=rfl;refine wF Tryz.func89 ?_;simp only[eK,Tryz.f89,seval];simp only[vo,oth,Zp,n4,eE,seval];rcases(by omega:k=7∨k=8∨k=10∨k=11∨k=12∨(k≠7∧k≠8∧k≠10∧k≠11∧k≠12))with rfl|rfl|rfl|rfl|rfl|⟨h7,h8,h10,h11,h12⟩
 ·have b7:((7:Int)==7)=true:=xy
  have b8:((7:Int)==8)=false:=xy
  have b10:((7:Int)==10)=false:=xy
  have b11:((7:Int)==11)=false:=xy
  have b12:((7:Int)==12)=false:=xy
  have c10:((7:Int) != 10)=true:=xy
  have c11:((7:Int) != 11)=true:=xy
  have c12:((7:Int) != 12)=true:=xy
  have g1:decide ((7:Int)≥10)=false:=xy
  have g2:decide ((7:Int)≤12)=true:=xy
  simp only[b7,b8,b10,b11,b12,c10,c11,c12,Qm8,Qnt,Qna,QmD,Qm9,eE,seval];exact oK

 ·have b7:((8:Int)==7)=false:=xy
  have b8:((8:Int)==8)=true:=xy
  have b10:((8:Int)==10)=false:=xy
  have b11:((8:Int)==11)=false:=xy
  have b12:((8:Int)==12)=false:=xy
  have c10:((8:Int) != 10)=true:=xy
  have c11:((8:Int) != 11)=true:=xy
  have c12:((8:Int) != 12)=true:=xy
  have g1:decide ((8:Int)≥10)=false:=xy
  have g2:decide ((8:Int)≤12)=true:=xy
  simp only[b7,b8,b10,b11,b12,c10,c11,c12,Qm8,Qnt,Qnu,Qna,QmD,Qm9,eE,seval];exact oK

 ·have b7:((10:Int)==7)=false:=xy
  have b8:((10:Int)==8)=false:=xy
  have b10:((10:Int)==10)=true:=xy
  have b11:((10:Int)==11)=false:=xy
  have b12:((10:Int)==12)=false:=xy
  have c10:((10:Int) != 10)=false:=xy
  have c11:((10:Int) != 11)=true:=xy
  have c12:((10:Int) != 12)=true:=xy
  have g1:decide ((10:Int)≥10)=true:=xy
  have g2:decide ((10:Int)≤12)=true:=xy
  simp only[b7,b8,b10,b11,b12,c10,c11,c12,Qm8,QmW,Qnt,Qnu,QmD,Qmx,eE,seval];cases a1:decide ((l.length:Int) > 0)<;>try simp only[c12,Qnd,Qnc,eE,seval]
  all_goals(cases a2:decide ((p.length:Int) > 0)<;>try simp only[c10,Qnd,Qnc,eE,seval])
  all_goals(cases a3:decide (((s.length+r.length:Nat):Int) > 0)<;>try simp only[a3,g1,g2,b7,b8,b10,b11,b12,c10,c11,c12,Qm8,QmW,Qnt,Qnu,Qnd,Qnc,Qna,QmD,Qmx,Qm9,w,QS,eE,seval])
  all_goals(cases a4:((b:Int)==0)<;>try simp only[a4,n4,Qnd,Qnc,Qmx,Qm9,QS,eE,seval])
  all_goals exact zd

 ·have b7:((11:Int)==7)=false:=xy
  have b8:((11:Int)==8)=false:=xy
  have b10:((11:Int)==10)=false:=xy
  have b11:((11:Int)==11)=true:=xy
  have b12:((11:Int)==12)=false:=xy
  have c10:((11:Int) != 10)=true:=xy
  have c11:((11:Int) != 11)=false:=xy
  have c12:((11:Int) != 12)=true:=xy
  have g1:decide ((11:Int)≥10)=true:=xy
  have g2:decide ((11:Int)≤12)=true:=xy
  simp only[b7,b8,b10,b11,b12,c10,c11,c12,Qm8,QmW,Qnt,Qnu,Qnd,QmD,Qmx,eE,seval];cases a1:decide ((l.length:Int) > 0)<;>try simp only[a1,g1,g2,b7,b8,b10,b11,b12,c10,c11,c12,Qm8,QmW,Qnt,Qnu,Qnd,Qnc,Qna,QmD,Qmx,Qm9,w,QS,eE,seval]
  all_goals(cases a2:decide ((p.length:Int) > 0)<;>try simp only[c10,Qnd,Qnc,w,eE,seval])
  all_goals(cases a3:decide (((s.length+r.length:Nat):Int) > 0)<;>try simp only[Qnd,Qnc,eE,seval])
  all_goals(cases a4:((b:Int)==0)<;>try simp only[a4,n4,Qnd,Qnc,Qmx,Qm9,QS,eE,seval])
  all_goals exact zd

 ·have b7:((12:Int)==7)=false:=xy
  have b8:((12:Int)==8)=false:=xy
  have b10:((12:Int)==10)=false:=xy
  have b11:((12:Int)==11)=false:=xy
  have b12:((12:Int)==12)=true:=xy
  have c10:((12:Int) != 10)=true:=xy
  have c11:((12:Int) != 11)=true:=xy
  have c12:((12:Int) != 12)=false:=xy
  have g1:decide ((12:Int)≥10)=true:=xy
  have g2:decide ((12:Int)≤12)=true:=xy
  simp only[b7,b8,b10,b11,b12,c10,c11,c12,Qm8,QmW,Qnt,Qnu,QmD,Qmx,eE,seval];cases a1:decide ((l.length:Int) > 0)<;>try simp only[c10,c12,Qnd,Qnc,w,eE,seval]
  all_goals(cases a2:decide ((p.length:Int) > 0)<;>try simp only[a2,g1,g2,b7,b8,b10,b11,b12,c10,c11,c12,Qm8,QmW,Qnt,Qnu,Qnd,Qnc,Qna,QmD,Qmx,Qm9,w,QS,eE,seval])
  all_goals(cases a3:decide (((s.length+r.length:Nat):Int) > 0)<;>try simp only[Qnd,Qnc,eE,seval])
  all_goals(cases a4:((b:Int)==0)<;>try simp only[a4,n4,Qnd,Qnc,Qmx,Qm9,QS,eE,seval])
  all_goals exact zd
 ·have b7:(k==7)=false:=by simp[h7]
  have b8:(k==8)=false:=by simp[h8]
  have b10:(k==10)=false:=by simp[h10]
  have b11:(k==11)=false:=by simp[h11]
  have b12:(k==12)=false:=by simp[h12]
  have c10:(k != 10)=true:=by simp[h10]
  have c11:(k != 11)=true:=by simp[h11]
  have c12:(k != 12)=true:=by simp[h12]
  rcases(by omega:(k≥10∧¬k≤12)∨¬k≥10)with⟨q1,q2⟩|q1
  ·have g1:decide (k≥10)=true:=Qnr q1;have g2:decide (k≤12)=false:=Qnl q2;simp only[b7,b8,b10,b11,b12,c10,c11,c12,Qm8,Qnt,Qna,QmD,Qmx,eE,seval];cases a1:decide ((l.length:Int) > 0)<;>try simp only[c12,Qnd,Qnc,eE,seval]
   all_goals(cases a2:decide ((p.length:Int) > 0)<;>try simp only[c10,Qnd,Qnc,w,eE,seval])
   all_goals(cases a3:decide (((s.length+r.length:Nat):Int) > 0)<;>try simp only[Qnd,Qnc,eE,seval])
   all_goals(cases a4:((b:Int)==0)<;>try simp only[a4,n4,g1,g2,Qmx,Qm9,QS,eE,seval])
   all_goals exact zd
  ·have g1:decide (k≥10)=false:=Qnl q1;simp only[b7,b8,b10,b11,b12,c10,c11,c12,Qm8,Qnt,Qna,QmD,Qmx,eE,seval];cases a1:decide ((l.length:Int) > 0)<;>try simp only[c12,Qnd,Qnc,eE,seval]
   all_goals(cases a2:decide ((p.length:Int) > 0)<;>try simp only[c10,Qnd,Qnc,w,eE,seval])
   all_goals(cases a3:decide (((s.length+r.length:Nat):Int) > 0)<;>try simp only[Qnd,Qnc,eE,seval])
   all_goals(cases a4:((b:Int)==0)<;>try simp only[a4,n4,g1,Qmx,Qm9,QS,eE,seval])
   all_goals exact zd

end

section
variable (k:Int)(b:Nat)(t:List UInt8)(l p s r:List AV)(hs:s.length≤140737488351232)(hr:r.length≤140737488351232)

end

theorem A1 {α:Type}(p:α→Bool){l:List α}{i:Nat}{x:α}(hx:l[i]? = some x):(l.drop i).find? p=if p x=true then some x else(l.drop (i+1)).find? p:=by
 have hlt:i<l.length:=(Qlm.1 hx).1;rw[Ql7 hlt,show l[i]=x from(Qlm.1 hx).2,Qnk];cases p x<;>rfl

def zc:List AV:=[.int .i64 0,.str [],.str [],.int .i64 0,.int .i64 0,.int .i64 0,.int .i64 0,.int .i64 0]

def OpI (g:PG)(n:Int)(k:Nat)(st:St):Prop :=
 ∃f fr i,st=⟨f,[fr],[]⟩∧k=g.ops.length-i∧g.ops.find? (fun o=>o.num==n)=(g.ops.drop i).find? (fun o=>o.num==n)∧f 1=.int .i64 n∧f 2=.ptr 0 2 0∧f 4=.ptr 0 4 0∧f 6=.int .i64 (i:Nat)∧fr 2=.cells g.cells∧fr 4=.cells zc

theorem y11 (g:PG)(hl:g.ops.length≤maxLen)(n:Int):Qh Tryz.prog 11 [Qm g,.int .i64 n] (BQ (fun o=>o.num==n) g.ops):=by
 refine wF Tryz.func11 ?_;simp only[eK,Tryz.f11,seval];simp only[Qm,PG.cells,eE,seval];refine Qi (OpI g n) _ ⟨_,_,0,rfl,rfl,rfl,xx,xx,xx,xx,xx,xx⟩ ?_;rintro _ st ⟨f,fr,i,rfl,rfl,hx,h1,h2,h4,h6,m2,m4⟩;simp only[PG.cells,zc]at m2 m4;simp only[Qmj,h2,h6,m2,eE,seval];by_cases hlt:i<g.ops.length
 ·obtain⟨x,hi⟩:∃x,g.ops[i]? = some x:=⟨g.ops[i],Qln hlt⟩;have hg:(g.ops.map fun o=>AV.agg o.cells)[i]? = some (.agg x.cells):=wE
  have e1:=Qr i _ hlt hl;rw[A1 _ hi]at hx;simp only[PO.cells]at hg m2;simp only[QB hlt,Qp,QmS,Qf,hg,PO.cells,h1,h2,h6,m2,eE,seval];cases hp:(x.num==n)
  ·rw[hp]at hx;simp only[QlH,if_false]at hx;simp only[h6,e1,Qa,seval];exact⟨g.ops.length-(i+1),xw,_,_,i+1,rfl,rfl,hx,xL,v9,xR,xx,m2,m4⟩
  ·rw[hp]at hx;simp only[if_true]at hx;simp only[Qp,QmS,Qf,hg,BQ,hx,QmA,Qnm,Qu,PO.cells,h2,h4,h6,m2,m4,splice,Qmy,QlL,Ql0,Ql6,QmE,Qms,QlD,Qmk,QmB,QmC,AV.leaf,eE,seval]
 ·have hx':g.ops.find? (fun o=>o.num==n)=none:=wl
  simp only[QI hlt,h4,m4,BQ,hx',Qm4,Qme,Uq,Qu,PO.cells,splice,Qmy,QlL,Ql0,Ql6,QmE,Qms,QlD,Qmk,QmB,QmC,AV.leaf,eE,seval]

section progs
variable (L:List PG)(hl:L.length≤maxLen)(p:PG→Bool)(c:Nat)(cap:AV)(m:Qk)

include hl in
theorem y47 (hc:∀o∈L,Qe Tryz.prog c [Qm o,cap.sh] (Qb :: m) fun y m1=>y=.bool (p o)∧m1=Qb :: m) :
  Qe Tryz.prog 47 [.list (L.map Qm),.fn (.func c) [] [cap]] m fun y m1=>y=.int .i64 (Za p L 0)∧m1=m:=by
 refine wG Tryz.func47 ?_;simp only[eK,Tryz.f47,seval];exact GZ hl (av:=Qm) (n:=3) (s:=some 3) (cs:=[cap]) (fun _=>⟨rfl,rfl⟩) hc

end progs

section items
variable (L:List PI)(hl:L.length≤maxLen)(p:PI→Bool)(c:Nat)(cap:AV)(m:Qk)

include hl in
theorem Qio (hc:∀o∈L,Qe Tryz.prog c [XD o,cap.sh] (Qb :: m) fun y m1=>y=.bool (p o)∧m1=Qb :: m) :
  Qe Tryz.prog 304 [.list (L.map XD),.fn (.func c) [] [cap]] m fun y m1=>y=.int .i64 (Za p L 0)∧m1=m:=by
 refine wG Tryz.func304 ?_;simp only[eK,Tryz.f304,seval];exact GZ hl (av:=XD) (n:=3) (s:=some 3) (cs:=[cap]) (fun _=>⟨rfl,rfl⟩) hc

theorem N5 {α:Type}(p:α→Bool)(l:List α):decide (Za p l 0≥0)=l.any p:=by
 exact zb

include hl in
theorem Qip (hc:∀o∈L,Qe Tryz.prog c [XD o,cap.sh.sh] (Qb :: Qb :: m) fun y m1=>y=.bool (p o)∧m1=Qb :: Qb :: m) :
  Qe Tryz.prog 242 [.list (L.map XD),.fn (.func c) [] [cap]] m fun y m1=>y=.bool (L.any p)∧m1=m:=by
 refine wG Tryz.func242 ?_;simp only[eK,Tryz.f242,seval];simp only[Qa,seval];refine Qj (Qio L hl p c cap.sh _ hc) xF ?_;simp only[N5,Qa,seval]

end items

def A2 (b:Nat)(x:PI):Bool:=IntKind.u64.wrap x.num==(b:Int)
theorem y48 (g:PG)(frO:Nat→Ob)(s:List UInt8)(hf:frO 3=.cells [.str s]):Qe Tryz.prog 48 [Qm g,.ptr 1 3 0] [Qb,frO] fun y m1=>y=.bool (g.name==s)∧m1=[Qb,frO]:=by
 refine wG Tryz.func48 ?_;simp only[eK,Tryz.f48,seval];simp only[hf,Qm,PG.cells,QS,eE,seval]

theorem Qiq (x:PI)(b:Nat)(frO:Nat→Ob)(hf:frO 5=.cells [.int .u64 (b:Nat)]):Qe Tryz.prog 243 [XD x,.ptr 2 5 0] [Qb,Qb,frO] fun y m1=>y=.bool (A2 b x)∧m1=[Qb,Qb,frO]:=by
 refine wG Tryz.func243 ?_;simp only[eK,Tryz.f243,seval];simp only[hf,XD,PI.cells,A2,eE,seval]

def Fx (s:List UInt8)(L:List PG):AV:=.tup [.int .i64 (if Za (fun g:PG=>g.name==s) L 0<0 then 0 else Za (fun g:PG=>g.name==s) L 0),.bool (decide (Za (fun g:PG=>g.name==s) L 0≥0))]

theorem Rs (P:PL)(hl:P.progs.length≤maxLen)(s:List UInt8):Qh Tryz.prog 22 [P.av,.str s] (Fx s P.progs):=by
 refine wF Tryz.func22 ?_;simp only[eK,Tryz.f22,seval];simp only[PL.av,eE,seval];refine Qj (y47 P.progs hl (fun g=>g.name==s) 48 (.ptr 0 3 0) _ fun g _=>y48 g _ s xx) xB ?_;unfold Fx;by_cases h:Za (fun g:PG=>g.name==s) P.progs 0<0
 ·have d:decide (Za (fun g:PG=>g.name==s) P.progs 0<0)=true:=Qnr h;simp only[Qlv h,Qa,seval]
 ·have d:decide (Za (fun g:PG=>g.name==s) P.progs 0<0)=false:=Qnl h;simp only[Qlu h,Qa,seval]

def FdI (P:PL)(s:List UInt8)(k:Nat)(st:St):Prop :=
 ∃f fr i,st=⟨f,[fr],[]⟩∧k=P.progs.length-i∧Za (fun g:PG=>g.name==s) P.progs 0=Za (fun g:PG=>g.name==s) (P.progs.drop i) i∧f 1=.str s∧f 2=.ptr 0 2 0∧f 6=.int .i64 (i:Nat)∧fr 2=.cells [.list (P.progs.map Qm),.list (P.enums.map QC)]

theorem y8 (P:PL)(hl:P.progs.length≤maxLen)(s:List UInt8):Qh Tryz.prog 8 [P.av,.str s] (Fx s P.progs):=by
 have e0:P.av=.agg [.list (P.progs.map Qm),.list (P.enums.map QC)]:=rfl;refine wF Tryz.func8 ?_;simp only[eK,Tryz.f8,seval];simp only[e0,eE,seval];refine Qi (FdI P s) _ ⟨_,_,0,rfl,rfl,rfl,xx,xx,xx,xx⟩ ?_;rintro _ st ⟨f,fr,i,rfl,rfl,hx,h1,h2,h6,m2⟩;simp only[Qmj,h2,h6,m2,eE,seval];by_cases hlt:i<P.progs.length
 ·obtain⟨x,hi⟩:∃x,P.progs[i]? = some x:=⟨P.progs[i],Qln hlt⟩;have hg:(P.progs.map Qm)[i]? = some (.agg x.cells):=by simp[hi,Qm]
  have e1:=Qr i _ hlt hl;simp only[PG.cells]at hg;rw[FN _ hi]at hx;simp only[QB hlt,Qp,QmS,Qf,hg,h1,h2,h6,m2,QS,eE,seval];cases hp:(x.name==s)
  ·rw[hp]at hx;simp only[QlH,if_false]at hx;simp only[h6,e1,Qa,seval];exact⟨P.progs.length-(i+1),xw,_,_,i+1,rfl,rfl,hx,xL,v9,xx,m2⟩
  ·rw[hp]at hx;simp only[if_true]at hx;have d1:¬((i:Int)<0):=xw
   have d2:decide ((i:Int)≥0)=true:=Qnr xw;simp only[Fx,hx,Qlu d1,d2,h6,Qa,seval]
 ·have hx':Za (fun g:PG=>g.name==s) P.progs 0 = -1:=wl
  have d1:((-1:Int)<0):=xw
  have d2:decide ((-1:Int)≥0)=false:=Qnl xw;simp only[QI hlt,Fx,hx',Qa,seval]

def YI (E:List PE)(t:Int)(b:Nat):Bool :=
 if 0≤t∧t<E.length∧b≤2147483647 then
  match E[t.toNat]? with
  |some x=>x.opn||x.items.any (A2 b)
  |none=>false
 else false

theorem IV {M:Nat}(P:PL)(hP:P.ok M)(t:Int)(b:Nat):Qh Tryz.prog 148 [P.av,.int .i64 t,.int .u64 (b:Nat)] (.bool (YI P.enums t b)):=by
 have e0:P.av=.agg [.list (P.progs.map Qm),.list (P.enums.map QC)]:=rfl;refine wF Tryz.func148 ?_;simp only[eK,Tryz.f148,seval];simp only[e0,eE,seval];by_cases h1:0≤t
 ·have d1:decide (t<0)=false:=Qnl xw;by_cases h2:t<P.enums.length
  ·have d2:decide (t≥(P.enums.length:Int))=false:=Qnl xw;by_cases h3:b≤2147483647
   ·have d3:decide ((b:Int) > 2147483647)=false:=Qnl xw;obtain⟨n,rfl⟩:=Qnb h1;have hn:n<P.enums.length:=xw
    obtain⟨x,hi⟩:∃x,P.enums[n]? = some x:=⟨P.enums[n],Qln hn⟩;have hx:=hP.enums x (QlC hi);have hg:(P.enums.map QC)[n]? = some (.agg x.cells):=by simp[hi,QC]
    simp only[PE.cells]at hg;have ha:YI P.enums (n:Int) b=(x.opn||x.items.any (A2 b)):=by
     unfold YI;rw[Qlv ⟨h1,h2,h3⟩,QmS,hi]
    simp only[d1,d2,Qmj,d3,Qp,QmS,Qf,hg,ha,eE,seval];cases ho:x.opn
    ·simp only[Qnd,eE,seval];refine Qj (Qip x.items hx.len1 (A2 b) 243 (.ptr 0 5 0) _ fun y _=>Qiq y b _ xx) xB ?_;simp only[Qa,seval]
    ·exact yP
   ·have d3:decide ((b:Int) > 2147483647)=true:=Qnr xw;have ha:YI P.enums t b=false:=by
     unfold YI;rw[Qlu xw]
    simp only[d1,d2,Qmj,d3,ha,eE,seval]
  ·have d2:decide (t≥(P.enums.length:Int))=true:=Qnr xw;have ha:YI P.enums t b=false:=by
    unfold YI;rw[Qlu xw]
   simp only[d1,d2,Qmj,ha,eE,seval]
 ·have d1:decide (t<0)=true:=Qnr xw;have ha:YI P.enums t b=false:=by
   unfold YI;rw[Qlu xw]
  simp only[d1,ha,Qa,seval]

def Dh (P:PL)(k tg kd:Int)(b:Nat)(t:List UInt8)(l p s r:List AV):Int :=
 if (kd != k||oth kd b t l p s r)=true then 12 else if decide ((t.length:Int) > 4096)=true then 3 else if (k==7 && !GE t)=true then 7
 else if (!X8 k kd b t l p s r)=true then 12 else if (k==9 && !YI P.enums tg b)=true then 16 else 0

section
variable {M:Nat}(P:PL)(hP:P.ok M)(k tg kd:Int)(b:Nat)(t:List UInt8)(l p s r:List AV)(hl:l.length≤140737488351232)(hp:p.length≤140737488351232)(hs:s.length≤140737488351232)(hr:r.length≤140737488351232)

include hP hl hp hs hr in
theorem Qir:Qh Tryz.prog 302 [P.av,.int .i64 k,.int .i64 tg,vo kd b t l p s r] (.int .i64 (Dh P k tg kd b t l p s r)):=by
 have e0:P.av=.agg [.list (P.progs.map Qm),.list (P.enums.map QC)]:=rfl;have ho:=z89 kd b t l p s r hs hr;have hf:=IS k kd b t l p s r hl hp hs hr;have ha:=IV P hP tg b;simp only[vo]at ho hf;simp only[e0]at ha;refine wF Tryz.func302 ?_;simp only[eK,Tryz.f302,seval];simp only[e0,vo,Dh,eE,seval];cases a1:(kd != k)
 ·simp only[Qnd,eE,seval];refine aC ho ?_;cases oth kd b t l p s r
  ·simp only[QlH,eE,seval];cases a2:decide ((t.length:Int) > 4096)
   ·simp only[QlH,Qa,seval];have fin:∀c:Bool,True:=fun _=>trivial
    cases a3:(k==7)
    ·simp only[QmW,QlH,eE,seval];refine aC hf ?_;cases X8 k kd b t l p s r
     ·exact za
     ·simp only[Qm9,QlH,Qa,seval];cases a4:(k==9)
      ·simp only[QmW,QlH,Qa,seval]
      ·simp only[Qm8,eE,seval];refine aC ha ?_;cases YI P.enums tg b<;>simp only[Qmx,Qm9,QlH,Qa,seval]
    ·simp only[Qm8,eE,seval];refine aC (S2 t) ?_;cases GE t
     ·exact za
     ·have a4:(k==9)=false:=by
       rw[Qls]at a3;subst a3;rfl
      simp only[Qm9,QlH,eE,seval];refine aC hf ?_;cases X8 k kd b t l p s r
      ·exact za
      ·simp only[Qm9,a4,QmW,QlH,Qa,seval]
   ·simp only[Qa,seval]
  ·simp only[Qa,seval]
 ·exact yP

end

def JoI (g:PG)(k:Nat)(st:St):Prop :=
 ∃f fr i n b,st=⟨f,[fr],[]⟩∧k=g.ops.length-i∧KB g.ops 0 (-1)=KB (g.ops.drop i) n b∧0≤n∧n≤(i:Int)∧((i=0∧b = -1)∨∃j o,i=j+1∧g.ops[j]? = some o∧b=o.union)∧f 1=.ptr 0 1 0∧f 3=.int .i64 n∧f 4=.int .i64 (i:Nat)∧fr 1=.cells g.cells

theorem z74 (g:PG)(hl:g.ops.length≤9223372036854775000):Qh Tryz.prog 74 [Qm g] (.bool (Kx g)):=by
 refine wF Tryz.func74 ?_;simp only[eK,Tryz.f74,seval];simp only[Qm,PG.cells,eE,seval];refine Qi (JoI g) _ ⟨_,_,0,0,-1,rfl,rfl,rfl,xy,xy,.inl ⟨rfl,rfl⟩,xx,xx,xx,xx⟩ ?_;rintro _ st ⟨f,fr,i,n,b,rfl,rfl,hj,hn0,hni,hb,h1,h3,h4,m1⟩;simp only[PG.cells]at m1;simp only[Qmj,h1,h4,m1,eE,seval];by_cases hlt:i<g.ops.length
 ·obtain⟨o,hi⟩:∃o,g.ops[i]? = some o:=⟨g.ops[i],Qln hlt⟩;have hg:(g.ops.map fun o=>AV.agg o.cells)[i]? = some (.agg o.cells):=wE
  have e1:=Qr i _ hlt xC;have en:IntKind.i64.wrap (n+1)=n+1:=xE
  rw[BZ hi]at hj;have fin:∀(f':Fr) (n':Int),(if o.union=n then n'=n+1 else n'=n)→KB g.ops 0 (-1)=KB (g.ops.drop (i+1)) n' o.union→f' 1=.ptr 0 1 0→f' 3=.int .i64 n'→f' 4=.int .i64 ((i+1:Nat):Int)→∃k,k<g.ops.length-i∧JoI g k ⟨f',[fr],[]⟩:=by
   intro f' n' a c d e f4;refine⟨g.ops.length-(i+1),xw,f',fr,i+1,n',o.union,rfl,rfl,c,?_,?_,.inr ⟨i,o,rfl,hi,rfl⟩,d,e,f4,m1⟩<;>split at a<;>omega
  simp only[PO.cells]at hg;simp only[QB hlt,Qp,QmS,Qf,hg,PO.cells,h1,h3,h4,m1,eE,seval];by_cases a1:o.union=n
  ·have b1:(o.union==n)=true:=by simp[a1]
   rw[Qlv a1,←a1]at hj;simp only[b1,h3,h4,en,e1,Qa,seval];exact fin _ (n+1) (by rw[Qlv a1]) (by rw[hj,a1]) xL xx xx
  have b1:(o.union==n)=false:=by simp[a1]
  rw[Qlu a1]at hj;by_cases a2:o.union = -1
  ·have b2:(o.union != -1)=false:=by simp[a2]
   rw[Qlv (.inl a2)]at hj;simp only[b1,b2,h4,e1,Qa,seval];exact xn
  have b2:(o.union != -1)=true:=by simp[a2]
  rcases hb with⟨rfl,rfl⟩|⟨j,p,rfl,hjp,rfl⟩
  ·have b3:(((0:Nat):Int)==0)=true:=rfl;rw[Qlu xw]at hj;have hun:Kx g=false:=by unfold Kx;rw[hj]
   simp only[b1,b2,h4,hun,Qa,seval]
  ·have b3:(((j+1:Nat):Int)==0)=false:=qg
   have hgj:(g.ops.map fun o=>AV.agg o.cells)[j]? = some (.agg p.cells):=by simp[hjp]
   have e2:=G8 j _ hlt xC;simp only[PO.cells]at hgj;by_cases a4:o.union=p.union
   ·have b4:(p.union != o.union)=false:=by simp[a4]
    rw[Qlv (.inr a4)]at hj;simp only[b1,b2,b3,b4,e2,Qp,QmS,Qf,hgj,PO.cells,h1,h4,m1,e1,eE,seval];exact xn
   ·have b4:(p.union != o.union)=true:=by simp;exact fun h=>a4 h.symm
    rw[Qlu xw]at hj;have hun:Kx g=false:=by unfold Kx;rw[hj]
    simp only[b1,b2,b3,b4,e2,Qp,QmS,Qf,hgj,PO.cells,h1,h4,m1,hun,eE,seval]
 ·rw[Ql1 xw]at hj;have hun:Kx g=(g.unions==n):=by unfold Kx;rw[hj];rfl
  simp only[QI hlt,h1,h3,m1,hun,eE,seval]

theorem z38 {M:Nat}(hM:M≤140737488351232)(P:PL)(hP:P.ok M)(hl:∀g∈P.progs,g.ops.length≤64):Qh Tryz.prog 38 [P.av] (.bool (args P)):=by
 have e:args P=(P.enums.all W4&&P.progs.all (W3 P)):=Bool.and_comm _ _;have z0:(0≤(0:Int))=True:=xA
 have z1:Int.toNat 0=0:=rfl;obtain⟨T,hT⟩:∃T,T=true:=⟨_,rfl⟩;refine wF Tryz.func38 ?_;simp only[eK,Tryz.f38,seval];simp only[Dd,eE,seval];refine Xt P.enums.length 0 (Xg P.enums W4) T 4 [(1,.ptr 0 1 0)] [(1,.cells (Pc P))] [] jB ?_ (by rw[hT];rfl);rintro k f fr hk;simp only[Pc,Qmj,XL,Qmq,eE,seval];rcases XS P.enums k with⟨x,hx,hlt⟩|hlt
 ·have hg:=Xe QC hx;have e1:=Qr k _ hlt hP.len2;have hxo:=hP.enums x (QlC hx);have hie:((x.notes.length:Int)==0)=x.notes.isEmpty:=by
   cases x.notes with
   |nil=>rfl
   |cons a l=>simp;omega
  rw[G5]at hg;cases hb:T&&Qt (Xg P.enums W4) k
  case' false=>simp only[QB hlt,cond_true,cond_false,Qa,seval]
  case' true=>simp only[QB hlt,Qp,QmS,Qf,hg,Qmj,hie,cond_true,cond_false,eE,seval]
  all_goals
   refine Xt x.items.length 0 (Xg x.items Yg) ((T&&Qt (Xg P.enums W4) k)&&x.notes.isEmpty) 5 [(1,.ptr 0 1 0),(4,.int .i64 (k:Nat))] [(1,.cells (Pc P))] [] jB ?_ q8;rintro j f fr hj;simp only[Pc,Qp,QmS,Qf,hg,Qmj,XL,Qmq,eE,seval];rcases XS x.items j with⟨o,ho,hlj⟩|hlj
   ·have hgo:=Xe XD ho;have e2:=Qr j _ hlj hxo.len1;have hoo:=hxo.items o (QlC ho);rw[NZ]at hgo;simp only[QB hlj,Qp,QmS,Qf,hg,hgo,eE,seval];cases hc:((T&&Qt (Xg P.enums W4) k)&&x.notes.isEmpty)&&Qt (Xg x.items Yg) j
    ·simp only[e2,cond_true,cond_false,Qa,seval];exact zp
    have fin:∀v,Yg o=v→((((T&&Qt (Xg P.enums W4) k)&&x.notes.isEmpty)&&Qt (Xg x.items Yg) j)&&Xg x.items Yg j)=v:=fun v h=>by rw[hc,XM ho];exact h
    rcases hn:o.notes with _|⟨n,_|⟨n2,ns⟩⟩
    ·have c0:(((0:Nat):Int)==0)=true:=rfl;simp only[Qmq,Qmk,e2,cond_true,cond_false,Qa,seval];exact Ac.go hj hlj rfl (fin _ (by unfold Yg;rw[hn]))
    ·obtain⟨kd,b',t,l,p,s,r,hv,htl,h3',h4',h5',h6'⟩:=Qaa (hoo.notes n (by rw[hn];simp)) hM;have c0:(((1:Nat):Int)==0)=false:=rfl;have c1:(((1:Nat):Int)==1)=true:=rfl;have e3:Yg o=(n.name==alias&&X8 7 kd b' t l p s r):=by
      unfold Yg;rw[hn];show(n.name==alias&&nok n.val)=_;rw[hv];rfl
     have en:Zg n.cells=.agg [.str n.name,.int .i64 kd,.int .u64 ((b':Nat):Int),.str t,.list l,.list p,.list s,.list r]:=by
      rw[PN.cells,hv];rfl
     have hne:(n.name==[97,108,105,97,115])=(n.name==alias):=rfl;have hck:=z73 kd b' t l p s r xC;simp only[nv]at hck;simp only[QlW,Qmq,en,QlD,Qmk,QlN,Qf,z0,z1,Qmr,QS,hne,cond_true,cond_false,eE,seval];by_cases hal:n.name=alias
     ·have b0:(n.name==alias)=true:=by simp[hal]
      rw[←hal]at hck;rw[b0,Qm8]at e3;simp only[b0,cond_true,cond_false,Qa,seval];refine aC hck ?_;cases hfv:X8 7 kd b' t l p s r
      ·have d0:((12:Int)==0)=false:=rfl;simp only[QlH,d0,e2,Qa,seval];exact Ac.go hj hlj rfl (fin _ (e3.trans hfv))
      ·have d0:((0:Int)==0)=true:=rfl;simp only[d0,e2,Qa,seval];exact Ac.go hj hlj rfl (fin _ (e3.trans hfv))
     ·have b0:(n.name==alias)=false:=by simp[hal]
      simp only[b0,e2,cond_true,cond_false,Qa,seval];exact Ac.go hj hlj rfl (fin _ (by rw[e3,b0];rfl))
    ·have c0:((((ns.length+1+1:Nat)):Int)==0)=false:=qg
     have c1:((((ns.length+1+1:Nat)):Int)==1)=false:=qg
     simp only[QlW,QlD,Qmj,c0,c1,e2,cond_true,cond_false,Qa,seval];exact Ac.go hj hlj rfl (fin _ (by unfold Yg;rw[hn]))
   exact oY
 simp only[QI hlt,ZG hk hlt,hT,Qm8,Qa,seval];refine Xt P.progs.length 0 (Xg P.progs (W3 P)) (P.enums.all W4) 7 [(1,.ptr 0 1 0)] [(1,.cells (Pc P))] [] jB ?_;rintro k f fr hk;simp only[Pc,Qmj,XL,Qmq,eE,seval];rcases XS P.progs k with⟨x,hx,hlt⟩|hlt
 ·have hg:=Xe Qm hx;have e1:=Qr k _ hlt hP.len1;have hxo:=hP.progs x (QlC hx);have hjo:=z74 x (Qll (hl x (QlC hx)) xy);rw[G6]at hg hjo;cases hb:P.enums.all W4&&Qt (Xg P.progs (W3 P)) k
  case' false=>simp only[QB hlt,cond_true,cond_false,Qa,seval]
  case' true=>
   simp only[QB hlt,Qp,QmS,Qf,hg,cond_true,cond_false,eE,seval];refine aC hjo ?_;simp only[cond_true,cond_false,Qa,seval]
  all_goals
   refine Xt x.ops.length 0 (Xg x.ops fun o=>Wh P o&&J8 o) ((P.enums.all W4&&Qt (Xg P.progs (W3 P)) k)&&Kx x) 8 [(1,.ptr 0 1 0),(7,.int .i64 (k:Nat))] [(1,.cells (Pc P))] [] jB ?_ q8;rintro j f fr hj;simp only[Pc,Qp,QmS,Qf,hg,Qmj,XL,Qmq,eE,seval];rcases XS x.ops j with⟨o,ho,hlj⟩|hlj
   ·have hgo:=Xe Qu ho;have e2:=Qr j _ hlj hxo.len;have hop:=z75 P o (by have:=(hxo.ops o (QlC ho)).alias;simp only[maxLen];omega);rw[G7]at hgo;rw[Dd,G7]at hop;cases hc:((P.enums.all W4&&Qt (Xg P.progs (W3 P)) k)&&Kx x)&&Qt (Xg x.ops fun o=>Wh P o&&J8 o) j
    ·exact ze
    ·simp only[QB hlj,Qp,QmS,Qf,hg,hgo,cond_true,cond_false,eE,seval];refine aC hop ?_;simp only[e2,cond_true,cond_false,Qa,seval];exact Ac.go hj hlj rfl (by rw[hc,XM ho];rfl)
   exact oY
 simp only[QI hlt,ZG hk hlt,e,Qa,seval]

def B0 (x:PE)(i:Nat):Bool:=match x.items[i]? with
 |some o=>(i != 0||o.num==0)&&Ut x o
 |none=>true

theorem Qb0 (x:PE):Qt (B0 x) x.items.length=(H5 x&&x.items.all (Ut x)):=by
 rw[Qmi,QlM,Q3,QlB]
 constructor
 ·intro h;refine⟨?_,fun o ho=>?_⟩
  ·unfold H5;cases hi:x.items with
   |nil=>rfl
   |cons a l=>
    have:=h 0 (by rw[hi];simp);unfold B0 at this;rw[hi]at this;simp only[Qmr,QlM]at this
    simpa using this.1
  ·obtain⟨i,hi⟩:=QlA.1 ho;have:=h i (Qlm.1 hi).1;unfold B0 at this;rw[hi]at this;simp only[QlM]at this;exact this.2
 ·rintro⟨h1,h2⟩ i _;unfold B0;cases hg:x.items[i]? with
  |none=>rfl
  |some o=>
   simp only[QlM];refine⟨?_,h2 o (QlC hg)⟩;cases i with
   |zero=>
    unfold H5 at h1;cases hx:x.items with
    |nil=>rw[hx]at hg;cases hg
    |cons a l=>
     rw[hx]at h1 hg;cases hg
     simpa using h1
   |succ k=>rfl

theorem z37 {M:Nat}(P:PL)(hP:P.ok M):Qh Tryz.prog 37 [P.av] (.bool (BW P)):=by
 have hn:BW P=(P.progs.all (fun g=>g.ops.all Kw)&&P.enums.all Uu):=rfl;obtain⟨T,hT⟩:∃T,T=true:=⟨_,rfl⟩;refine wF Tryz.func37 ?_;simp only[eK,Tryz.f37,seval];simp only[Dd,eE,seval];refine Xt P.progs.length 0 (Xg P.progs fun g=>g.ops.all Kw) T 4 [(1,.ptr 0 1 0)] [(1,.cells (Pc P)),(8,.none),(12,.none)] [] jB ?_ (by rw[hT];rfl);rintro k f fr hk;simp only[Pc,Qmj,XL,Qmq,eE,seval];rcases XS P.progs k with⟨x,hx,hlt⟩|hlt
 ·have hg:=Xe Qm hx;have e1:=Qr k _ hlt hP.len1;have hsl:=(hP.progs x (QlC hx)).len;rw[G6]at hg;simp only[QB hlt,Qa,seval];refine Xt x.ops.length 0 (Xg x.ops Kw) (T&&Qt (Xg P.progs fun g=>g.ops.all Kw) k) 5 [(1,.ptr 0 1 0),(4,.int .i64 (k:Nat))] [(1,.cells (Pc P)),(8,.none),(12,.none)] [] jB ?_;rintro j f fr hj;simp only[Pc,Qp,QmS,Qf,hg,Qmj,XL,Qmq,eE,seval];rcases XS x.ops j with⟨o,ho,hlj⟩|hlj
  ·have hgo:=Xe Qu ho;have e2:=Qr j _ hlj hsl;have hq:Kw o=(decide (o.num≥1)&&decide (o.num≤65535)):=rfl;rw[G7]at hgo;simp only[QB hlj,Qp,QmS,Qf,hg,hgo,eE,seval];cases hc:(T&&Qt (Xg P.progs fun g=>g.ops.all Kw) k)&&Qt (Xg x.ops Kw) j
   ·simp only[e2,cond_true,cond_false,Qa,seval];exact zp
   cases a1:decide (o.num≥1) <;>
   ·rw[a1]at hq;simp only[a1,e2,cond_true,cond_false,Qa,seval];exact Ac.go (v:=(Kw o)) hj hlj (by rw[hq];rfl) (by rw[hc,XM ho];rfl)
  simp only[QI hlj,ZG hj hlj,e1,Qa,seval];exact Ac.go hk hlt rfl (by rw[XM hx])
 simp only[QI hlt,ZG hk hlt,hT,Qm8,Qa,seval];refine Xt P.enums.length 0 (Xg P.enums Uu) (P.progs.all fun g=>g.ops.all Kw) 7 [(1,.ptr 0 1 0)] [(1,.cells (Pc P))] [12,8] jB ?_;rintro k f fr hk;simp only[Pc,Qmj,XL,QlW,Qmq,QlK,QlL,eE,seval];rcases XS P.enums k with⟨x,hx,hlt⟩|hlt
 ·have hg:=Xe QC hx;have e1:=Qr k _ hlt hP.len2;have hxo:=hP.enums x (QlC hx);obtain⟨A,hA⟩:∃A,((P.progs.all fun g=>g.ops.all Kw)&&Qt (Xg P.enums Uu) k)=A:=⟨_,rfl⟩;rw[G5]at hg;simp only[QB hlt,hA,Qp,QmS,Qf,hg,eE,seval];refine Xt x.items.length 0 (B0 x) A 9 [(1,.ptr 0 1 0),(7,.int .i64 (k:Nat)),(8,.ptr 0 8 0)] [(1,.cells (Pc P)),(8,.cells x.cells),(12,.none)] [] jB ?_;rintro j f fr hj;simp only[PE.cells,Qmj,XL,Qmq,eE,seval];rcases XS x.items j with⟨o,ho,hlj⟩|hlj
  ·have hgo:(x.items.map fun n=>AV.agg n.cells)[j]? = _:=Xe XD ho;have e2:=Qr j _ hlj hxo.len1;have hr:Qh Tryz.prog 72 [.list (x.free.map fun n=>AV.agg n.cells),.int .i64 o.num] (.bool (kept x.free o.num)):=z72 x.free hxo.len2 o.num;have hq:B0 x j=((j != 0||o.num==0)&&(decide (o.num≤2147483647) && !kept x.free o.num)):=by unfold B0;rw[ho];rfl
   rw[NZ]at hgo;simp only[QB hlj,Qp,QmS,Qf,hgo,eE,seval];cases hc:A&&Qt (B0 x) j
   ·simp only[e2,cond_true,cond_false,Qa,seval];exact zp
   cases a1:decide (o.num≤2147483647)
   ·simp only[a1,e2,cond_true,cond_false,Qa,seval];exact Ac.go hj hlj rfl (by rw[hc,hq,a1,QmW,Qna];rfl)
   rcases (show(decide ((j:Int) > 0)=true∧(j != 0||o.num==0)=true)∨(decide ((j:Int) > 0)=false∧(j != 0||o.num==0)=(o.num==0))by
    cases j with
    |zero=>exact .inr ⟨rfl,rfl⟩
    |succ k=>exact .inl ⟨Qnr xw,rfl⟩)with⟨g1,g2⟩|⟨g1,g2⟩
   case' inr=>cases a2:(o.num==0)
   case' inr.false=>
    simp only[a1,a2,g1,e2,cond_true,cond_false,Qa,seval];exact Ac.go hj hlj rfl (by rw[hc,hq,g2,a2];rfl)
   case' inl=>have a2:True:=trivial
   all_goals
    simp only[a1,a2,g1,cond_true,cond_false,eE,seval];refine aC hr ?_;simp only[e2,cond_true,cond_false,Qa,seval];exact Ac.go hj hlj rfl (by rw[hc,hq,a1,g2];simp[a2])
  have he:Qt (B0 x) j=(H5 x&&x.items.all (Ut x)):=(JV (fun i hi=>absurd hi (Qnz i)) hj hlj).trans (Qb0 x);simp only[QI hlj,he,Qa,seval];refine Xt x.free.length 0 (U0 x.free) (A&&(H5 x&&x.items.all (Ut x))) 11 [(1,.ptr 0 1 0),(7,.int .i64 (k:Nat)),(8,.ptr 0 8 0)] [(1,.cells (Pc P)),(8,.cells x.cells)] [12] jB ?_;rintro i f fr hi;simp only[PE.cells,Qmj,XL,QlW,Qmq,QlK,QlL,eE,seval];rcases XS x.free i with⟨y,hy,hli⟩|hli
  ·have hgy:(x.free.map fun n=>AV.agg n.cells)[i]? = some (.agg [.int .i64 y.lo,.int .i64 y.hi]):=Xe JH hy;have e2:=Qr i _ hli hxo.len2;have hq:U0 x.free i=(((decide (y.lo≥0)&&decide (y.hi≤2147483647))&&decide (y.lo≤y.hi))&&Zx x.free BU i):=by unfold U0;rw[XM hy];rfl
   simp only[QB hli,Qp,QmS,Qf,hgy,eE,seval];cases hc:(A&&(H5 x&&x.items.all (Ut x)))&&Qt (U0 x.free) i
   ·simp only[e2,cond_true,cond_false,Qa,seval];exact Ac.go hi hli rfl vh
   cases a1:decide (y.lo≥0)
   ·simp only[a1,e2,cond_true,cond_false,eE,seval];exact Ac.go hi hli rfl (by rw[hc,hq,a1];rfl)
   cases a2:decide (y.hi≤2147483647)
   ·simp only[a1,a2,e2,cond_true,cond_false,eE,seval];exact Ac.go hi hli rfl (by rw[hc,hq,a1,a2];rfl)
   cases a3:decide (y.lo≤y.hi)
   ·simp only[a1,a2,a3,e2,cond_true,cond_false,eE,seval];exact Ac.go hi hli rfl (by rw[hc,hq,a1,a2,a3];rfl)
   cases i with
   |zero=>
    have d0:(((0:Nat):Int)==0)=true:=rfl;simp only[a1,a2,a3,d0,e2,cond_true,cond_false,eE,Nat.reduceBEq,↓reduceIte,Nat.reduceAdd];exact Ac.go hi hli rfl (by rw[hc,hq,a1,a2,a3];rfl)
   |succ n=>
    obtain⟨z,hz⟩:∃z,x.free[n]? = some z:=⟨x.free[n]' xw,Qln xw⟩;have hgz:(x.free.map fun n=>AV.agg n.cells)[n]? = some (.agg [.int .i64 z.lo,.int .i64 z.hi]):=Xe JH hz;have d0:(((n+1:Nat):Int)==0)=false:=qg
    have wn:=G8 n _ hli hxo.len2;simp only[a1,a2,a3,d0,wn,Qp,QmS,Qf,hgz,e2,cond_true,cond_false,eE,seval];exact Ac.go hi hli rfl (by rw[hc,hq,a1,a2,a3,WW hz hy];rfl)
  have he2:Qt (U0 x.free) i=(x.free.all VF&&Jk x.free BU):=(JV (fun i hi=>absurd hi (Qnz i)) hi hli).trans (Ro _);simp only[QI hli,he2,e1,Qa,seval];exact Ac.go hk hlt rfl (by
   rw[hA,XM hx];unfold Uu;cases A<;>cases x.free.all VF<;>cases Jk x.free BU<;>cases H5 x<;>cases x.items.all (Ut x)<;>rfl)
 exact xl

section
variable (k kd:Int)(b:Nat)(t:List UInt8)(l p s r:List AV)(ht:t.length+8≤maxLen)

end

section
variable {M:Nat}(P:PL)(hP:P.ok M)(k tg kd:Int)(b:Nat)(t:List UInt8)(l p s r:List AV)(ht:t.length+8≤maxLen)(hs:s.length≤140737488351232)(hr:r.length≤140737488351232)

end
end Go.Proofs.YtmlohboeoeoamaaGreatDoor.Va

import Derived.Test.YtmlohboeoeoamaaGreatDoorRows
import Derived.Test.YtmlohboeoeoamaaGreatDoorProg
import Derived.Lib.IndexLaws
import Derived.Test.YtmlohboeoeoamaaGreatDoorMLensPasses1
set_option linter.defProp false
namespace Go.Proofs.YtmlohboeoeoamaaGreatDoor
open Go.Proofs.Tryz
namespace Br
open Go Am Go.RowKit Go.WideShapes Go.ChangeShapes Go.ChangeAt Go.Joins Go.Deep Go.WideElems Go.Maps
def Zs:List AV->AV
 | [x]=>x
 |l=>.agg l
def Nx (P:Program):Nat->List Field->Nat->Bool
 |o,[],n=>Nat.beq o n
 |o,f :: fs,n=>Nat.beq f.offset o&&Nx P (o+P.cellsOf f.type) fs n
def IB (P:Program)(ts:List TypeId)(t:TypeId):Bool :=
 match P.underlying t with
 |some (.int _)|some .bool|some .string=>P.cellsOf t==1
 |some (.struct fs)=>Nx P 0 fs.toList (P.cellsOf t)&&fs.toList.all λf=>ts.contains f.type
 |some (.slice e)=>P.cellsOf t==1&&(decide (0<P.cellsOf e)&&decide (0<P.bytesOf e))&&ts.contains e
 |_=>false
def M4 (P:Program)(ts:List TypeId):Bool:=ts.all (IB P ts)
def XL (P:Program)(M:Nat):Nat->TypeId->List AV->Prop
 |0,_,_=>False
 |k+1,t,cs=>match P.underlying t with
  |some (.int ik)=>∃n,cs=[.int ik n]/\(Lit.int ik n).wf=true
  |some .bool=>∃b,cs=[.bool b]
  |some .string=>∃s,cs=[.str s]/\s.length<=M
  |some (.struct fs)=>HasL (XL P M k) fs.toList cs
  |some (.slice e)=>∃l:List (List AV),cs=[.list (l.map Zs)]/\(l.length<=maxLen/\(M=reachBytes->l.length*P.bytesOf e<=M))/\(∀c∈l,XL P M k e c)/\l.length<=M
  |_=>False
where
 HasL (h:TypeId->List AV->Prop):List Field->List AV->Prop
  | [],cs=>cs=[]
  |f :: fs,cs=>∃a b,cs=a++b/\h f.type a/\HasL h fs b
def FZ {l:List AV}(h:l.all AV.leaf=true):(Zs l).cells=l:=by
 match l,h with
 | [],_=>rfl
 | [x],h=>cases x<;>first|rfl|simp[AV.leaf]at h
 |_ :: _ :: _,_=>rfl
mutual
def wt:AV->Nat
 |.list l=>1+Ju l
 |.agg l=>Ju l
 |_=>1
def Ju:List AV->Nat
 | []=>0
 |x :: l=>wt x+Ju l
end
def VA (a b:List AV):Ju (a++b)=Ju a+Ju b:=by
 induction a with
 |nil=>simp[Ju]
 |cons x a ih=>simp only[Qnx,Ju,ih];omega
def Qay:∀l:List AV,wt (Zs l)=Ju l
 | []=>by simp[Zs,wt]
 | [x]=>by simp[Zs,Ju]
 |_ :: _ :: _=>by simp[Zs,wt]
def Dx {G:Gh}:∀ {ls:List (List AV)} {cs:List (List Value)},ls.length=cs.length->(∀i (h1:i<ls.length) (h2:i<cs.length),RepL G ls[i] cs[i])->RepL G ls.flatten cs.flatten
 | [],[],_,_=>.nil
 |l :: ls,c :: cs,hn,h=>by
  rw[List.flatten_cons,List.flatten_cons];exact RepL.append (h 0 ό ό) (Dx (by simpa using hn) λi h1 h2=>h (i+1) Ϭ ϭ)
 | [],_ :: _,hn,_=>by simp at hn
 |_ :: _,[],hn,_=>by simp at hn
section
variable {H:Type}{dH:TypeId×Value->H}{P:Program}{W:World}{M:Nat}
theorem Bl {d:DataW H}:∀ {l:List (DataW H)},d∈l->Rows.uptoBulk d<=Rows.uptoBulkAll l
 | [],h=>by cases h
 |x :: l,h=>by
  rw[Rows.uptoBulkAll];rcases Qoz.1 h with rfl|h
  ·omega
  ·have:=Bl h;omega
theorem Qaz (d:DataW H):1<=Rows.uptoBulk d:=by unfold Rows.uptoBulk;split<;>omega
theorem Ny {x:AV}(h:wt x=1)(d:DataW H):Ju [x]<=Rows.uptoBulk d:=by
 have:=Qaz d;rw[Ju,Ju,h];exact this
theorem QaA (a b:List (DataW H)):Rows.uptoBulkAll (a++b)=Rows.uptoBulkAll a+Rows.uptoBulkAll b:=by
 induction a with
 |nil=>simp[Rows.uptoBulkAll]
 |cons x a ih=>simp only[Qnx,Rows.uptoBulkAll,ih];omega
theorem M5 (F:Nat->List AV)(xs:List (DataW H))(h:∀i d,xs[i]? = some d->Ju (F i)<=Rows.uptoBulk d):∀n,n<=xs.length->Ju (((List.range n).map F).map Zs)<=Rows.uptoBulkAll (xs.take n)
 |0,_=>Qnk _
 |n+1,hn=>by
  have hx:xs[n]? = some xs[n]:=Qnb ψ;have:=M5 F xs h n ψ;have h1:=h n _ hx;rw[List.range_succ,Qo3,Qo3,VA,Qo4,hx,QaA];simp only[QnJ,Qod,Ju,Qay,Option.toList_some,Rows.uptoBulkAll];omega
def IC (P:Program)(M:Nat)(t:TypeId)(d:DataW H):Prop:=M=maxLen\/(M≠reachBytes/\Rows.uptoBulk d<=M)\/(d.weights P t).all (·<=M)=true
theorem Nz {t:TypeId}{d:DataW H}:∀ {ts:List TypeId} {ds:List (DataW H)} (i:Nat),(DataW.weightsEach P ts ds).all (·<=M)=true->ts[i]? = some t->ds[i]? = some d->(d.weights P t).all (·<=M)=true
 | [],_,_,_,h,_=>by simp at h
 |_ :: _,[],_,_,_,h=>by simp at h
 |t' :: ts,d' :: ds,0,h,h1,h2=>by
  rw[DataW.weightsEach,Qov,Qnz]at h;cases h1;cases h2;exact h.1
 |t' :: ts,d' :: ds,i+1,h,h1,h2=>by
  rw[DataW.weightsEach,Qov,Qnz]at h;exact Nz i h.2 Ϭ ϭ
theorem HO {e:TypeId}{d:DataW H}:∀ {ds:List (DataW H)},(DataW.weightsAll P e ds).all (·<=M)=true->d∈ds->(d.weights P e).all (·<=M)=true
 | [],_,h=>by cases h
 |d' :: ds,h,hd=>by
  rw[DataW.weightsAll,Qov,Qnz]at h;rcases Qoz.1 hd with rfl|hd
  ·exact h.1
  ·exact HO h.2 hd
def Opn (W:World)(hL:Di W)(h:List AV->Prop)(B n:Nat)(cs:List Value):Prop :=
 ∃avs,h avs/\RepL (Gh.world W hL) avs cs/\avs.length=n/\AV.rfL avs=true/\avs.all AV.leaf=true/\Ju avs<=B
theorem F0 (hL:Di W){h:TypeId->List AV->Prop}{cs:List Value}:∀(fs:List Field) (ds:List (DataW H)) (o:Nat),Nx P o fs cs.length=true->fs.length=ds.length->(∀(i:Nat) (f:Field) (d:DataW H),fs[i]? = some f->ds[i]? = some d->Opn W hL (h f.type) (Rows.uptoBulk d) (P.cellsOf f.type) ((cs.drop f.offset).take (P.cellsOf f.type)))->
  Opn W hL (XL.HasL h fs) (Rows.uptoBulkAll ds) (cs.length-o) (cs.drop o)
 | [],_,o,hc,_,_=>by
  have e:o=cs.length:=Qm6 hc;refine⟨[],rfl,?_,by simp[e],rfl,rfl,Qnk _⟩;rw[e,List.drop_length];exact .nil
 |_ :: _,[],_,_,hl,_=>by simp at hl
 |f :: fs,d :: ds,o,hc,hl,hf=>by
  simp only[Nx,Qnz]at hc;have eo:f.offset=o:=Qm6 hc.1;obtain⟨a,a1,a2,a3,a4,a5,a6⟩:=hf 0 f d rfl rfl;obtain⟨b,b1,b2,b3,b4,b5,b6⟩:=F0 hL fs ds _ hc.2 Ä λi g d hg hd=>hf (i+1) g d (by simpa using hg) (by simpa using hd)
  rw[eo]at a2;refine⟨a++b,⟨a,b,rfl,a1,b1⟩,?_,?_,by rw[Wl,a4,b4]<;>rfl,by rw[Qov,a5,b5]<;>rfl,by rw[VA,Rows.uptoBulkAll];omega⟩
  ·have:=RepL.append a2 b2
   rwa [<-QnG,Qou]at this
  ·have hlen:a.length=((cs.drop o).take (P.cellsOf f.type)).length:=(RepL.length a2).symm;rw[QnP,a3,b3];rw[a3,Qn8,QnS]at hlen;omega
theorem Hh (hL:Di W){ts:List TypeId}(hP:M4 P ts=true):∀(k:Nat) (t:TypeId) (cs:List Value) (d:DataW H) (pl:List MemPlace),ts.contains t=true->DataW.trod dH P W 0 (λ_=>true) true k t cs=some (d,pl)->IC P M t d->
  Opn W hL (XL P M k t) (Rows.uptoBulk d) (P.cellsOf t) cs
 |0,_,_,_,_,_,h,_=>by simp[DataW.trod]at h
 |k+1,t,cs,d,pl,ht,h,hb=>by
  have hp:=Qno.1 hP t ā;unfold IB at hp;split at hp
  ·rename_i ik hu;obtain⟨v,rfl,_,hw⟩:=DataW.trod_int hu h;refine⟨[.int ik v],?_,.cons (.int ik v) .nil,Ľ,rfl,rfl,Ny rfl _⟩;simp only[XL,hu];exact⟨v,rfl,hw⟩
  ·rename_i hu;obtain⟨b,rfl,_⟩:=DataW.trod_bool hu h;refine⟨[.bool b],?_,.cons (.bool b) .nil,Ľ,rfl,rfl,Ny rfl _⟩;simp only[XL,hu];exact⟨b,rfl⟩
  ·rename_i hu;obtain⟨⟨⟨s⟩⟩,rfl,e,hw⟩:=DataW.trod_string hu h;have hw:s.length<=M:=by
    cases e;rcases hb with rfl|hb|hb
    ·exact hw
    ·replace hb:=hb.2;rw[Rows.uptoBulk]at hb;exact Qm9 (Nat.le_succ _) hb
    ·rw[DataW.weights]at hb
     simpa using hb
   refine⟨[.str s],?_,.cons (.str s) .nil,Ľ,rfl,rfl,Ny rfl _⟩;simp only[XL,hu];exact⟨s,rfl,hw⟩
  ·rename_i fs hu;simp only[Qnz,Qno]at hp;obtain⟨xs,n',hk,e,hlen,iE,hx⟩:=DataW.trod_struct hu h;obtain rfl:k=n':=ψ
   have ui:∀(i:Nat) x (f:Field),xs[i]? = some x->fs[i]? = some f->IC P M f.type x.1:=λi x f hx hf=>by
    cases e;refine hb.imp id λhb=>hb.imp (λhb=>⟨hb.1,?_⟩) λhb=>?_
    ·replace hb:=hb.2;rw[Rows.uptoBulk]at hb;have:=Bl (l:=xs.map (·.1)) (Qox.2 ⟨x,Qnp hx,rfl⟩);omega
    ·rw[DataW.weights,hu]at hb;exact Nz i hb (by simp[hf]) õ
   have:=F0 hL (W:=W) (h:=XL P M k) (cs:=cs) fs.toList (xs.map (·.1)) 0 (by rw[hlen];exact hp.1) (by simp[iE]) (λi f d hi hd=>by
    have kK:fs[i]? = some f:=ę
    have hf:f∈fs.toList:=Qnp hi;obtain⟨x,iI,rfl⟩:∃x,xs[i]? = some x/\x.1=d:=by
     rw[QoA]at hd;obtain⟨x,h1,h2⟩:=Qnd.1 hd;exact⟨x,h1,h2⟩
    have h2:=hx i f kK;rw[iI]at h2;exact Hh hL hP k f.type _ _ _ (hp.2 f hf) h2 (ui i _ f iI kK))
   rw[QnT,Qoa,hlen]at this;obtain⟨avs,h1,h2,h3,h4,h5,h6⟩:=this;refine⟨avs,?_,h2,h3,h4,h5,by cases e;rw[Rows.uptoBulk];omega⟩;simp only[XL,hu];exact h1
  ·rename_i e hu;simp only[Qnz,Qnf,Qng]at hp;obtain⟨⟨h1,h0,o0⟩,oD⟩:=hp;rcases DataW.trod_slice hu h with⟨rfl,_⟩|⟨a,len,cap,elems,rest,n',hk,rfl,e0,_,hl,hm,yN,aJ,_⟩
   ·refine⟨[.list []],?_,.cons (.list (cs:=[]) (sz:=0) .nil ό rfl rfl ό rfl (Qnk _) (Qnk _)) .nil,ì,rfl,rfl,Ny rfl _⟩;simp only[XL,hu];exact⟨[],rfl,⟨Qnk _,λ_=>ό⟩,ό,Qnk _⟩
   ·obtain rfl:k=n':=ψ
    have ui:∀x∈elems,IC P M e x.1:=λx hx=>by
     cases e0;refine hb.imp id λhb=>hb.imp (λhb=>⟨hb.1,?_⟩) λhb=>?_
     ·replace hb:=hb.2;rw[Rows.uptoBulk]at hb;have:=Bl (l:=elems.map (·.1)) (Qox.2 ⟨x,hx,rfl⟩);omega
     ·rw[DataW.weights,hu,Qoo,Qov,Qnz,Qnz]at hb;exact HO hb.2.1 (Qox.2 ⟨x,hx,rfl⟩)
    have pD:len<=M:=by
     cases e0;rcases hb with rfl|hb|hb
     ·omega
     ·have key:∀l:List (DataW H),l.length<=Rows.uptoBulkAll l:=by
       intro l
       induction l with
       |nil=>simp
       |cons x l ih=>
        have:1<=Rows.uptoBulk x:=by unfold Rows.uptoBulk;split<;>omega
        rw[Rows.uptoBulkAll,Qnq];omega
      replace hb:=hb.2;rw[Rows.uptoBulk]at hb;have:=key (elems.map (·.1));rw[Qn6]at this;omega
     ·rw[DataW.weights,hu,Qoo,Qnz]at hb;have h5:=hb.1;simp only[Qnf,Qn6]at h5;have h6:elems.length*1<=(elems.length+rest.length)*P.bytesOf e:=Nat.mul_le_mul (Nat.le_add_right _ _) o0;omega
    have qp:M=reachBytes->len*P.bytesOf e<=M:=λhM=>by
     cases e0;rcases hb with rfl|hb|hb
     ·exact absurd hM (by unfold maxLen reachBytes;omega)
     ·exact absurd hM hb.1
     ·rw[DataW.weights,hu,Qoo,Qnz]at hb;have h5:=hb.1;simp only[Qnf,Qn6]at h5;have h6:elems.length*P.bytesOf e<=(elems.length+rest.length)*P.bytesOf e:=Nat.mul_le_mul (Nat.le_add_right _ _) (Qm8 _);have h7:len*P.bytesOf e=elems.length*P.bytesOf e:=by rw[show len=elems.length by omega]
      omega
    haveI:Inhabited ({c:List Value // c.length=P.cellsOf e}×List AV):=⟨(⟨List.replicate (P.cellsOf e) (.bool false),ό⟩,[])⟩
    obtain⟨F,hF⟩:=choose_lt (α:={c:List Value // c.length=P.cellsOf e}×List AV) (n:=len) (p:=λi x=>W.cells? 0 (a.add (i*P.cellsOf e)) (P.cellsOf e)=some x.1.1/\XL P M k e x.2/\RepL (Gh.world W hL) x.2 x.1.1/\x.2.length=P.cellsOf e/\AV.rfL x.2=true/\x.2.all AV.leaf=true/\∀d,elems[i]? = some d->Ju x.2<=Rows.uptoBulk d.1) (λi hi=>by
     have hb:=aJ i hi;rw[Qnb ψ]at hb;obtain⟨cK,c1,c2⟩:=Option.bind_eq_some_iff.1 hb;obtain⟨_,cW,_⟩:=World.cells?_some c1;obtain⟨avs,o1,o2,o3,o4,o5,o6⟩:=Hh hL hP k e cK _ _ oD c2 (ui _ (Qn3 _));exact⟨(⟨cK,cW⟩,avs),c1,o1,o2,o3,o4,o5,λd hd=>by
      rw[Qnb ψ]at hd;cases hd;exact o6⟩)
    have cellAt:∀i j,i<len->j<P.cellsOf e->W.cell? (a.add (i*P.cellsOf e+j))=(F i).1.1[j]?:=by
     intro i j hi hj;obtain⟨_,_,h3⟩:=World.cells?_some (hF i hi).1;rw[<-h3 j hj,add_add]
    have pT:0<len->a.spot=none:=by
     intro hc;have:=cellAt 0 0 hc h0;rw[Nat.zero_mul,show a.add (0+0)=a from rfl,Qnb (by rw[(F 0).1.2];exact h0)]at this;unfold World.cell? at this;split at this
     ·split at this
      ·cases this
      ·rename_i h;simpa using h
     ·cases this
    have gj:∀c∈(List.range len).map (λi=>(F i).2),∃i,i<len/\c=(F i).2:=by
     intro c hc;obtain⟨i,hi,rfl⟩:=Qox.1 hc;exact⟨i,QoM.1 hi,rfl⟩
    have jB:∀L:List (List AV),(∀c∈L,c.all AV.leaf=true)->QU (L.map Zs)=L.flatten:=by
     intro L
     induction L with
     |nil=>intro _;rfl
     |cons c L ih=>
      intro hh;show(Zs c).cells++QU (L.map Zs)=c++L.flatten;rw[FZ (hh c ό),ih λx hx=>hh x õ]
    have gN:∀L:List (List AV),(∀c∈L,AV.rfL c=true)->AV.rfL L.flatten=true:=by
     intro L
     induction L with
     |nil=>intro _;rfl
     |cons c L ih=>
      intro hh;rw[List.flatten_cons,Wl,hh c ό,ih λx hx=>hh x õ]<;>rfl
    have c_:∀L:List (List AV),(∀c∈L,c.all AV.leaf=true)->L.flatten.all AV.leaf=true:=by
     intro L
     induction L with
     |nil=>intro _;rfl
     |cons c L ih=>
      intro hh;rw[List.flatten_cons,Qov,hh c ό,ih λx hx=>hh x õ]<;>rfl
    have aQ:∀c∈(List.range len).map (λi=>(F i).2),c.all AV.leaf=true:=λc hc=>by
     obtain⟨i,hi,rfl⟩:=gj c hc;exact(hF i hi).2.2.2.2.2.1
    have dO:∀c∈(List.range len).map (λi=>(F i).2),AV.rfL c=true:=λc hc=>by
     obtain⟨i,hi,rfl⟩:=gj c hc;exact(hF i hi).2.2.2.2.1
    have ye:Ju [.list (((List.range len).map λi=>(F i).2).map Zs)]<=Rows.uptoBulk d:=by
     cases e0;have hw:=λn hn=>M5 (λi=>if i<len then(F i).2 else []) (elems.map (·.1)) (λi d hd=>by
      rw[QoA]at hd;obtain⟨x,h1,rfl⟩:=Qnd.1 hd;by_cases hi:i<len
      ·rw[Qnj hi];exact(hF i hi).2.2.2.2.2.2 x h1
      ·rw[Qni hi];exact Qnk _) n hn
     have h1:=hw len Ω;rw[QnL Ω]at h1;have h2:(List.range len).map (λi=>if i<len then(F i).2 else [])=(List.range len).map λi=>(F i).2:=by
      refine Qo5 λi hi=>?_
      rw[Qnj (QoM.1 hi)]
     rw[h2]at h1;rw[Ju,Ju,wt,Rows.uptoBulk];omega
    refine⟨[.list (((List.range len).map λi=>(F i).2).map Zs)],?_,.cons (.list (cs:=((List.range len).map λi=>(F i).1.1).flatten) (sz:=P.cellsOf e) ?_ ?_ ?_ ?_ ?_ ό hl ψ) .nil,ì,rfl,rfl,ye⟩
    ·simp only[XL,hu];refine⟨_,rfl,⟨Ϗ,λhM=>by simpa using qp hM⟩,?_,by simpa using pD⟩;intro c hc;obtain⟨i,hi,rfl⟩:=gj c hc;exact(hF i hi).2.1
    ·rw[jB _ aQ];refine Dx ό λi g1 g2=>?_
     simp only[Qn6,List.length_range]at g1;simp only[List.getElem_map,List.getElem_range];exact(hF i ψ).2.2.1
    ·intro x hx;obtain⟨c,hc,rfl⟩:=Qox.1 hx;rw[FZ (aQ c hc)];obtain⟨i,hi,rfl⟩:=gj c hc;exact(hF i hi).2.2.2.1
    ·rw[jB _ aQ];exact gN _ dO
    ·rw[jB _ aQ];exact c_ _ aQ
    ·intro j u hj;rw[<-List.flatMap_def,FY h0 (λi=>(F i).1.2)]at hj;by_cases hi:j / P.cellsOf e<len
     ·rw[List.getElem?_range hi]at hj;have hj:(F (j / P.cellsOf e)).1.1[j % P.cellsOf e]? = some u:=hj;have hk:=cellAt (j / P.cellsOf e) (j % P.cellsOf e) ψ (Nat.mod_lt _ h0);rw[hj,Nat.div_add_mod']at hk;have hs:=pT (Nat.lt_of_le_of_lt (Qnk _) hi);obtain⟨b,o,s⟩:=a;subst hs;refine⟨b,o,rfl,?_⟩;refine Fg ?_;show W.cell? ⟨b,o+j,none⟩=some u;rw[<-hk];unfold Addr.add;split
      ·rename_i h;rw[h];rfl
      ·rfl
     ·rw[QoB Ϗ]at hj;cases hj
  ·cases hp
theorem Gu {t:TypeId}{v:Value}{d:DataW H}{p:List MemPlace}(hl:laidOutB P=true)(hr:P.readableRec t=true)(ae:t<P.types.size)(h:DataW.Trod dH P W 0 (λ_=>true) true t v d p) :
  ∀(W':World) (sp:Nat->Bool),Below W.heap.size W W'->(∀q∈p,sp q.block=true)->DataW.Trod dH P W' 0 sp true t v d p:=by
 intro W' sp hb hs;obtain⟨n,hn⟩:=h;exact Trod_stays hl hr ae ⟨n,hn⟩ (λx hx=>hb.same (DataW.trod_lt n _ _ _ hn x hx)) hs
theorem F1 (hL:Di W){t:TypeId}{fs:Array Field}{ts:List TypeId}{r:Reach}{b0:Nat}{v:Value}{d:DataW H}{p:List MemPlace}(hP:M4 P ts=true)(ht:ts.contains t=true)(hs:P.underlying t=some (.struct fs))(hv:Value.okWide P W r b0 t v)
  (h:DataW.Trod dH P W 0 (λ_=>true) true t v d p) (hb:IC P M t d):∃k avs,XL P M k t avs/\Rep (Gh.world W hL) (.agg avs) v:=by
 obtain⟨⟨cs⟩,rfl,_⟩:=okWide_struct hs hv;obtain⟨n,hn⟩:=h;obtain⟨avs,h1,h2,_⟩:=Hh hL hP n t _ _ _ ht hn hb;exact⟨n,avs,h1,.agg h2⟩
theorem C1 (hL:Di W){t:TypeId}{fs:Array Field}{ts:List TypeId}{r:Reach}{b0:Nat}{v:Value}{d:DataW H}{p:List MemPlace}(hP:M4 P ts=true)(ht:ts.contains t=true)(hs:P.underlying t=some (.struct fs))(hv:Value.okWide P W r b0 t v)
  (h:DataW.Trod dH P W 0 (λ_=>true) true t v d p) (hb:IC P M t d):∃k avs,XL P M k t avs/\Rep (Gh.world W hL) (.agg avs) v/\Ju avs<=Rows.uptoBulk d:=by
 obtain⟨⟨cs⟩,rfl,_⟩:=okWide_struct hs hv;obtain⟨n,hn⟩:=h;obtain⟨avs,h1,h2,_,_,_,h6⟩:=Hh hL hP n t _ _ _ ht hn hb;exact⟨n,avs,h1,.agg h2,h6⟩
theorem JP {X:Type}{f:X->List AV}{ok:X->Prop}:∀ {l:List (List AV)},(∀c∈l,∃x,ok x/\c=f x)->∃xs:List X,l=xs.map f/\∀x∈xs,ok x
 | [],_=>⟨[],rfl,ό⟩
 |c :: l,h=>by
  obtain⟨x,hx,rfl⟩:=h c ό;obtain⟨xs,rfl,wA⟩:=JP (l:=l) λc hc=>h c Ļ
  exact⟨x :: xs,rfl,by simpa using ⟨hx,wA⟩⟩
end
end Br
namespace Br
open Go Am
section
variable {P:Program}{M k:Nat}{t:TypeId}{cs:List AV}
theorem Zu {ik:IntKind}(hu:P.underlying t=some (.int ik))(h:XL P M k t cs):∃n,cs=[.int ik n]/\(Lit.int ik n).wf=true:=by
 cases k with
 |zero=>cases h
 |succ k=>simpa only [XL,hu]using h
theorem QaB (hu:P.underlying t=some .bool)(h:XL P M k t cs):∃b,cs=[.bool b]:=by
 cases k with
 |zero=>cases h
 |succ k=>simpa only [XL,hu]using h
theorem Wo (hu:P.underlying t=some .string)(h:XL P M k t cs):∃s,cs=[.str s]/\s.length<=M:=by
 cases k with
 |zero=>cases h
 |succ k=>simpa only [XL,hu]using h
theorem K8 {e:TypeId}(hu:P.underlying t=some (.slice e))(h:XL P M k t cs):∃(k':Nat) (l:List (List AV)),cs=[.list (l.map Zs)]/\l.length<=maxLen/\∀c∈l,XL P M k' e c:=by
 cases k with
 |zero=>cases h
 |succ k=>
  simp only[XL,hu]at h;obtain⟨l,h1,h2,h3,_⟩:=h;exact⟨k,l,h1,h2.1,h3⟩
theorem Ul {e:TypeId}(hu:P.underlying t=some (.slice e))(h:XL P M k t cs):∃(k':Nat) (l:List (List AV)),cs=[.list (l.map Zs)]/\l.length<=M/\∀c∈l,XL P M k' e c:=by
 cases k with
 |zero=>cases h
 |succ k=>
  simp only[XL,hu]at h;obtain⟨l,h1,_,h3,h4⟩:=h;exact⟨k,l,h1,h4,h3⟩
theorem Jm {fs:Array Field}(hu:P.underlying t=some (.struct fs))(h:XL P M k t cs):∃k',XL.HasL (XL P M k') fs.toList cs:=by
 cases k with
 |zero=>cases h
 |succ k=>
  simp only[XL,hu]at h;exact⟨k,h⟩
end
structure PO where
 num:Int
 name:List UInt8
 alias:List UInt8
 card:Int
 key:Int
 kind:Int
 target:Int
 union:Int
def PO.cells (o:PO):List AV:=[.int .i64 o.num,.str o.name,.str o.alias,.int .i64 o.card,.int .i64 o.key,.int .i64 o.kind,.int .i64 o.target,.int .i64 o.union]
structure PO.ok (M:Nat)(o:PO):Prop where
 num:(Lit.int .i64 o.num).wf=true
 name:o.name.length<=M
 alias:o.alias.length<=M
 card:(Lit.int .i64 o.card).wf=true
 key:(Lit.int .i64 o.key).wf=true
 kind:(Lit.int .i64 o.kind).wf=true
 target:(Lit.int .i64 o.target).wf=true
 union:(Lit.int .i64 o.union).wf=true
def Qfu {M k:Nat}{cs:List AV}(h:XL prog M k 43 cs):∃o:PO,o.ok M/\cs=o.cells:=by
 obtain⟨k,h⟩:=Jm underlying43 h;simp only[XL.HasL]at h;obtain⟨_,_,rfl,h0,_,_,rfl,h1,_,_,rfl,h2,_,_,rfl,h3,_,_,rfl,h4,_,_,rfl,h5,_,_,rfl,h6,_,_,rfl,h7,rfl⟩:=h;obtain⟨a0,rfl,w0⟩:=Zu underlying3 h0;obtain⟨a1,rfl,w1⟩:=Wo underlying9 h1;obtain⟨a2,rfl,w2⟩:=Wo underlying9 h2;obtain⟨a3,rfl,w3⟩:=Zu underlying3 h3;obtain⟨a4,rfl,w4⟩:=Zu underlying3 h4;obtain⟨a5,rfl,w5⟩:=Zu underlying3 h5;obtain⟨a6,rfl,w6⟩:=Zu underlying3 h6;obtain⟨a7,rfl,w7⟩:=Zu underlying3 h7;exact⟨⟨a0,a1,a2,a3,a4,a5,a6,a7⟩,⟨w0,w1,w2,w3,w4,w5,w6,w7⟩,rfl⟩
structure PG where
 name:List UInt8
 ops:List PO
 unions:Int
def PG.cells (g:PG):List AV:=[.str g.name,.list (g.ops.map λo=>.agg o.cells),.int .i64 g.unions]
structure PG.ok (M:Nat)(g:PG):Prop where
 name:g.name.length<=M
 len:g.ops.length<=maxLen
 ops:∀o∈g.ops,o.ok M
 unions:(Lit.int .i64 g.unions).wf=true
def QaC {M k:Nat}{cs:List AV}(h:XL prog M k 48 cs):∃g:PG,g.ok M/\cs=g.cells:=by
 obtain⟨k,h⟩:=Jm underlying48 h;simp only[XL.HasL]at h;obtain⟨_,_,rfl,h0,_,_,rfl,h1,_,_,rfl,h2,rfl⟩:=h;obtain⟨a0,rfl,w0⟩:=Wo underlying9 h0;obtain⟨k',l,rfl,w1,hl⟩:=K8 underlying46 h1;obtain⟨a2,rfl,w2⟩:=Zu underlying3 h2;obtain⟨ops,rfl,bz⟩:=JP (f:=PO.cells) (ok:=PO.ok M) λc hc=>Qfu (hl c hc)
 refine⟨⟨a0,ops,a2⟩,⟨w0,by simpa using w1,bz,w2⟩,?_⟩;simp only[PG.cells,Qo6,Qnx,Qny];rfl
structure PS where
 lo:Int
 hi:Int
def PS.cells (x:PS):List AV:=[.int .i64 x.lo,.int .i64 x.hi]
def PS.ok (x:PS):Prop:=(Lit.int .i64 x.lo).wf=true/\(Lit.int .i64 x.hi).wf=true
def QaD {M k:Nat}{cs:List AV}(h:XL prog M k 115 cs):∃x:PS,x.ok/\cs=x.cells:=by
 obtain⟨k,h⟩:=Jm underlying115 h;simp only[XL.HasL]at h;obtain⟨_,_,rfl,h0,_,_,rfl,h1,rfl⟩:=h;obtain⟨a0,rfl,w0⟩:=Zu underlying3 h0;obtain⟨a1,rfl,w1⟩:=Zu underlying3 h1;exact⟨⟨a0,a1⟩,⟨w0,w1⟩,rfl⟩
structure PN where
 name:List UInt8
 val:List AV
def PN.cells (x:PN):List AV:=.str x.name :: x.val
def PN.ok (P:Program)(M:Nat)(t:TypeId)(x:PN):Prop:=x.name.length<=M/\∃k,XL P M k t x.val
def M6 {M k:Nat}{cs:List AV}(h:XL prog M k 117 cs):∃x:PN,x.ok prog M 32/\cs=x.cells:=by
 obtain⟨k,h⟩:=Jm underlying117 h;simp only[XL.HasL]at h;obtain⟨_,_,rfl,h0,a1,_,rfl,h1,rfl⟩:=h;obtain⟨a0,rfl,w0⟩:=Wo underlying9 h0;exact⟨⟨a0,a1⟩,⟨w0,k,h1⟩,by simp[PN.cells]⟩
structure PI where
 name:List UInt8
 num:Int
 notes:List PN
def PI.cells (x:PI):List AV:=[.str x.name,.int .i64 x.num,.list (x.notes.map λn=>Zs n.cells)]
structure PI.ok (M:Nat)(x:PI):Prop where
 name:x.name.length<=M
 num:(Lit.int .i64 x.num).wf=true
 len:x.notes.length<=maxLen
 notes:∀n∈x.notes,n.ok prog M 32
def QaE {M k:Nat}{cs:List AV}(h:XL prog M k 112 cs):∃x:PI,x.ok M/\cs=x.cells:=by
 obtain⟨k,h⟩:=Jm underlying112 h;simp only[XL.HasL]at h;obtain⟨_,_,rfl,h0,_,_,rfl,h1,_,_,rfl,h2,rfl⟩:=h;obtain⟨a0,rfl,w0⟩:=Wo underlying9 h0;obtain⟨a1,rfl,w1⟩:=Zu underlying3 h1;obtain⟨k',l,rfl,w2,hl⟩:=K8 underlying107 h2;obtain⟨ns,rfl,bz⟩:=JP (f:=PN.cells) (ok:=PN.ok prog M 32) λc hc=>M6 (hl c hc)
 refine⟨⟨a0,a1,ns⟩,⟨w0,w1,by simpa using w2,bz⟩,?_⟩;simp only[PI.cells,Qo6,Qnx,Qny];rfl
structure PE where
 name:List UInt8
 opn:Bool
 items:List PI
 free:List PS
 notes:List PN
def PE.cells (x:PE):List AV:=[.str x.name,.bool x.opn,.list (x.items.map λn=>.agg n.cells),.list (x.free.map λn=>.agg n.cells),.list (x.notes.map λn=>Zs n.cells)]
structure PE.ok (M:Nat)(x:PE):Prop where
 name:x.name.length<=M
 len1:x.items.length<=maxLen
 items:∀n∈x.items,n.ok M
 len2:x.free.length<=maxLen
 free:∀n∈x.free,n.ok
 len3:x.notes.length<=maxLen
 notes:∀n∈x.notes,n.ok prog M 32
def QaF {M k:Nat}{cs:List AV}(h:XL prog M k 109 cs):∃x:PE,x.ok M/\cs=x.cells:=by
 obtain⟨k,h⟩:=Jm underlying109 h;simp only[XL.HasL]at h;obtain⟨_,_,rfl,h0,_,_,rfl,h1,_,_,rfl,h2,_,_,rfl,h3,_,_,rfl,h4,rfl⟩:=h;obtain⟨a0,rfl,w0⟩:=Wo underlying9 h0;obtain⟨a1,rfl⟩:=QaB underlying4 h1;obtain⟨k2,l2,rfl,w2,dO⟩:=K8 underlying105 h2;obtain⟨k3,l3,rfl,w3,lC⟩:=K8 underlying106 h3;obtain⟨k4,l4,rfl,w4,rA⟩:=K8 underlying107 h4;obtain⟨x2,rfl,o2⟩:=JP (f:=PI.cells) (ok:=PI.ok M) λc hc=>QaE (dO c hc)
 obtain⟨x3,rfl,o3⟩:=JP (f:=PS.cells) (ok:=PS.ok) λc hc=>QaD (lC c hc)
 obtain⟨x4,rfl,o4⟩:=JP (f:=PN.cells) (ok:=PN.ok prog M 32) λc hc=>M6 (rA c hc)
 refine⟨⟨a0,a1,x2,x3,x4⟩,⟨w0,by simpa using w2,o2,by simpa using w3,o3,by simpa using w4,o4⟩,?_⟩;simp only[PE.cells,Qo6,Qnx,Qny];rfl
structure PL where
 progs:List PG
 enums:List PE
def PL.av (p:PL):AV:=.agg [.list (p.progs.map λn=>.agg n.cells),.list (p.enums.map λn=>.agg n.cells)]
structure PL.ok (M:Nat)(x:PL):Prop where
 len1:x.progs.length<=maxLen
 progs:∀n∈x.progs,n.ok M
 len2:x.enums.length<=maxLen
 enums:∀n∈x.enums,n.ok M
def M7 {M k:Nat}{cs:List AV}(h:XL prog M k 25 cs):∃x:PL,x.ok M/\.agg cs=x.av:=by
 obtain⟨k,h⟩:=Jm underlying25 h;simp only[XL.HasL]at h;obtain⟨_,_,rfl,h0,_,_,rfl,h1,rfl⟩:=h;obtain⟨k2,l2,rfl,w2,dO⟩:=K8 underlying22 h0;obtain⟨k3,l3,rfl,w3,lC⟩:=K8 underlying23 h1;obtain⟨x2,rfl,o2⟩:=JP (f:=PG.cells) (ok:=PG.ok M) λc hc=>QaC (dO c hc)
 obtain⟨x3,rfl,o3⟩:=JP (f:=PE.cells) (ok:=PE.ok M) λc hc=>QaF (lC c hc)
 refine⟨⟨x2,x3⟩,⟨by simpa using w2,o2,by simpa using w3,o3⟩,?_⟩;simp only[PL.av,Qo6,Qnx,Qny];rfl
end Br
namespace Am
open Go
variable {P:Program}{m:Qk}
def Ag {α:Type}(f:Nat->α)(L:List (Nat×α)):Prop:=L.map (λp=>f p.1)=L.map Prod.snd
theorem Ag.iff {α:Type}{f:Nat->α}{L:List (Nat×α)}:Ag f L↔∀q∈L,f q.1=q.2:=List.map_inj_left
def XW {α:Type}:List (Nat×α)->(Nat->α)->Nat->α
 | [],f=>f
 |p :: L,f=>QL (XW L f) p.1 p.2
theorem QaG {α:Type}{f:Nat->α}{d:Nat}{x:α}(h:f d=x):QL f d x=f:=by
 funext i;by_cases e:i=d
 ·rw[e,Q6,h]
 ·rw[Xe _ _ e]
theorem HP {α:Type}{f:Nat->α}:∀ {L:List (Nat×α)},Ag f L->XW L f=f
 | [],_=>rfl
 |q :: L,h=>by
  rw[Ag.iff]at h;rw[XW,HP (Ag.iff.2 λx hx=>h x (Qnr _ hx))];exact QaG (h q Qnt)
def Ix {X:Type}(L:X->List (Nat×AV))(O:X->List (Nat×Ob))(l:List Nat)(mu:X->Nat)(p:X->Prop)(mm:X->Qk)(n:Nat)(st:St):Prop :=
 ∃x f fr,st=⟨f,fr :: mm x,[]⟩/\n=mu x/\p x/\Ag f (L x)/\Ag fr (O x)/\(l.all λs=>!(fr s).isRow)=true
theorem Ix.go {X:Type}{L:X->List (Nat×AV)}{O:X->List (Nat×Ob)}{l:List Nat}{mu:X->Nat}{p:X->Prop}{mm:X->Qk}(x:X){n:Nat}{f:Fr}{fr:Nat->Ob}(hn:mu x<n)(hp:p x)(hf:Ag f (L x):=by exact rfl)(ho:Ag fr (O x):=by exact rfl)(hr:(l.all λs=>!(fr s).isRow)=true:=by exact rfl) :
  ∃k,k<n/\Ix L O l mu p mm k ⟨f,fr :: mm x,[]⟩:=⟨mu x,hn,x,f,fr,rfl,rfl,hp,hf,ho,hr⟩
theorem HQ {X:Type}{a:RC}{Q:Exit->St->Prop}{f:Fr}{fr:Nat->Ob}(L:X->List (Nat×AV))(O:X->List (Nat×Ob))(l:List Nat)(mu:X->Nat)(p:X->Prop)(mm:X->Qk)(x0:X)(hp:p x0)
  (h:∀x f fr,p x->Q1 P a ⟨XW (L x) f,XW (O x++l.map λs=>(s,.none)) fr :: mm x,[]⟩ (Kl (Ix L O l mu p mm) (mu x) Q))
  (hf:Ag f (L x0):=by exact rfl) (ho:Ag fr (O x0):=by exact rfl) (hr:(l.all λs=>!(fr s).isRow)=true:=by exact rfl) (hm:m=mm x0:=by exact rfl)
  (hs:∀x,(L x).map (λq=>Bj l q.2)=(L x).map Prod.snd:=by exactλ_=>rfl) (ht:∀x,(O x).map (λq=>(l.contains q.1,Fo l q.2))=(O x).map λq=>(false,q.2):=by exactλ_=>rfl):Q1 P (.loop (Fm l a)) ⟨f,fr :: m,[]⟩ Q:=by
 subst hm;refine Qj (Ix L O l mu p mm) (mu x0) ⟨x0,f,fr,rfl,rfl,hp,hf,ho,hr⟩ ?_;rintro _ _ ⟨x,f1,fr1,rfl,rfl,hp,hf,ho,hr⟩;refine QR l (λs hs=>by simpa using Qno.1 hr s hs) ?_;intro f2 kT h1 h2 h3;have e1:Ag f2 (L x):=Ag.iff.2 λq hq=>by
  rw[h1,Ag.iff.1 hf q hq];exact List.map_inj_left.1 (hs x) q hq
 have e2:Ag kT (O x++l.map λs=>(s,.none)):=Ag.iff.2 λq hq=>by
  rcases Qow.1 hq with hq|hq
  ·have:=List.map_inj_left.1 (ht x) q hq;simp only[QoI]at this;rw[h2 _ (λhi=>by rw[List.contains_iff_mem.2 hi]at this;cases this.1),Ag.iff.1 ho q hq];exact this.2
  ·obtain⟨s,hs,rfl⟩:=Qox.1 hq;exact h3 s hs
 have:=h x f2 kT hp;rw[HP e1,HP e2]at this;exact this
theorem X8 {α:Type}(l:List α)(i:Nat):(∃x,l[i]? = some x/\i<l.length)\/¬i<l.length:=by
 by_cases h:i<l.length
 ·exact .inl ⟨l[i],Qnb h,h⟩
 ·exact .inr h
end Am
set_option linter.unusedSimpArgs false
namespace Va
open Go Am Rc Bt Br
def Zn {α:Type}(p:α->Bool):List α->Nat->Int
 | [],_=>-1
 |x :: l,i=>if p x=true then(i:Int)else Zn p l (i+1)
def YH {α:Type}(p:α->Bool):∀(l:List α) (i:Nat),(Zn p l i = -1/\l.find? p=none)\/∃k o,Zn p l i=((i+k:Nat):Int)/\l[k]? = some o/\l.find? p=some o
 | [],_=>.inl ⟨rfl,rfl⟩
 |x :: l,i=>by
  unfold Zn;rw[Qo7];cases h:p x with
  |true=>exact .inr ⟨0,x,ό,rfl,rfl⟩
  |false=>
   simp only[Qnu,if_false];rcases YH p l (i+1)with h'|⟨k,o,h1,h2,h3⟩
   ·exact .inl h'
   ·exact .inr ⟨k+1,o,by rw[h1];congr 1;omega,ϭ,h3⟩
def Bm {α:Type}(p:α->Bool){l:List α}{i:Nat}{x:α}(hx:l[i]? = some x):Zn p (l.drop i) i=if p x=true then(i:Int)else Zn p (l.drop (i+1)) (i+1):=by
 have aa:i<l.length:=(Qna.1 hx).1;rw[QnU aa,show l[i]=x from(Qna.1 hx).2];rfl
def Qw (o:PO):AV:=.agg o.cells
def Qm (g:PG):AV:=.agg g.cells
def XQ (x:PI):AV:=.agg x.cells
def QH (x:PE):AV:=.agg x.cells
abbrev ixC (n:Nat)(s:Option Nat):RC:=.seq (.reg [⟨some 4,.val (.mov (.c (.int .i64 0))),none⟩]) (.seq (.seq (.reg [⟨some 6,.val (.mov (.t 0)),none⟩,⟨some 7,.val (.len 1 (.t 6)),none⟩,⟨some 8,.val (.mov (.c (.int .i64 0))),none⟩]) (.block 0 (.loop (.seq (.reg [⟨some 9,.val (.bin .num .lss (.t 8) (.t 7)),none⟩]) (.seq (.cond (.t 9) (.skip) (.exit 0)) (.seq (.block 1 (.seq (.reg [⟨some 10,.val (.mov (.t 8)),none⟩,⟨some 5,.val (.mov (.t 10)),none⟩]) (.seq (.reg [⟨some 11,.val (.mov (.t 1)),none⟩,⟨some 12,.val (.mov (.t 0)),none⟩,⟨some 13,.val (.mov (.t 5)),none⟩,⟨some 14,.val (.iaddr n none (.t 12) (.t 13)),none⟩,⟨some 15,.val (.load s (.t 14)),none⟩,⟨some 16,.callF (.t 11) [(.t 15)],none⟩]) (.cond (.t 16) (.seq (.reg [⟨some 17,.val (.mov (.t 5)),none⟩,⟨some 4,.val (.mov (.t 17)),none⟩]) (.ret)) (.skip))))) (.reg [⟨some 18,.val (.bin .num .add (.t 8) (.c (.int .i64 1))),none⟩,⟨some 8,.val (.mov (.t 18)),none⟩]))))))) (.seq (.reg [⟨some 4,.val (.mov (.c (.int .i64 (-1)))),none⟩]) (.ret)))
def Dy {X:Type}{L:List X}(hl:L.length<=maxLen){av:X->AV}{n:Nat}{s:Option Nat}(he:∀x,(av x).cells.length=n/\Am.part (av x).cells 0 s=some (av x)){p:X->Bool}{c:Nat}{cs:List AV}{m:Qk}(hc:∀o∈L,Qf prog c (av o :: AV.shL cs) (Qb :: m) λy m1=>y=.bool (p o)/\m1=Qb :: m) :
  Q1 prog (ixC n s) (St.enter [.list (L.map av),.fn (.func c) [] cs] m) (Jk [.tmp 4] m.length λy m1=>y=.int .i64 (Zn p L 0)/\m1=m):=by
 let I:Nat->St->Prop:=λj st=>∃f k,st=⟨f,Qb :: m,[]⟩/\j=L.length-k/\Zn p L 0=Zn p (L.drop k) k/\Ag f [(0,.list (L.map av)),(1,.fn (.func c) [] (AV.shL cs)),(7,.int .i64 (L.length:Nat)),(8,.int .i64 (k:Nat))]
 simp only[ixC,Qn6,Qa,seval];refine Qj I _ ⟨_,0,rfl,rfl,rfl,rfl⟩ ?_;rintro _ _ ⟨f,k,rfl,rfl,hz,hf⟩;rw[<-HP hf];simp only[XW,Qa,seval];rcases X8 L k with⟨x,hx,aa⟩|aa
 case inr=>
  rw[QnO (by omega)]at hz;simp only[QM aa,hz,Zn,Qa,seval]
 have hg:(L.map av)[k]? = some (av x):=by rw[QoA,hx];rfl
 have e1:=Qv k _ aa hl;have aM:=hc x (Qnp hx);rw[Bm p hx]at hz;simp only[QE aa,Qs,QoF,Qg,hg,he,eE,seval];refine Np (fa:=[]) (fb:=AV.shL cs) rfl aM rfl ?_;cases hp:p x
 ·rw[hp]at hz;simp only[e1,Qa,seval];exact⟨_,by omega,_,k+1,rfl,rfl,by simpa using hz,rfl⟩
 ·rw[hp]at hz;simp only[if_true]at hz;simp only[hz,Qa,seval]
section ops
variable (L:List PO)(hl:L.length<=maxLen)(p:PO->Bool)(c:Nat)(cap:AV)(m:Qk)
include hl in
theorem QiD (hc:∀o∈L,Qf prog c [Qw o,cap.sh] (Qb :: m) λy m1=>y=.bool (p o)/\m1=Qb :: m) :
  Qf prog 151 [.list (L.map Qw),.fn (.func c) [] [cap]] m λy m1=>y=.int .i64 (Zn p L 0)/\m1=m:=by
 refine wG func151 ?_;simp only[eK,f151,seval];exact Dy hl (av:=Qw) (n:=8) (s:=some 8) (cs:=[cap]) (λ_=>⟨rfl,rfl⟩) hc
end ops
def HR:PO:=⟨0,[],[],0,0,0,0,0⟩
def NA (p:PO->Bool)(L:List PO):AV:=.tup [Qw ((L.find? p).getD HR),.bool (L.find? p).isSome]
def y99 (g:PG)(hl:g.ops.length<=maxLen)(p:PO->Bool)(c:Nat)(cap:AV)(m:Qk)(hc:∀fr,∀o∈g.ops,Qf prog c [Qw o,cap.sh.sh] (Qb :: fr :: m) λy m1=>y=.bool (p o)/\m1=Qb :: fr :: m) :
  Qf prog 99 [.agg [.fn (.func c) [] [cap]],Qm g] m λy m1=>y=NA p g.ops/\m1=m:=by
 refine wG func99 ?_;simp only[eK,f99,seval];simp only[Qm,PG.cells,eE,seval];refine Qh (QiD g.ops hl p c cap.sh _ λo ho=>hc _ o ho) (by simp only[QnJ,Qod,Qa,seval];rfl) ?_;rcases YH p g.ops 0 with⟨h1,h2⟩|⟨j,o,h1,h2,h3⟩
 ·simp only[h1,NA,h2,QoS,Qn1,HR,Qw,PO.cells,splice,Qol,Qny,QnN,QnT,Qor,Qof,Qnq,Qn7,Qoo,Qop,AV.leaf,eE,seval]
 ·have hj:(g.ops.map λo=>AV.agg o.cells)[j]? = some (.agg o.cells):=by simp[h2]
  have d:decide ((j:Int)<0)=false:=Qo8 (by omega);rw[QnA]at h1;simp only[PO.cells]at hj;simp only[h1,d,Qs,QoF,Qg,QnA,hj,NA,h3,Qon,Qo9,Qw,PO.cells,splice,Qol,Qny,QnN,QnT,Qor,Qof,Qnq,Qn7,Qoo,Qop,AV.leaf,eE,seval]
section
variable (o:PO)(fr eZ:Nat->Ob)
theorem y98 (n:Int)(hf:eZ 3=.cells [.int .i64 n]):Qf prog 98 [Qw o,.ptr 2 3 0] [Qb,fr,eZ] λy m1=>y=.bool (o.num==n)/\m1=[Qb,fr,eZ]:=by
 refine wG func98 ?_;simp only[eK,f98,seval];simp only[hf,Qw,PO.cells,eE,seval]
end
def ID (g:PG)(hl:g.ops.length<=maxLen)(n:Int):Qi prog 53 [Qm g,.int .i64 n] (NA (λo=>o.num==n) g.ops):=by
 refine wF func53 ?_;simp only[eK,f53,seval];simp only[Qm,PG.cells,eE,seval];refine Qh (y99 g hl (λo=>o.num==n) 98 (.ptr 0 3 0) _ λfr o _=>y98 o fr _ n (by rfl)) (by simp only[QnJ,Qod,Qm,PG.cells,Qa,seval]) ?_;simp only[NA,Qw,PO.cells,splice,Qol,Qny,QnN,QnT,Qor,Qof,Qnq,Qn7,Qoo,Qop,AV.leaf,eE,seval]
def Qu (p:Nat->Bool):Nat->Bool
 |0=>true
 |n+1=>Qu p n&&p n
def Q7 {p:Nat->Bool}{n:Nat}:Qu p n=true↔∀i,i<n->p i=true:=by
 induction n with
 |zero=>simp[Qu]
 |succ n ih=>
  simp only[Qu,Qnz,ih]
  constructor
  ·rintro⟨h1,h2⟩ i hi;rcases Nat.lt_succ_iff_lt_or_eq.1 hi with h|rfl
   ·exact h1 i h
   ·exact h2
  ·intro h;exact⟨λi hi=>h i ψ,h n ψ⟩
def AA {p:Nat->Bool}{n i:Nat}(hi:i<n)(h:p i=false):Qu p n=false:=by
 rw[Qpa];intro h';rw[Q7.1 h' i hi]at h;cases h
def Bn {p q:Nat->Bool}{n:Nat}:Qu (λi=>p i&&q i) n=(Qu p n&&Qu q n):=by
 induction n with
 |zero=>rfl
 |succ n ih=>
  simp only[Qu,ih];cases Qu p n<;>cases Qu q n<;>cases p n<;>cases q n<;>rfl
def Xr {α:Type}(l:List α)(q:α->Bool)(i:Nat):Bool:=match l[i]? with
 |some x=>q x
 |none=>true
def X0 {α:Type}{l:List α}{q:α->Bool}{i:Nat}{x:α}(h:l[i]? = some x):Xr l q i=q x:=by
 unfold Xr;rw[h]
def Gv {α:Type}(l:List α)(q:α->Bool):Qu (Xr l q) l.length=l.all q:=by
 rw[Qn5,Q7,Qno]
 constructor
 ·intro h x hx;obtain⟨i,hi⟩:=Qnn.1 hx;have:=h i (Qna.1 hi).1
  rwa [X0 hi]at this
 ·intro h i hi;rw[X0 (Qnb hi)];exact h _ (Qn3 _)
def ZE {α:Type}(l:List α)(lt:α->α->Bool)(i:Nat):Bool:=match i with
 |0=>true
 |k+1=>match l[k]?,l[k+1]? with
  |some x,some y=>lt x y
  |_,_=>true
def Yh {α:Type}{l:List α}{lt:α->α->Bool}{k:Nat}{x y:α}(h:l[k]? = some x)(h':l[k+1]? = some y):ZE l lt (k+1)=lt x y:=by
 unfold ZE;simp only[h,h']
def QaH {α:Type}{l:List α}{lt:α->α->Bool}:ZE l lt 0=true:=rfl
def JM {α:Type}(l:List α)(lt:α->α->Bool):Bool:=Qu (ZE l lt) l.length
def uniq {α:Type}(l:List α)(nm:α->List UInt8)(i:Nat):Bool:=match l[i]? with
 |some x=>(l.take i).all λy=>!(nm y==nm x)
 |none=>true
def Fs {α:Type}{l:List α}{nm:α->List UInt8}{i:Nat}{x:α}(h:l[i]? = some x):uniq l nm i=(l.take i).all λy=>!(nm y==nm x):=by
 unfold uniq;rw[h]
def UJ {α:Type}(l:List α)(nm:α->List UInt8):Bool:=Qu (uniq l nm) l.length
def Gw {α:Type}{l:List α}{q:α->Bool}{i:Nat}{x:α}(h:l[i]? = some x):(l.take (i+1)).all q=((l.take i).all q&&q x):=by
 rw[Qo4,h];simp
def M8 {α:Type}{l:List α}{q:α->Bool}{i:Nat}{x:α}(h:l[i]? = some x):(l.take (i+1)).any q=((l.take i).any q||q x):=by
 rw[Qo4,h];simp
def VB {α:Type}{l:List α}{q:α->Bool}:(l.all λx=>!q x)=!l.any q:=by
 induction l with
 |nil=>rfl
 |cons x l ih=>simp[ih]
def WD (c:UInt8):Bool:=(decide (97<=c.toNat)&&decide (c.toNat<=122))||(decide (65<=c.toNat)&&decide (c.toNat<=90))
def KX (c:UInt8):Bool:=WD c||c.toNat==95||(decide (48<=c.toNat)&&decide (c.toNat<=57))
def XB:List UInt8->Bool
 | []=>false
 |c :: t=>decide ((c :: t).length<=40)&&WD c&&t.all KX
def Gx:List (List UInt8):=[[109,101,115,115,97,103,101],[101,110,117,109],[115,101,114,118,105,99,101],[117,110,105,111,110],[109,97,112],[108,105,115,116],[114,101,113,117,105,114,101,100],[111,112,116,105,111,110,97,108],[112,108,97,105,110],[100,101,102,97,117,108,116],[114,101,115,101,114,118,101,100],
 [105,109,112,111,114,116],[115,112,97,99,101],[114,112,99],[115,116,114,101,97,109],[114,101,116,117,114,110,115],[111,112,101,110],[116,114,117,101],[102,97,108,115,101],[110,97,110],[105,110,102]]
def JB (s:List UInt8):Bool:=Gx.any λw=>s==w
def Yi (s:List UInt8):Bool:=XB s && !JB s
def Qo:List UInt8->List (List UInt8)
 | []=>[[]]
 |c :: t=>if c=46 then [] :: Qo t else match Qo t with
  | []=>[[c]]
  |p :: ps=>(c :: p) :: ps
def Yj (s:List UInt8):Bool:=decide (s.length<=120)&&(Qo s).all XB && !(Qo s).any JB
def YI:∀s:List UInt8,Qo s≠[]
 | []=>by simp[Qo]
 |c :: t=>by
  unfold Qo;split
  ·simp
  ·split<;>simp
def Cj (a:List UInt8):∀s:List UInt8,(∀c∈a,c≠46)->Qo (a++s)=match Qo s with
  | []=>[a]
  |p :: ps=>(a++p) :: ps:=by
 induction a with
 |nil=>intro s _;cases h:Qo s with
  |nil=>exact absurd h (YI s)
  |cons p ps=>simp[h]
 |cons c a ih=>
  intro s h;have hc:c≠46:=h c ό;rw[Qnx,Qo,Qni hc,ih s λx hx=>h x õ];cases hs:Qo s with
  |nil=>exact absurd hs (YI s)
  |cons p ps=>rfl
def Hi {s:List UInt8}(h:∀c∈s,c≠46):Qo s=[s]:=by
 have:=Cj s [] h
 simpa [Qo]using this
def NB {a t:List UInt8}(h:∀c∈a,c≠46):Qo (a++46 :: t)=a :: Qo t:=by
 rw[Cj a _ h,Qo,Qnj rfl];simp
def NC {a t:List UInt8}(h:∀c∈t,c≠46):Qo (a++46 :: t)=Qo a++[t]:=by
 induction a with
 |nil=>
  show Qo (46 :: t)=[[]]++[t];rw[show Qo (46 :: t)=[] :: Qo t from by rw[Qo,Qnj rfl],Hi h];rfl
 |cons c a ih=>
  rw[Qnx,Qo,Qo,ih];split
  ·rfl
  ·cases hs:Qo a with
   |nil=>exact absurd hs (YI a)
   |cons p ps=>rfl
def Dz (s:List UInt8):(Qo s).length=s.count 46+1:=by
 induction s with
 |nil=>rfl
 |cons c t ih=>
  unfold Qo;split
  ·rename_i h;subst h;simp[ih]
  ·rename_i h;rw[List.count_cons_of_ne ϡ];cases hs:Qo t with
   |nil=>exact absurd hs (YI t)
   |cons p ps=>rw[hs]at ih;simpa using ih
def Yk (g:PG):Bool:=decide (g.ops.length<=64)
def UK (e:PE):Bool:=decide (1<=e.items.length)&&decide (e.items.length<=64)&&decide (e.free.length<=16)
def F2 (P:PL):Bool:=decide (P.progs.length<=64)&&decide (P.enums.length<=64)&&P.progs.all Yk&&P.enums.all UK
def WQ (g:PG):Bool:=Yj g.name&&g.ops.all λo=>Yi o.name
def HC (e:PE):Bool:=Yj e.name&&e.items.all λo=>Yi o.name
def ND (P:PL):Bool:=P.progs.all WQ&&P.enums.all HC
def Wv {α:Type}(f:α->Int)(x y:α):Bool:=decide (f x<f y)
def X3 {α:Type}(f:α->List UInt8)(x y:α):Bool:=Op.bytesLess (f x) (f y)
def Yl (g:PG):Bool:=JM g.ops (Wv PO.num)
def HD (e:PE):Bool:=JM e.items (Wv PI.num)
def DA (P:PL):Bool:=JM P.progs (X3 PG.name)&&JM P.enums (X3 PE.name)&&P.progs.all Yl&&P.enums.all HD
def K9 (P:PL)(g:PG):Bool:=(P.enums.all λe=>!(e.name==g.name))&&UJ g.ops PO.name
def Gy (e:PE):Bool:=UJ e.items PI.name
def M9 (P:PL):Bool:=P.progs.all (K9 P)&&P.enums.all Gy
def KU (o:PO):Bool:=decide (o.num>=1)&&decide (o.num<=65535)
def Ck (x:PS):Bool:=decide (x.lo>=0)&&decide (x.hi<=2147483647)&&decide (x.lo<=x.hi)
def NE (x y:PS):Bool:=decide (y.lo > x.hi)
def kept (l:List PS)(n:Int):Bool:=l.any λx=>decide (x.lo<=n)&&decide (n<=x.hi)
def UL (e:PE)(x:PI):Bool:=decide (x.num<=2147483647) && !kept e.free x.num
def Gz (e:PE):Bool:=match e.items with
 | []=>true
 |x :: _=>x.num==0
def UM (e:PE):Bool:=e.free.all Ck&&JM e.free NE&&Gz e&&e.items.all (UL e)
def NF (P:PL):Bool:=P.progs.all (λg=>g.ops.all KU)&&P.enums.all UM
def J3 (x:PS):AV:=.agg x.cells
def DB (e:PE):QH e=.agg [.str e.name,.bool e.opn,.list (e.items.map XQ),.list (e.free.map J3),.list (e.notes.map λn=>Zs n.cells)]:=rfl
def DC (g:PG):Qm g=.agg [.str g.name,.list (g.ops.map Qw),.int .i64 g.unions]:=rfl
def DD (o:PO):Qw o=.agg [.int .i64 o.num,.str o.name,.str o.alias,.int .i64 o.card,.int .i64 o.key,.int .i64 o.kind,.int .i64 o.target,.int .i64 o.union]:=rfl
def VC (x:PI):XQ x=.agg [.str x.name,.int .i64 x.num,.list (x.notes.map λn=>Zs n.cells)]:=rfl
def Kr (x:List UInt8):AV:=.str x
def WR {α:Type}(p:α->Bool)(l:List α):decide (Zn p l 0>=0)=l.any p:=by
 exact zQ
def DE (k n:Nat)(h:k+1<n)(hn:n<=maxLen):IntKind.i64.wrap (((k+1:Nat):Int)-1)=(k:Int):=by
 rw[QD];simp only[maxLen]at hn;omega
section
variable (L:List PG)(hl:L.length<=maxLen)(p:PG->Bool)(c:Nat)(cs:List AV)(m:Qk)
include hl in
theorem z47 (hc:∀o∈L,Qf prog c (Qm o :: AV.shL cs) (Qb :: m) λy m1=>y=.bool (p o)/\m1=Qb :: m) :
  Qf prog 47 [.list (L.map Qm),.fn (.func c) [] cs] m λy m1=>y=.int .i64 (Zn p L 0)/\m1=m:=by
 refine wG func47 ?_;simp only[eK,Tryz.f47,seval];exact Dy hl (av:=Qm) (n:=3) (s:=(some 3)) (λ_=>⟨rfl,rfl⟩) hc
include hl in
theorem QiE (hc:∀o∈L,Qf prog c (Qm o :: AV.shL (AV.shL cs)) (Qb :: Qb :: m) λy m1=>y=.bool (p o)/\m1=Qb :: Qb :: m) :
  Qf prog 263 [.list (L.map Qm),.fn (.func c) [] cs] m λy m1=>y=.bool (L.any p)/\m1=m:=by
 refine wG func263 ?_;simp only[eK,f263,seval];simp only[Qa,seval];refine Qh (z47 L hl p c (AV.shL cs) _ hc) (by simp only[QnJ,Qod,Qa,seval]<;>rfl) ?_;simp only[WR,Qa,seval]
include hl in
theorem VD (hc:∀o∈L,Qf prog c (Qm o :: AV.shL (AV.shL (AV.shL cs))) (Qb :: Qb :: Qb :: m) λy m1=>y=.bool (p o)/\m1=Qb :: Qb :: Qb :: m) :
  Qf prog 172 [.list (L.map Qm),.fn (.func c) [] cs] m λy m1=>y=.bool (L.any p)/\m1=m:=by
 refine wG func172 ?_;simp only[eK,f172,seval];simp only[Qa,seval];refine Qh (QiE L hl p c (AV.shL cs) _ hc) (by simp only[QnJ,Qod,Qa,seval]<;>rfl) ?_;simp only[Qa,seval]
end
section
variable (L:List PO)(hl:L.length<=maxLen)(p:PO->Bool)(c:Nat)(cs:List AV)(m:Qk)
include hl in
theorem QiF (hc:∀o∈L,Qf prog c (Qw o :: AV.shL cs) (Qb :: m) λy m1=>y=.bool (p o)/\m1=Qb :: m) :
  Qf prog 151 [.list (L.map Qw),.fn (.func c) [] cs] m λy m1=>y=.int .i64 (Zn p L 0)/\m1=m:=by
 refine wG func151 ?_;simp only[eK,f151,seval];exact Dy hl (av:=Qw) (n:=8) (s:=(some 8)) (λ_=>⟨rfl,rfl⟩) hc
include hl in
theorem QiG (hc:∀o∈L,Qf prog c (Qw o :: AV.shL (AV.shL cs)) (Qb :: Qb :: m) λy m1=>y=.bool (p o)/\m1=Qb :: Qb :: m) :
  Qf prog 269 [.list (L.map Qw),.fn (.func c) [] cs] m λy m1=>y=.bool (L.any p)/\m1=m:=by
 refine wG func269 ?_;simp only[eK,f269,seval];simp only[Qa,seval];refine Qh (QiF L hl p c (AV.shL cs) _ hc) (by simp only[QnJ,Qod,Qa,seval]<;>rfl) ?_;simp only[WR,Qa,seval]
include hl in
theorem Pa (hc:∀o∈L,Qf prog c (Qw o :: AV.shL (AV.shL (AV.shL cs))) (Qb :: Qb :: Qb :: m) λy m1=>y=.bool (p o)/\m1=Qb :: Qb :: Qb :: m) :
  Qf prog 178 [.list (L.map Qw),.fn (.func c) [] cs] m λy m1=>y=.bool (L.any p)/\m1=m:=by
 refine wG func178 ?_;simp only[eK,f178,seval];simp only[Qa,seval];refine Qh (QiG L hl p c (AV.shL cs) _ hc) (by simp only[QnJ,Qod,Qa,seval]<;>rfl) ?_;simp only[Qa,seval]
end
section
variable (L:List PE)(hl:L.length<=maxLen)(p:PE->Bool)(c:Nat)(cs:List AV)(m:Qk)
include hl in
theorem QiH (hc:∀o∈L,Qf prog c (QH o :: AV.shL cs) (Qb :: m) λy m1=>y=.bool (p o)/\m1=Qb :: m) :
  Qf prog 315 [.list (L.map QH),.fn (.func c) [] cs] m λy m1=>y=.int .i64 (Zn p L 0)/\m1=m:=by
 refine wG func315 ?_;simp only[eK,f315,seval];exact Dy hl (av:=QH) (n:=5) (s:=(some 5)) (λ_=>⟨rfl,rfl⟩) hc
include hl in
theorem QiI (hc:∀o∈L,Qf prog c (QH o :: AV.shL (AV.shL cs)) (Qb :: Qb :: m) λy m1=>y=.bool (p o)/\m1=Qb :: Qb :: m) :
  Qf prog 264 [.list (L.map QH),.fn (.func c) [] cs] m λy m1=>y=.bool (L.any p)/\m1=m:=by
 refine wG func264 ?_;simp only[eK,f264,seval];simp only[Qa,seval];refine Qh (QiH L hl p c (AV.shL cs) _ hc) (by simp only[QnJ,Qod,Qa,seval]<;>rfl) ?_;simp only[WR,Qa,seval]
include hl in
theorem Bo (hc:∀o∈L,Qf prog c (QH o :: AV.shL (AV.shL (AV.shL cs))) (Qb :: Qb :: Qb :: m) λy m1=>y=.bool (p o)/\m1=Qb :: Qb :: Qb :: m) :
  Qf prog 174 [.list (L.map QH),.fn (.func c) [] cs] m λy m1=>y=.bool (L.any p)/\m1=m:=by
 refine wG func174 ?_;simp only[eK,f174,seval];simp only[Qa,seval];refine Qh (QiI L hl p c (AV.shL cs) _ hc) (by simp only[QnJ,Qod,Qa,seval]<;>rfl) ?_;simp only[Qa,seval]
end
section
variable (L:List PI)(hl:L.length<=maxLen)(p:PI->Bool)(c:Nat)(cs:List AV)(m:Qk)
include hl in
theorem QiJ (hc:∀o∈L,Qf prog c (XQ o :: AV.shL cs) (Qb :: m) λy m1=>y=.bool (p o)/\m1=Qb :: m) :
  Qf prog 304 [.list (L.map XQ),.fn (.func c) [] cs] m λy m1=>y=.int .i64 (Zn p L 0)/\m1=m:=by
 refine wG func304 ?_;simp only[eK,f304,seval];exact Dy hl (av:=XQ) (n:=3) (s:=(some 3)) (λ_=>⟨rfl,rfl⟩) hc
include hl in
theorem QiK (hc:∀o∈L,Qf prog c (XQ o :: AV.shL (AV.shL cs)) (Qb :: Qb :: m) λy m1=>y=.bool (p o)/\m1=Qb :: Qb :: m) :
  Qf prog 242 [.list (L.map XQ),.fn (.func c) [] cs] m λy m1=>y=.bool (L.any p)/\m1=m:=by
 refine wG func242 ?_;simp only[eK,f242,seval];simp only[Qa,seval];refine Qh (QiJ L hl p c (AV.shL cs) _ hc) (by simp only[QnJ,Qod,Qa,seval]<;>rfl) ?_;simp only[WR,Qa,seval]
include hl in
theorem AB (hc:∀o∈L,Qf prog c (XQ o :: AV.shL (AV.shL (AV.shL cs))) (Qb :: Qb :: Qb :: m) λy m1=>y=.bool (p o)/\m1=Qb :: Qb :: Qb :: m) :
  Qf prog 182 [.list (L.map XQ),.fn (.func c) [] cs] m λy m1=>y=.bool (L.any p)/\m1=m:=by
 refine wG func182 ?_;simp only[eK,f182,seval];simp only[Qa,seval];refine Qh (QiK L hl p c (AV.shL cs) _ hc) (by simp only[QnJ,Qod,Qa,seval]<;>rfl) ?_;simp only[Qa,seval]
end
section
variable (L:List PS)(hl:L.length<=maxLen)(p:PS->Bool)(c:Nat)(cs:List AV)(m:Qk)
include hl in
theorem QiL (hc:∀o∈L,Qf prog c (J3 o :: AV.shL cs) (Qb :: m) λy m1=>y=.bool (p o)/\m1=Qb :: m) :
  Qf prog 357 [.list (L.map J3),.fn (.func c) [] cs] m λy m1=>y=.int .i64 (Zn p L 0)/\m1=m:=by
 refine wG func357 ?_;simp only[eK,f357,seval];exact Dy hl (av:=J3) (n:=2) (s:=(some 2)) (λ_=>⟨rfl,rfl⟩) hc
include hl in
theorem QiM (hc:∀o∈L,Qf prog c (J3 o :: AV.shL (AV.shL cs)) (Qb :: Qb :: m) λy m1=>y=.bool (p o)/\m1=Qb :: Qb :: m) :
  Qf prog 319 [.list (L.map J3),.fn (.func c) [] cs] m λy m1=>y=.bool (L.any p)/\m1=m:=by
 refine wG func319 ?_;simp only[eK,f319,seval];simp only[Qa,seval];refine Qh (QiL L hl p c (AV.shL cs) _ hc) (by simp only[QnJ,Qod,Qa,seval]<;>rfl) ?_;simp only[WR,Qa,seval]
end
section
variable (L:List (List UInt8))(hl:L.length<=maxLen)(p:(List UInt8)->Bool)(c:Nat)(cs:List AV)(m:Qk)
include hl in
theorem QiN (hc:∀o∈L,Qf prog c (Kr o :: AV.shL cs) (Qb :: m) λy m1=>y=.bool (p o)/\m1=Qb :: m) :
  Qf prog 316 [.list (L.map Kr),.fn (.func c) [] cs] m λy m1=>y=.int .i64 (Zn p L 0)/\m1=m:=by
 refine wG func316 ?_;simp only[eK,f316,seval];exact Dy hl (av:=Kr) (n:=1) (s:=none) (λ_=>⟨rfl,rfl⟩) hc
include hl in
theorem QiO (hc:∀o∈L,Qf prog c (Kr o :: AV.shL (AV.shL cs)) (Qb :: Qb :: m) λy m1=>y=.bool (p o)/\m1=Qb :: Qb :: m) :
  Qf prog 266 [.list (L.map Kr),.fn (.func c) [] cs] m λy m1=>y=.bool (L.any p)/\m1=m:=by
 refine wG func266 ?_;simp only[eK,f266,seval];simp only[Qa,seval];refine Qh (QiN L hl p c (AV.shL cs) _ hc) (by simp only[QnJ,Qod,Qa,seval]<;>rfl) ?_;simp only[WR,Qa,seval]
end
abbrev riC (n:Nat):RC:=.seq (.reg [⟨some 4,.val (.mov (.c (.bool false))),none⟩]) (.seq (.seq (.reg [⟨some 5,.val (.mov (.c (.int .i64 1))),none⟩]) (.block 0 (.loop (.seq (.seq (.reg [⟨some 6,.val (.mov (.t 5)),none⟩,⟨some 7,.val (.mov (.t 0)),none⟩,⟨some 8,.val (.len 1 (.t 7)),none⟩,⟨some 9,.val (.bin .num .lss (.t 6) (.t 8)),none⟩]) (.cond (.t 9) (.skip) (.exit 0))) (.seq (.block 1 (.seq (.draw [⟨some 12,.val (.mov (.t 1)),none⟩,⟨some 13,.val (.mov (.t 0)),none⟩,⟨some 14,.val (.mov (.t 5)),none⟩,⟨some 15,.val (.bin .num .sub (.t 14) (.c (.int .i64 1))),none⟩,⟨some 16,.val (.iaddr n none (.t 13) (.t 15)),none⟩,⟨some 17,.val (.loadr (some n) (.t 16)),none⟩,⟨some 18,.val (.mov (.t 0)),none⟩,⟨some 19,.val (.mov (.t 5)),none⟩,⟨some 20,.val (.iaddr n none (.t 18) (.t 19)),none⟩,⟨some 21,.val (.loadr (some n) (.t 20)),none⟩,⟨some 22,.callF (.t 12) [(.t 17),(.t 21)],none⟩,⟨some 23,.val (.un .not (.t 22)),none⟩]) (.cond (.t 23) (.seq (.reg [⟨some 4,.val (.mov (.c (.bool false))),none⟩]) (.ret)) (.skip)))) (.reg [⟨some 10,.val (.mov (.t 5)),none⟩,⟨some 11,.val (.bin .num .add (.t 10) (.c (.int .i64 1))),none⟩,⟨some 5,.val (.mov (.t 11)),none⟩])))))) (.seq (.reg [⟨some 4,.val (.mov (.c (.bool true))),none⟩]) (.ret)))
def riG {X:Type}{L:List X}(hl:L.length<=maxLen){av:X->AV}{n:Nat}(he:∀x,(av x).cells.length=n/\Am.part (av x).cells 0 (some n)=some (av x)){lt:X->X->Bool}{c:Nat}{cs:List AV}{m:Qk}(hc:∀x∈L,∀y∈L,Qf prog c (av x :: av y :: AV.shL cs) (Qb :: m) λr m1=>r=.bool (lt x y)/\m1=Qb :: m) :
  Q1 prog (riC n) (St.enter [.list (L.map av),.fn (.func c) [] cs] m) (Jk [.tmp 4] m.length λy m1=>y=.bool (JM L lt)/\m1=m):=by
 let I:Nat->St->Prop:=λj st=>∃f i,st=⟨f,Qb :: m,[]⟩/\j=L.length-(i+1)/\Qu (ZE L lt) (i+1)=true/\Ag f [(0,.list (L.map av)),(1,.fn (.func c) [] (AV.shL cs)),(5,.int .i64 ((i+1:Nat):Int))]
 simp only[riC,Qa,seval];refine Qj I _ ⟨_,0,rfl,rfl,rfl,rfl⟩ ?_;rintro _ _ ⟨f,i,rfl,rfl,hz,hf⟩;rw[<-HP hf];simp only[XW,Qn6,Qa,seval];rcases X8 L (i+1)with⟨y,hy,aa⟩|aa
 case inr=>
  have hf:JM L lt=true:=Q7.2 λk hk=>Q7.1 hz k ψ
  simp only[QM aa,hf,Qa,seval]
 obtain⟨x,hx⟩:∃x,L[i]? = some x:=⟨L[i]' ψ,Qnb ψ⟩;have hg:(L.map av)[i]? = some (av x):=by rw[QoA,hx];rfl
 have hh:(L.map av)[i+1]? = some (av y):=by rw[QoA,hy];rfl
 have aM:=hc x (Qnp hx) y (Qnp hy);have e1:=Qv (i+1) _ aa hl;have e2:=DE i _ aa hl;have hs:Qu (ZE L lt) (i+2)=lt x y:=by
  show(Qu (ZE L lt) (i+1)&&ZE L lt (i+1))=_;rw[hz,Yh hx hy,QoW]
 simp only[QE aa,e2,Qs,QoF,Qg,hg,hh,he,eE,seval];refine Np (fa:=[]) (fb:=AV.shL cs) rfl aM rfl ?_;cases hp:lt x y
 ·have hf:JM L lt=false:=by
   rw[Qpa];intro h';rw[hp,Q7.2 λk hk=>Q7.1 h' k ψ]at hs;cases hs
  simp only[hf,Qa,seval]
 ·simp only[e1,Qa,seval];exact⟨_,ψ,_,i+1,rfl,rfl,by rw[hs,hp],rfl⟩
def QiP (L:List PG)(hl:L.length<=maxLen)(lt:PG->PG->Bool)(c:Nat)(cs:List AV)(m:Qk)(hc:∀x∈L,∀y∈L,Qf prog c (Qm x :: Qm y :: AV.shL cs) (Qb :: m) λr m1=>r=.bool (lt x y)/\m1=Qb :: m) :
  Qf prog 184 [.list (L.map Qm),.fn (.func c) [] cs] m λy m1=>y=.bool (JM L lt)/\m1=m:=by
 refine wG func184 ?_;simp only[eK,f184,seval];exact riG hl (av:=Qm) (n:=3) (λ_=>⟨rfl,rfl⟩) hc
def QiQ (L:List PO)(hl:L.length<=maxLen)(lt:PO->PO->Bool)(c:Nat)(cs:List AV)(m:Qk)(hc:∀x∈L,∀y∈L,Qf prog c (Qw x :: Qw y :: AV.shL cs) (Qb :: m) λr m1=>r=.bool (lt x y)/\m1=Qb :: m) :
  Qf prog 189 [.list (L.map Qw),.fn (.func c) [] cs] m λy m1=>y=.bool (JM L lt)/\m1=m:=by
 refine wG func189 ?_;simp only[eK,f189,seval];exact riG hl (av:=Qw) (n:=8) (λ_=>⟨rfl,rfl⟩) hc
def QiR (L:List PE)(hl:L.length<=maxLen)(lt:PE->PE->Bool)(c:Nat)(cs:List AV)(m:Qk)(hc:∀x∈L,∀y∈L,Qf prog c (QH x :: QH y :: AV.shL cs) (Qb :: m) λr m1=>r=.bool (lt x y)/\m1=Qb :: m) :
  Qf prog 186 [.list (L.map QH),.fn (.func c) [] cs] m λy m1=>y=.bool (JM L lt)/\m1=m:=by
 refine wG func186 ?_;simp only[eK,f186,seval];exact riG hl (av:=QH) (n:=5) (λ_=>⟨rfl,rfl⟩) hc
def QiS (L:List PI)(hl:L.length<=maxLen)(lt:PI->PI->Bool)(c:Nat)(cs:List AV)(m:Qk)(hc:∀x∈L,∀y∈L,Qf prog c (XQ x :: XQ y :: AV.shL cs) (Qb :: m) λr m1=>r=.bool (lt x y)/\m1=Qb :: m) :
  Qf prog 192 [.list (L.map XQ),.fn (.func c) [] cs] m λy m1=>y=.bool (JM L lt)/\m1=m:=by
 refine wG func192 ?_;simp only[eK,f192,seval];exact riG hl (av:=XQ) (n:=3) (λ_=>⟨rfl,rfl⟩) hc
def cl (c:Nat):Int:=if 97<=c/\c<=122 then 1 else if 65<=c/\c<=90 then 2 else if 48<=c/\c<=57 then 3 else if c=95 then 4 else 0
def QiT (c:Nat):Qi prog 318 [.int .i32 (c:Nat)] (.int .i64 (cl c)):=by
 refine wF func318 ?_;simp only[eK,f318,seval];simp only[Qa,seval]
 repeat' (first|(refine Q4 (λh=>?_) (λh=>?_)<;>simp only[h,Qa,seval])|(refine Zb (λh=>?_) (λh=>?_)<;>simp only[h,Ql,Qa,seval])|(refine Zc (λh=>?_) (λh=>?_)<;>simp only[h,Ql,eE,seval]))
 all_goals((try simp only[Qnf,Qpf,Qng,Qo2,ne_eq]at *)<;>unfold cl<;>(repeat' split)<;>first|rfl|(exfalso;omega))
def AC {s:List UInt8}{i:Nat}{c:UInt8}(h:s[i]? = some c):(c.toNat<128->Zk s i=(c.toNat,1))/\(128<=c.toNat->128<=(Zk s i).1):=by
 have g0:(⟨⟨s⟩⟩:ByteArray).get! (i+0)=c:=by
  show(⟨s⟩:Array UInt8)[i+0]! = c;simp[h]
 constructor
 ·intro hc;simp only[Zk,Utf8.decode,g0];rw[Qnj hc]
 ·intro hc;simp only[Zk,Utf8.decode,g0];rw[Qni ψ]
  (repeat' split)<;>simp only[ge_iff_le,Qnz,Qnf,Utf8.runeError]at *<;>omega
def pq (s:List UInt8)(j:Nat):Bool:=match s[j]? with
 |some c=>if j=0 then WD c else KX c
 |none=>true
def Hj {s:List UInt8}{j:Nat}{c:UInt8}(h:s[j]? = some c):pq s j=if j=0 then WD c else KX c:=by
 unfold pq;rw[h]
def Pb {c:UInt8}(h:WD c=true):KX c=true:=by unfold KX;rw[h];rfl
def YX (s:List UInt8):XB s=(decide (1<=s.length)&&decide (s.length<=40)&&Qu (pq s) s.length):=by
 cases s with
 |nil=>rfl
 |cons c t=>
  have h1:decide (1<=(c :: t).length)=true:=ό
  rw[h1,QoW];show(decide ((c :: t).length<=40)&&WD c&&t.all KX)=_;rw[QnW];congr 1
  rw[Qn5,Qnz,Q7,Qno]
  constructor
  ·rintro⟨h2,h3⟩ i hi;cases i with
   |zero=>rw[Hj (c:=c) rfl,Qnj rfl];exact h2
   |succ i=>
    have aa:i<t.length:=ę
    rw[Hj (c:=t[i]) (by simp[Qnb aa]),Qni ψ];exact h3 _ (Qn3 _)
  ·intro h;refine⟨?_,λx hx=>?_⟩
   ·have:=h 0 ό
    rwa [Hj (c:=c) rfl,Qnj rfl]at this
   ·obtain⟨i,hi⟩:=Qnn.1 hx;have aa:=(Qna.1 hi).1;have:=h (i+1) ô
    rwa [Hj (c:=x) ę,Qni ψ]at this
def Qhg {s:List UInt8}{i:Nat}{c:UInt8}(h:s[i]? = some c)(r:Nat)(hr:(c.toNat<128->r=c.toNat)/\(128<=c.toNat->128<=r)) :
  (cl r==0||((i:Int)==0&&(cl r != 1&&cl r != 2)))=!pq s i:=by
 rw[Hj h];obtain⟨h1,h2⟩:=hr;have hc:=c.toNat_lt;unfold cl WD KX WD;generalize c.toNat=x at *;by_cases hx:x<128
 ·have e:=h1 hx;subst e;by_cases hi:i=0
  ·subst hi;rw[Qnj rfl]
   (repeat' split)<;>simp<;>omega
  ·rw[Qni hi];have hz:((i:Int)==0)=false:=Ϗ
   rw[hz]
   (repeat' split)<;>simp<;>omega
 ·have:=h2 ψ;have e:(if 97<=r/\r<=122 then(1:Int)else if 65<=r/\r<=90 then 2 else if 48<=r/\r<=57 then 3 else if r=95 then 4 else 0)=0:=by
   rw[Qni ψ,Qni ψ,Qni ψ,Qni ψ]
  rw[e];split<;>simp<;>omega
def PaI (s:List UInt8)(k:Nat)(st:St):Prop :=
 ∃f fr i,st=⟨f,[fr],[]⟩/\k=s.length-i/\i<=s.length/\Qu (pq s) i=true/\f 0=.str s/\f 7=.ptr 0 7 0/\fr 7=.iter (.str s) i
def Qfv (s:List UInt8):Qi prog 270 [.str s] (.bool (XB s)):=by
 refine wF func270 ?_;simp only[eK,f270,seval];simp only[Qa,seval];refine Cb rfl rfl ?_;simp only[Qa,seval];refine Qj (PaI s) s.length ⟨_,_,0,rfl,rfl,Qnk _,rfl,ω,ω,ω⟩ ?_;rintro _ st ⟨f,fr,i,rfl,rfl,hi,hx,h0,h7,m7⟩;simp only[Qa,seval];refine Cc Ϫ m7 (λaa=>?_) (λfU=>?_)
 ·obtain⟨c,hc⟩:∃c,s[i]? = some c:=⟨s[i],Qnb aa⟩;obtain⟨u1,u2⟩:=AC hc;have aM:=QiT (Zk s i).1;have hq:=Qhg hc (Zk s i).1 ⟨λh=>by rw[u1 h],u2⟩;have hw:pq s i=true->(Zk s i).2=1:=by
   intro h;rw[u1];rw[Hj hc]at h;have hp:KX c=true:=by
    split at h
    ·exact Pb h
    ·exact h
   unfold KX WD at hp;simp at hp;omega
  generalize Zk s i=cw at aM hq hw;obtain⟨r,w⟩:=cw;simp only[Qa,seval];refine aC aM ?_;have ah:Qu (pq s) (i+1)=pq s i:=by rw[Qu,hx,QoW]
  have fG:pq s i=false->XB s=false:=by
   intro h;rw[YX,AA aa h,QoY]
  simp only at hq hw;generalize cl r=k at hq;cases hp:pq s i
  ·rw[hp]at hq;have he:=fG hp;simp only[he,Qa,seval];cases a1:(k==0)
   ·cases a2:((i:Int)==0)
    ·simp[a1,a2]at hq
    ·cases a3:(k != 1)
     ·simp[a1,a2,a3]at hq
     ·cases a4:(k != 2)
      ·simp[a1,a2,a3,a4]at hq
      ·simp only[a2,a3,a4,Qa,seval]
   ·simp only[Qa,seval]
  ·rw[hp]at hq;have hw:=hw hp;subst hw;simp only[Qa,seval];cases a1:(k==0)
   ·cases a2:((i:Int)==0)
    ·simp only[a2,Qa,seval];exact zV
    ·cases a3:(k != 1)
     ·simp only[a2,a3,Qa,seval];exact zV
     ·cases a4:(k != 2)
      ·simp only[a2,a3,a4,Qa,seval];exact zV
      ·simp[a1,a2,a3,a4]at hq
   ·simp[a1]at hq
 ·have ow:i=s.length:=ψ
  subst ow;have e1:decide (((s.length:Nat):Int)>=1)=decide (1<=s.length):=ϴ
  have e2:decide (((s.length:Nat):Int)<=40)=decide (s.length<=40):=ϴ
  have e3:XB s=(decide (1<=s.length)&&decide (s.length<=40)):=by rw[YX,hx,Qoq]
  simp only[h0,e1,e3,Qa,seval];cases a1:decide (1<=s.length)<;>simp only[QoW,QoJ,h0,e2,Qa,seval]
def QiU (s:List UInt8):Qi prog 268 [.str s] (.bool (JB s)):=by
 refine wF func268 ?_;simp only[eK,f268,seval];simp only[QX,Qa,seval];have e:JB s=Gx.any λw=>s==w:=rfl
 simp only[Gx,List.any_cons,List.any_nil,Qpg]at e
 repeat' (first|(refine Q4 (λh=>?_) (λh=>?_)<;>simp only[h,QX,Qa,seval])|(refine Zb (λh=>?_) (λh=>?_)<;>simp only[h,Ql,QX,eE,seval])|(refine Zc (λh=>?_) (λh=>?_)<;>simp only[h,Ql,QX,eE,seval]))
 all_goals exact σ
def QiV (s:List UInt8):Qi prog 355 [.str s,.str [46]] (.int .i64 (s.count 46:Nat)):=by
 refine wF func355 ?_;simp only[eK,f355,seval];have b0:(((1:Nat):Int)==0)=false:=rfl;have b1:(((1:Nat):Int)==1)=true:=rfl;have b2:([(46:UInt8)])[Int.toNat 0]? = some 46:=rfl;simp only[Qnq,Qn7,QnA,Qa,seval];refine Sv rfl rfl ?_;simp only[Na,Lib.countByte,Qa,seval]
 try rfl
def QiW (s:List UInt8):Qi prog 381 [.str s,.int .u8 46] (.int .i64 (Lib.indexByte s 46)):=by
 refine wF func381 ?_;simp only[eK,f381,seval];simp only[Qa,seval];refine Sv rfl rfl ?_;simp only[Na,Qnu,Qa,seval]
 try rfl
def QiX (s:List UInt8):Qi prog 374 [.str s,.str [46]] (.int .i64 (Lib.indexByte s 46)):=by
 refine Qfe.fn ό ?_;have b0:(((1:Nat):Int)==0)=false:=rfl;have b1:(((1:Nat):Int)==1)=true:=rfl;have b2:([(46:UInt8)])[Int.toNat 0]? = some 46:=rfl;have hk:=QiW s;simp only[Ay,Ih,Ii,Ij,Ik,Il,Im,Io,Ip,Iq,Ay,Qav,Qnq,Qn7,QnA,QX,Qa,seval];cases h:(([46]:List UInt8)==s)
 ·simp only[Qa,seval];refine aC hk ?_;simp only[Qa,seval]
 ·have hs:s=[46]:=by simpa using (Qng.1 h).symm
  subst hs;exact υ
def QiY (s:List UInt8):Qi prog 356 [.str s,.str [46]] (.int .i64 (Lib.indexByte s 46)):=by
 refine wF func356 ?_;simp only[eK,f356,seval];simp only[Qa,seval];refine aC (QiX s) ?_;simp only[Qa,seval]
def IE {t:List UInt8}{o:Nat}(h:Lib.indexByte t 46=(o:Int)):o<t.length/\t=t.take o++46 :: t.drop (o+1)/\∀c∈t.take o,c≠46:=by
 obtain⟨h1,h2⟩:=Lib.indexByte_some h;have aa:=(Qna.1 h1).1;refine⟨aa,?_,?_⟩
 ·have h3:t[o]=46:=(Qna.1 h1).2;rw[<-h3,<-QnU aa,Qou]
 ·intro c hc e;subst e;obtain⟨k,hk⟩:=Qnn.1 hc;rw[QnQ]at hk;split at hk
  ·exact h2 k ‹_› hk
  ·cases hk
def QaI {t:List UInt8}(h:Lib.indexByte t 46 = -1):Qo t=[t]:=by
 refine Hi λc hc e=>?_
 subst e;obtain⟨k,hk⟩:=Qnn.1 hc;exact Lib.indexByte_none h k hk
def IF {t:List UInt8}{o:Nat}(h:Lib.indexByte t 46=(o:Int)):Qo t=t.take o :: Qo (t.drop (o+1)):=by
 obtain⟨_,h2,h3⟩:=IE h
 conv=>lhs;rw[h2]
 exact NB h3
def Qfw (t:List UInt8):Lib.indexByte t 46 = -1\/∃o:Nat,Lib.indexByte t 46=(o:Int):=by
 have:=Lib.indexByte_ge t 46;by_cases h:Lib.indexByte t 46 = -1
 ·exact .inl h
 ·obtain⟨o,ho⟩:=QoZ (a:=Lib.indexByte t 46) ψ;exact .inr ⟨o,ho⟩
def SpI (s:List UInt8)(n:Nat)(k:Nat)(st:St):Prop :=
 ∃f fr t done,st=⟨f,[fr],[]⟩/\k=(Qo t).length/\Qo s=done++Qo t/\n=done.length+(Qo t).length/\t.length<=s.length/\
  f 0=.str t/\f 1=.str [46]/\f 2=.int .i64 0/\f 3=.int .i64 ((n-1:Nat):Int)/\f 9=.vec 0 31 1 0 n false/\f 10=.int .i64 (done.length:Nat)/\fr 31=.vec 1 1 (done.map Kr++List.replicate (Qo t).length (.str []))
def QaJ (done:List (List UInt8))(x:List UInt8)(n:Nat)(h:0<n):(done.map Kr++List.replicate n (AV.str [])).set done.length (.str x)=(done++[x]).map Kr++List.replicate (n-1) (AV.str []):=by
 obtain⟨k,rfl⟩:∃k,n=k+1:=⟨n-1,ψ⟩;rw[List.set_append_right _ _ ό];simp[Kr,List.replicate_succ]
def QiZ (s:List UInt8)(hs:s.length<=17592186044000):Qi prog 317 [.str s,.str [46],.int .i64 0,.int .i64 (-1)] (.list ((Qo s).map Kr)):=by
 have hl:=Dz s;have hc:s.count 46<=s.length:=List.count_le_length;have hm:(Qo s).length<=s.length+1:=ψ
 have b0:((-1:Int)==0)=false:=rfl;have b1:decide ((-1:Int)<0)=true:=rfl;have e1:IntKind.i64.wrap ((s.count 46:Nat)+1:Int)=((Qo s).length:Nat):=ϐ
 have e2:IntKind.i64.wrap ((s.length:Nat)+1:Int)=((s.length+1:Nat):Int):=ϐ
 have xI:(((s.length+1:Nat):Int)<((Qo s).length:Nat))=False:=eq_false ψ;have e4:IntKind.i64.wrap (((Qo s).length:Nat)-1:Int)=(((Qo s).length-1:Nat):Int):=ϐ
 have hz:Jc 1 [AV.str []]=.str []:=rfl;refine wF func317 ?_;simp only[eK,f317,seval];simp only[b0,QX,Qa,seval];have b2:(([46]:List UInt8)==[])=false:=rfl;simp only[b2,Qa,seval];refine aC (QiV s) ?_;simp only[e1,e2,xI,Qa,seval];refine Fj (n:=(Qo s).length) (k:=(Qo s).length) rfl rfl (Qm8 _) ψ ψ rfl ?_;simp only[e4,hz,Qa,seval];refine Qj (SpI s (Qo s).length) _ ⟨_,_,s,[],rfl,rfl,rfl,ό,Qm8 _,ω,ω,ω,ω,ω,ω,ω⟩ ?_;rintro _ st ⟨f,fr,t,done,rfl,rfl,hp,hn,ht,h0,h1,h2,h3,h9,am,u_⟩;simp only[h3,am,Qa,seval];have gW:0<(Qo t).length:=Qoy.2 (YI t);have ia:Qg [fr] 1 none (.vec 0 31 1 0 (Qo s).length false) ((done.length:Nat):Int)=some (.vptr 0 31 1 done.length 0):=by
  have e:Am.Qc [fr] 0 31=.vec 1 1 (done.map Kr++List.replicate (Qo t).length (.str [])):=u_;simp only[Qg,e,Qs,if_true,QoF];simp;omega
 have oG:∀x:List UInt8,XA [fr] (.vptr 0 31 1 done.length 0) [.str x]=some [QL fr 31 (.vec 1 1 ((done++[x]).map Kr++List.replicate ((Qo t).length-1) (.str [])))]:=by
  intro x;have e:Am.Qc [fr] 0 31=.vec 1 1 (done.map Kr++List.replicate (Qo t).length (.str [])):=u_;have hy:(done.map Kr++List.replicate (Qo t).length (.str []))[done.length]? = some (.str []):=by
   rw[QoE ό];simp[gW]
  have hx:Ka (.str []) 0 [.str x]=.str x:=rfl;simp only[XA,e,hy,if_true,<-QaJ done x _ gW];simp[AV.cells,AV.rfL,AV.rf,Am.put,hx]
 have ew:IntKind.i64.wrap ((done.length:Nat)+1:Int)=((done.length+1:Nat):Int):=ϐ
 rcases Qfw t with hd|⟨o,ho⟩
 ·have pu:=QaI hd;have aQ:(Qo t).length=1:=by rw[pu];rfl
  have d1:decide (((done.length:Nat):Int)<(((Qo s).length-1:Nat):Int))=false:=Qo8 ψ;have hi:=oG t;have ae:(done++[t]).map Kr++List.replicate ((Qo t).length-1) (AV.str [])=(Qo s).map Kr:=by
   rw[aQ,hp,pu];simp
  have hlen:done.length+1=(Qo s).length:=ψ
  rw[ae]at hi;rw[hlen]at ew;have hle:((Qo s).length<=(Qo s).length)=True:=eq_true (Qm8 _);have ht:(((Qo s).map Kr).drop 0).take (Qo s).length=(Qo s).map Kr:=by rw[QnT];exact QnL ό
  simp only[d1,ia,hi,h0,h9,am,ew,eE,seval];simp only[Qs,if_true,QoF,Qnk,hle,Qn2,and_true,Qoa,Qn1,Qpg,XZ,Qon,ZO,Qo9];have el:Am.Qc [QL fr 31 (Ob.vec 1 1 ((Qo s).map Kr))] 0 31=.vec 1 1 ((Qo s).map Kr):=Q6 _ _ _;simp only[AV.still,el,QoW,bne_self_eq_false,Qnu,if_false,QnA,Qn6,hle,and_self,if_true,ht,Option.bind_some,AV.un,Qo9,Qon]
 ·have pu:=IF ho;obtain⟨ho1,mQ,ho3⟩:=IE ho;have aQ:(Qo t).length=(Qo (t.drop (o+1))).length+1:=by rw[pu];simp
  have uv:0<(Qo (t.drop (o+1))).length:=Qoy.2 (YI _);have d1:decide (((done.length:Nat):Int)<(((Qo s).length-1:Nat):Int))=true:=Qpe ψ;have d2:decide ((o:Int)<0)=false:=Qo8 ψ;have w1:IntKind.i64.wrap ((o:Int)+0)=(o:Int):=ϐ
  have w2:IntKind.i64.wrap ((o:Int)+1)=((o+1:Nat):Int):=ϐ
  have hi:=oG (t.take o);simp only[d1,h0,h1,Qa,seval];refine aC (QiY t) ?_;have gp:(0<=o/\o<=t.length)=True:=eq_true ⟨Qnk _,ψ⟩;have n_:(o+1<=t.length/\t.length<=t.length)=True:=eq_true ⟨ψ,Qm8 _⟩;have jR:(t.drop (o+1)).take (t.length-(o+1))=t.drop (o+1):=QnL ό;simp only[ho,d2,w1,w2,Qs,QoF,gp,n_,jR,Qoa,h0,h1,h2,h9,am,eE,seval];simp only[ia,hi,ew,Qa,seval];have hlen:(done++[t.take o]).length=done.length+1:=ό
  have hk:(Qo t).length-1=(Qo (t.drop (o+1))).length:=ψ
  exact⟨(Qo (t.drop (o+1))).length,ψ,_,_,t.drop (o+1),done++[t.take o],rfl,rfl,by rw[hp,pu];simp,by rw[hlen];omega,Ϗ,ω,ϕ,Υ,ϖ,Ε,by rw[hlen]<;>first|rfl|simp only[eE,seval],by rw[<-hk]<;>exact Q6 _ _ _⟩
def Pd (c:UInt8):Bool:=decide (97<=c.toNat)&&decide (c.toNat<=122)
def Pe (c:UInt8):Bool:=decide (65<=c.toNat)&&decide (c.toNat<=90)
def Qfx (c:UInt8):Qi prog 168 [.int .u8 (c.toNat:Nat)] (.bool (Pd c)):=by
 refine wF func168 ?_;simp only[eK,f168,seval];have e1:decide ((c.toNat:Int)>=97)=decide (97<=c.toNat):=ϴ
 have e2:decide ((c.toNat:Int)<=122)=decide (c.toNat<=122):=ϴ
 simp only[e1,Pd,Qa,seval];cases h:decide (97<=c.toNat)<;>simp only[e2,QoW,QoJ,Qa,seval]
def Qfy (c:UInt8):Qi prog 169 [.int .u8 (c.toNat:Nat)] (.bool (Pe c)):=by
 refine wF func169 ?_;simp only[eK,f169,seval];have e1:decide ((c.toNat:Int)>=65)=decide (65<=c.toNat):=ϴ
 have e2:decide ((c.toNat:Int)<=90)=decide (c.toNat<=90):=ϴ
 simp only[e1,Pe,Qa,seval];cases h:decide (65<=c.toNat)<;>simp only[e2,QoW,QoJ,Qa,seval]
def QaK (c:UInt8):KX c=(Pd c||Pe c || !((c.toNat:Int) != 95) || !(decide ((c.toNat:Int)<48)||decide ((c.toNat:Int) > 57))):=by
 unfold KX WD Pd Pe;generalize c.toNat=x;rw[Qn5];simp only[Qne,Qnz,Qnf,Qng,Qn9,bne_eq_false_iff_eq,Qn4,Qpf];omega
def PrI (s:List UInt8)(k:Nat)(st:St):Prop :=
 ∃f i,st=⟨f,[Qb],[]⟩/\k=s.length-i/\1<=i/\Qu (pq s) i=true/\f 0=.str s/\f 3=.int .i64 (i:Nat)
def QaL (s:List UInt8):Qi prog 114 [.str s] (.bool (XB s)):=by
 refine QiB.fn ό ?_;simp only[Qa,seval];by_cases hl:s.length=0
 ·have d0:((s.length:Int)==0)=true:=by rw[hl];rfl
  have e:XB s=false:=by rw[YX,hl];rfl
  simp only[d0,e,Qa,seval]
 have d0:((s.length:Int)==0)=false:=ç
 by_cases hm:s.length<=40
 case neg=>
  have d1:decide ((s.length:Int) > 40)=true:=Qpe ψ;have e:XB s=false:=by rw[YX,Qo8 hm,QoY,QoJ]
  simp only[d0,d1,e,Qa,seval]
 have d1:decide ((s.length:Int) > 40)=false:=Qo8 ψ;have hp:XB s=Qu (pq s) s.length:=by rw[YX,Qpe hm,Qpe (by omega:1<=s.length)];rfl
 obtain⟨c,hc⟩:∃c,s[0]? = some c:=⟨s[0]' ψ,Qnb ψ⟩;have gD:Qu (pq s) 1=(Pd c||Pe c):=by
  show(true&&pq s 0)=_;rw[Hj hc,Qnj rfl];rfl
 have h1:=Qfx c;have h2:=Qfy c;have hn:Qu (pq s) 1=false->XB s=false:=λh=>by
  rw[hp,Qpa];intro h';rw[Q7.2 λk hk=>Q7.1 h' k ψ]at h;cases h
 have z1:Int.toNat 0=0:=rfl;have go:Qu (pq s) 1=true->∀(f:Fr),f 0=.str s->f 3=.int .i64 1->∀Q:Exit->St->Prop,(∀f,Qu (pq s) s.length=true->Q (.exit 0) ⟨f,[Qb],[]⟩)->(∀f,f 2=.bool false->Qu (pq s) s.length=false->Q .ret ⟨f,[Qb],[]⟩)->Q1 prog (.loop Ir) ⟨f,[Qb],[]⟩ Q:=by
  intro xx f h0 h3 Q hx hr;refine Qj (PrI s) _ ⟨_,1,rfl,rfl,Qm8 _,xx,h0,h3⟩ ?_;clear h0 h3 hc gD h1 h2 hn;rintro _ st ⟨f,i,rfl,rfl,h1i,bE,h0,h3⟩;simp only[h0,h3,Qa,seval];by_cases aa:i<s.length
  ·obtain⟨c,hc⟩:∃c,s[i]? = some c:=⟨s[i],Qnb aa⟩;have e1:=Qv i _ aa ώ;have ma:=Qfx c;have gY:=Qfy c;have ah:Qu (pq s) (i+1)=KX c:=by
    rw[Qu,bE,QoW,Hj hc,Qni ψ]
   have fG:KX c=false->Qu (pq s) s.length=false:=λh=>by
    rw[Qpa];intro h';rw[Q7.2 λk hk=>Q7.1 h' k ψ]at ah;rw[h]at ah;cases ah
   have fin:∀f':Fr,KX c=true->f' 0=.str s->f' 3=.int .i64 ((i+1:Nat):Int)->∃k,k<s.length-i/\PrI s k ⟨f',[Qb],[]⟩:=by
    intro f' hp h0 h3;exact⟨s.length-(i+1),ψ,f',i+1,rfl,rfl,ψ,by rw[ah,hp],h0,h3⟩
   have iB:=QaK c;simp only[QE aa,Qs,QoF,hc,h0,h3,Qa,seval];refine aC ma ?_;cases a1:Pd c
   ·simp only[Qs,QoF,hc,h0,h3,Qok,Qa,seval];refine aC gY ?_;cases a2:Pe c
    ·cases a3:((c.toNat:Int) != 95)
     ·rw[a1,a2,a3]at iB;simp only[a3,Qs,QoF,hc,h0,h3,e1,Qok,Qa,seval];exact Od
     ·cases a4:decide ((c.toNat:Int)<48)
      ·cases a5:decide ((c.toNat:Int) > 57)
       ·rw[a1,a2,a3,a4,a5]at iB;simp only[a3,a4,a5,Qs,QoF,hc,h0,h3,e1,Qok,Qa,seval];exact Od
       ·rw[a1,a2,a3,a4,a5]at iB;simp only[a3,a4,a5,Qs,QoF,hc,h0,h3,Qok,Qa,seval];exact hr _ ω (fG (by rw[iB];rfl))
      ·rw[a1,a2,a3,a4]at iB;simp only[a3,a4,Qs,QoF,hc,h0,h3,Qok,Qa,seval];exact hr _ ω (fG (by rw[iB];rfl))
    ·rw[a1,a2]at iB;simp only[h3,e1,QoX,Qa,seval];exact Od
   ·rw[a1]at iB;simp only[h3,e1,QoX,Qa,seval];exact Od
  ·simp only[QM aa,Qa,seval];exact hx _ (Q7.2 λk hk=>Q7.1 bE k ψ)
 simp only[d0,d1,z1,hc,Qa,seval];refine aC h1 ?_;cases a1:Pd c
 ·simp only[z1,hc,Qok,Qa,seval];refine aC h2 ?_;cases a2:Pe c
  ·rw[a1,a2]at gD;simp only[hn gD,Qok,Qa,seval]
  ·rw[a1,a2]at gD;exact O7
 ·rw[a1,Qo0]at gD;exact O7
def Qfz (s:List UInt8):Qi prog 113 [.str s] (.bool (JB s)):=by
 refine wF func113 ?_;simp only[eK,f113,seval];simp only[QX,Qa,seval];have e:JB s=Gx.any λw=>s==w:=rfl
 simp only[Gx,List.any_cons,List.any_nil,Qpg]at e
 repeat' (first|(refine Q4 (λh=>?_) (λh=>?_)<;>simp only[h,QX,Qa,seval])|(refine Zb (λh=>?_) (λh=>?_)<;>simp only[h,Ql,QX,eE,seval])|(refine Zc (λh=>?_) (λh=>?_)<;>simp only[h,Ql,QX,eE,seval]))
 all_goals exact σ
def z71 (s:List UInt8):Qi prog 71 [.str s] (.bool (Yi s)):=by
 refine wF func71 ?_;simp only[eK,f71,seval];simp only[Yi,Qa,seval];refine aC (QaL s) ?_;cases XB s
 ·exact ST
 ·simp only[QoW,Qa,seval];refine aC (Qfz s) ?_;simp only[Qa,seval]
def FuI (s:List UInt8)(k:Nat)(st:St):Prop :=
 ∃f i p,st=⟨f,[Qb],[]⟩/\k=s.length-i/\i<=s.length/\p.length<=i/\(∀c∈p,c≠(46:UInt8))/\(Qo s).all XB=(Qo (p++s.drop i)).all XB/\f 0=.str s/\f 3=.str p/\f 4=.int .i64 (i:Nat)
def Qi0 (s:List UInt8):Qi prog 111 [.str s] (.bool (decide (s.length<=120)&&(Qo s).all XB)):=by
 refine wF func111 ?_;simp only[eK,f111,seval];simp only[Qa,seval];by_cases hm:s.length<=120
 case neg=>
  have d1:decide ((s.length:Int) > 120)=true:=Qpe ψ;simp only[d1,Qo8 hm,QoJ,Qa,seval]
 have d1:decide ((s.length:Int) > 120)=false:=Qo8 ψ;simp only[d1,Qpe hm,QoW,Qa,seval];refine Qj (FuI s) _ ⟨_,0,[],rfl,rfl,Qnk _,Qm8 _,ό,rfl,ω,ω,ω⟩ ?_;rintro _ st ⟨f,i,p,rfl,rfl,hi,dT,tj,hx,h0,h3,h4⟩;simp only[h0,h4,Qa,seval];by_cases aa:i<s.length
 ·obtain⟨c,hc⟩:∃c,s[i]? = some c:=⟨s[i],Qnb aa⟩;have e1:=Qv i _ aa ώ;have hd:s.drop i=c :: s.drop (i+1):=by
   rw[QnU aa];congr 1
   exact(Qna.1 hc).2
  have eJ:(s.drop i).take (i+1-i)=[c]:=by
   rw[hd,show i+1-i=1 by omega];rfl
  simp only[QE aa,Qs,QoF,hc,h0,h4,Qa,seval];by_cases gR:c=46
  ·subst gR;have b0:((((46:UInt8).toNat:Nat):Int) != 46)=false:=rfl;have hs:(Qo s).all XB=(XB p&&(Qo (s.drop (i+1))).all XB):=by
    rw[hx,hd,NB tj];rfl
   simp only[h3,Qa,seval];refine aC (QaL p) ?_;cases hp:XB p
   ·rw[hp,QoJ]at hs;simp only[hs,Qok,Qa,seval]
   ·rw[hp,QoW]at hs;simp only[h4,e1,QoX,Qa,seval];exact⟨s.length-(i+1),ψ,_,i+1,[],rfl,rfl,ψ,Qnk _,ό,by rw[hs];rfl,ϗ,ω,ω⟩
  ·have b0:(((c.toNat:Nat):Int) != 46)=true:=by
    rw[QnE];exact C_
   have hle:(i<=i+1/\i+1<=s.length)=True:=eq_true ⟨ψ,ψ⟩;have uc:(p.length<=9223372036854775806)=True:=eq_true ψ;simp only[b0,h0,h3,h4,e1,JR,Jz,Xz,Qs,QoF,hle,eJ,QX,uc,Qa,seval];exact⟨s.length-(i+1),ψ,_,i+1,p++[c],rfl,rfl,ψ,Ϗ,λx hx=>by
    rcases Qow.1 hx with h|h
    ·exact tj x h
    ·simp at h;subst h;exact gR,by rw[hx,hd];simp,ϗ,ω,ω⟩
 ·have dG:(Qo s).all XB=XB p:=by
   rw[hx,QnO ψ,Qof,Hi tj];simp
  simp only[QM aa,h3,dG,Qa,seval];refine aC (QaL p) ?_;simp only[Qa,seval]
def HE (s:List UInt8):Nat->Option Nat
 |0=>none
 |j+1=>if s[j]? = some 46 then some j else HE s j
def DG (s:List UInt8):∀n,match HE s n with
  |none=>∀k,k<n->s[k]?≠some 46
  |some j=>j<n/\s[j]? = some 46/\∀k,j<k->k<n->s[k]?≠some 46
 |0=>by simp[HE]
 |n+1=>by
  unfold HE;split
  ·rename_i h;split at h
   ·cases h
   ·rename_i h';have:=DG s n;rw[h]at this;intro k hk;rcases Nat.lt_succ_iff_lt_or_eq.1 hk with h1|rfl
    ·exact this k h1
    ·exact h'
  ·rename_i j h;split at h
   ·rename_i h';cases h;exact⟨ψ,h',λk h1 h2=>ψ⟩
   ·rename_i h';have:=DG s n;rw[h]at this;exact⟨ψ,this.2.1,λk h1 h2=>by
     rcases Nat.lt_succ_iff_lt_or_eq.1 h2 with h3|rfl
     ·exact this.2.2 k h1 h3
     ·exact h'⟩
def Kt (s:List UInt8):List UInt8×List UInt8:=match HE s s.length with
 |none=>([],s)
 |some j=>(s.take j,s.drop (j+1))
def Pf (s:List UInt8):((Kt s).1=[]/\(Kt s).2=s/\∀c∈s,c≠46)\/(s=(Kt s).1++46 :: (Kt s).2/\∀c∈(Kt s).2,c≠46):=by
 have h:=DG s s.length;unfold Kt;cases hl:HE s s.length with
 |none=>
  rw[hl]at h;refine .inl ⟨rfl,rfl,λc hc e=>?_⟩;subst e;obtain⟨k,hk⟩:=Qnn.1 hc;exact h k (Qna.1 hk).1 hk
 |some j=>
  rw[hl]at h;obtain⟨h1,h2,h3⟩:=h;refine .inr ⟨?_,λc hc e=>?_⟩
  ·have:s[j]=46:=(Qna.1 h2).2;show s=s.take j++46 :: s.drop (j+1);rw[<-this,<-QnU h1,Qou]
  ·subst e;obtain⟨k,hk⟩:=Qnn.1 hc;rw[QnR]at hk;exact h3 (j+1+k) ψ (Qna.1 hk).1 hk
def SdI (s:List UInt8)(k:Nat)(st:St):Prop :=
 ∃f,st=⟨f,[Qb],[]⟩/\k<=s.length/\HE s s.length=HE s k/\f 0=.str s/\f 4=.int .i64 ((k:Int)-1)
def Qi1 (s:List UInt8)(hs:s.length<=120):Qi prog 112 [.str s] (.tup [.str (Kt s).1,.str (Kt s).2]):=by
 refine wF func112 ?_;simp only[eK,f112,seval];have w0:IntKind.i64.wrap ((s.length:Int)-1)=(s.length:Int)-1:=ϐ
 simp only[w0,Qa,seval];refine Qj (SdI s) _ ⟨_,rfl,Qm8 _,rfl,ω,ω⟩ ?_;rintro k st ⟨f,rfl,hk,hx,h0,h4⟩;simp only[h4,Qa,seval];cases k with
 |zero=>
  have d0:decide (((0:Nat):Int)-1>=0)=false:=rfl;have e:Kt s=([],s):=by unfold Kt;rw[hx];rfl
  simp only[e,h0,Qa,seval]
 |succ j=>
  have j1:((j+1:Nat):Int)-1=(j:Int):=ψ
  have d0:decide (((j:Nat):Int)>=0)=true:=Qpe ψ;have w1:IntKind.i64.wrap ((j:Int)-1)=(j:Int)-1:=ϐ
  have w2:IntKind.i64.wrap ((j:Int)+1)=((j+1:Nat):Int):=ϐ
  obtain⟨c,hc⟩:∃c,s[j]? = some c:=⟨s[j]' ψ,Qnb ψ⟩;simp only[j1,Qs,QoF,hc,h0,h4,Qa,seval];by_cases gR:c=46
  ·subst gR;have b0:((((46:UInt8).toNat:Nat):Int)==46)=true:=rfl;have e:Kt s=(s.take j,s.drop (j+1)):=by
    unfold Kt;rw[hx];show(match (if s[j]? = some 46 then some j else HE s j)with|none=>([],s)|some j=>(s.take j,s.drop (j+1)))=_;rw[Qnj hc]
   have hle:(0<=j/\j<=s.length)=True:=eq_true ⟨ψ,ψ⟩;have n_:(j+1<=s.length/\s.length<=s.length)=True:=eq_true ⟨ψ,Qm8 _⟩;have ht:((s.drop 0).take j)=s.take j:=ό
   have jR:((s.drop (j+1)).take (s.length-(j+1)))=s.drop (j+1):=QnL ό;simp only[w2,j1,e,JR,Jz,Xz,Qoa,Qs,QoF,hle,n_,jR,h0,h4,Qa,seval]
  ·have b0:(((c.toNat:Nat):Int)==46)=false:=by
    rw[Qo2];exact C_
   have aq:¬s[j]? = some 46:=λh=>by rw[hc]at h;cases h;exact gR rfl
   simp only[b0,j1,w1,h4,Qa,seval];exact⟨j,ψ,_,rfl,ψ,by rw[hx];show(if s[j]? = some 46 then some j else HE s j)=_;rw[Qni aq],ϗ,ω⟩
def IG (u:List UInt8):Bool:=if u=[]then false else(Qo u).any JB
def DfI (s:List UInt8)(k:Nat)(st:St):Prop :=
 ∃f u,st=⟨f,[Qb],[]⟩/\k=u.length/\u.length<=120/\(u≠[]->(Qo u).all XB=true)/\(Qo s).any JB=IG u/\f 0=.str u
def z70 (s:List UInt8):Qi prog 70 [.str s] (.bool (Yj s)):=by
 refine wF func70 ?_;simp only[eK,f70,seval];simp only[Yj,Qa,seval];refine aC (Qi0 s) ?_;cases hf:(decide (s.length<=120)&&(Qo s).all XB)
 ·exact zL
 simp only[QoW,QoX,Qa,seval];obtain⟨hl,ha⟩:=Qnc.1 hf;have hl:=of_decide_eq_true hl;have aq:s≠[]:=by
  rintro rfl;cases ha
 refine Qj (DfI s) _ ⟨_,s,rfl,rfl,hl,λ_=>ha,by unfold IG;rw[Qni aq],ω⟩ ?_;rintro _ st ⟨f,u,rfl,rfl,wN,qP,hx,h0⟩;simp only[h0,QX,Qa,seval];by_cases hu:u=[]
 ·subst hu;have b0:(!(([]:List UInt8)==[]))=false:=rfl;have e:(Qo s).any JB=false:=hx;simp only[b0,e,Qok,Qa,seval]
 ·have b0:(!(u==[]))=true:=ē
  simp only[b0,h0,Qa,seval];refine aC (Qi1 u wN) ?_;simp only[Qa,seval];refine aC (Qfz (Kt u).2) ?_;have hw:IG u=(IG (Kt u).1||JB (Kt u).2):=by
   unfold IG;rw[Qni hu];rcases Pf u with⟨h1,h2,h3⟩|⟨h1,h2⟩
   ·rw[h1,h2,Qnj rfl,Hi h3];simp
   ·have hp:Qo u=Qo (Kt u).1++[(Kt u).2]:=by
     conv=>lhs;rw[h1]
     exact NC h2
    have li:=qP hu;rw[hp,Qov,Qnz]at li;have hn:(Kt u).1≠[]:=by
     intro h;rw[h]at li;cases li.1
    rw[Qni hn,hp];simp
  cases hq:JB (Kt u).2
  ·rw[hq,Qpg]at hw;simp only[Qa,seval];have hlen:(Kt u).1.length<u.length/\((Kt u).1≠[]->(Qo (Kt u).1).all XB=true):=by
    rcases Pf u with⟨h1,h2,h3⟩|⟨h1,h2⟩
    ·rw[h1];exact⟨Qoy.2 hu,λh=>absurd rfl h⟩
    ·have hp:Qo u=Qo (Kt u).1++[(Kt u).2]:=by
      conv=>lhs;rw[h1]
      exact NC h2
     have li:=qP hu;rw[hp,Qov,Qnz]at li;refine⟨?_,λ_=>li.1⟩;have:=congrArg List.length h1;simp at this;omega
   exact⟨(Kt u).1.length,hlen.1,_,(Kt u).1,rfl,rfl,ψ,hlen.2,by rw[hx,hw],ω⟩
  ·rw[hq,Qph]at hw;have e:(Qo s).any JB=true:=hx.trans hw;simp only[e,QoX,Qa,seval]
def Zl {α:Type}{l:List α}{q:α->Bool}:(l.any λx=>!q x)=!l.all q:=by
 induction l with
 |nil=>rfl
 |cons x l ih=>simp[ih]
def QfA (s:List UInt8)(hs:s.length<=17592186044000):Qi prog 267 [.str s,.str [46]] (.list ((Qo s).map Kr)):=by
 refine wF func267 ?_;simp only[eK,f267,seval];simp only[Qa,seval];refine aC (QiZ s hs) ?_;simp only[Qa,seval]
def IfI (s:List UInt8)(k:Nat)(st:St):Prop :=
 ∃f i,st=⟨f,[Qb],[]⟩/\k=(Qo s).length-i/\((Qo s).take i).all XB=true/\f 0=.str s/\f 6=.list ((Qo s).map Kr)/\f 7=.int .i64 ((Qo s).length:Nat)/\f 8=.int .i64 (i:Nat)
def Qi2 (s:List UInt8)(hs:s.length<=17592186044000):Qi prog 265 [.str s] (.bool (decide (s.length<=120)&&(Qo s).all XB)):=by
 have hl:=Dz s;have hc:s.count 46<=s.length:=List.count_le_length;refine wF func265 ?_;simp only[eK,f265,seval];simp only[Qa,seval];refine aC (QfA s hs) ?_;simp only[Qn6,Qa,seval];refine Qj (IfI s) _ ⟨_,0,rfl,rfl,rfl,ω,ω,ω,ω⟩ ?_;rintro _ st ⟨f,i,rfl,rfl,hx,h0,h6,h7,h8⟩;simp only[h7,h8,Qa,seval];by_cases aa:i<(Qo s).length
 ·obtain⟨x,hi⟩:∃x,(Qo s)[i]? = some x:=⟨(Qo s)[i],Qnb aa⟩;have hg:((Qo s).map Kr)[i]? = some (.str x):=by simp[hi,Kr]
  have e1:=Qv i _ aa ώ;have ht:=Gw (q:=XB) hi;rw[hx,QoW]at ht;simp only[QE aa,Qs,QoF,Qg,hg,h6,h8,eE,seval];refine aC (Qfv x) ?_;cases hp:XB x
  ·have hf:(Qo s).all XB=false:=by
    rw[Qpa];intro h';rw[Qno.1 h' x (Qnp hi)]at hp;cases hp
   simp only[hf,Qok,QoY,Qa,seval]
  ·rw[hp]at ht;simp only[h8,e1,QoX,Qa,seval];exact⟨(Qo s).length-(i+1),ψ,_,i+1,rfl,rfl,ht,ϗ,Ϝ,Ϫ,ω⟩
 ·rw[QnL ψ]at hx;have e:decide ((s.length:Int)<=120)=decide (s.length<=120):=ϴ
  simp only[QM aa,h0,hx,e,Qoq,Qa,seval]
def Qhh (s:List UInt8)(m:Qk):Qf prog 268 [Kr s] m λy m1=>y=.bool (JB s)/\m1=m:=by
 refine wG func268 ?_;simp only[eK,f268,seval];simp only[Kr,QX,Qa,seval];have e:JB s=Gx.any λw=>s==w:=rfl
 simp only[Gx,List.any_cons,List.any_nil,Qpg]at e
 repeat' (first|(refine Q4 (λh=>?_) (λh=>?_)<;>simp only[h,QX,Qa,seval])|(refine Zb (λh=>?_) (λh=>?_)<;>simp only[h,Ql,QX,eE,seval])|(refine Zc (λh=>?_) (λh=>?_)<;>simp only[h,Ql,QX,eE,seval]))
 all_goals exact σ
def QfB (s:List UInt8):Qi prog 180 [.str s] (.bool (Yi s)):=by
 refine wF func180 ?_;simp only[eK,f180,seval];simp only[Yi,Qa,seval];refine aC (Qfv s) ?_;cases XB s
 ·exact ST
 ·simp only[QoW,Qa,seval];refine aC (QiU s) ?_;simp only[Qa,seval]
def QfC (s:List UInt8)(hs:s.length<=17592186044000):Qi prog 177 [.str s] (.bool (Yj s)):=by
 have hl:=Dz s;have hc:s.count 46<=s.length:=List.count_le_length;refine wF func177 ?_;simp only[eK,f177,seval];simp only[Yj,Qa,seval];refine aC (Qi2 s hs) ?_;cases hf:(decide (s.length<=120)&&(Qo s).all XB)
 ·exact ST
 ·simp only[QoW,Qa,seval];refine aC (QfA s hs) ?_;simp only[Qa,seval];refine Qh (QiO (Qo s) ώ JB 268 [] _ λo _=>Qhh o _) ύ ?_;simp only[Qa,seval]
section
variable (m:Qk)
theorem Qi3 (g:PG):Qf prog 173 [Qm g] m λy m1=>y=.bool (!Yk g)/\m1=m:=by
 refine wG func173 ?_;simp only[eK,f173,seval];have e:decide ((g.ops.length:Int) > 64)=!Yk g:=by unfold Yk;exact ϓ
 simp only[Qm,PG.cells,Qn6,e,eE,seval]
theorem Qi4 (x:PE):Qf prog 175 [QH x] m λy m1=>y=.bool (!UK x)/\m1=m:=by
 refine wG func175 ?_;simp only[eK,f175,seval];have e1:decide ((x.items.length:Int)<1)=!decide (1<=x.items.length):=ϓ;have e2:decide ((x.items.length:Int) > 64)=!decide (x.items.length<=64):=ϓ;have e3:decide ((x.free.length:Int) > 16)=!decide (x.free.length<=16):=ϓ;simp only[QH,PE.cells,Qn6,e1,UK,eE,seval];cases a1:decide (1<=x.items.length)<;>cases a2:decide (x.items.length<=64)<;>cases a3:decide (x.free.length<=16)<;>simp only[a2,a3,QoX,Qok,Qoq,QoY,Qn6,e2,e3,eE,seval]
theorem Qi5 (o:PO):Qf prog 179 [Qw o] m λy m1=>y=.bool (!Yi o.name)/\m1=m:=by
 refine wG func179 ?_;simp only[eK,f179,seval];simp only[Qw,PO.cells,eE,seval];refine aC (QfB o.name) ?_;simp only[Qa,seval]
theorem Qi6 (o:PI):Qf prog 183 [XQ o] m λy m1=>y=.bool (!Yi o.name)/\m1=m:=by
 refine wG func183 ?_;simp only[eK,f183,seval];simp only[XQ,PI.cells,eE,seval];refine aC (QfB o.name) ?_;simp only[Qa,seval]
theorem Qi7 (g:PG)(hs:g.name.length<=17592186044000)(hl:g.ops.length<=maxLen):Qf prog 176 [Qm g] m λy m1=>y=.bool (!WQ g)/\m1=m:=by
 refine wG func176 ?_;simp only[eK,f176,seval];simp only[Qm,PG.cells,WQ,eE,seval];refine aC (QfC g.name hs) ?_;cases Yj g.name
 ·exact zL
 ·simp only[QoW,QoX,eE,seval];refine Qh (Pa g.ops hl (λo=>!Yi o.name) 179 [] _ λo _=>Qi5 _ o) ύ ?_;simp only[Zl,Qa,seval]
theorem Qi8 (x:PE)(hs:x.name.length<=17592186044000)(hl:x.items.length<=maxLen):Qf prog 181 [QH x] m λy m1=>y=.bool (!HC x)/\m1=m:=by
 refine wG func181 ?_;simp only[eK,f181,seval];simp only[QH,PE.cells,HC,eE,seval];refine aC (QfC x.name hs) ?_;cases Yj x.name
 ·exact zL
 ·simp only[QoW,QoX,eE,seval];refine Qh (AB x.items hl (λo=>!Yi o.name) 183 [] _ λo _=>Qi6 _ o) ύ ?_;simp only[Zl,Qa,seval]
theorem Qi9 (x y:PG):Qf prog 185 [Qm x,Qm y] m λr m1=>r=.bool ((X3 PG.name) x y)/\m1=m:=by
 refine wG func185 ?_;simp only[eK,f185,seval];simp only[Qm,PG.cells,QX,X3,eE,seval]
theorem Qja (x y:PE):Qf prog 187 [QH x,QH y] m λr m1=>r=.bool ((X3 PE.name) x y)/\m1=m:=by
 refine wG func187 ?_;simp only[eK,f187,seval];simp only[QH,PE.cells,QX,X3,eE,seval]
theorem Qjb (x y:PO):Qf prog 190 [Qw x,Qw y] m λr m1=>r=.bool ((Wv PO.num) x y)/\m1=m:=by
 refine wG func190 ?_;simp only[eK,f190,seval];simp only[Qw,PO.cells,Wv,eE,seval]
theorem Qjc (x y:PI):Qf prog 193 [XQ x,XQ y] m λr m1=>r=.bool ((Wv PI.num) x y)/\m1=m:=by
 refine wG func193 ?_;simp only[eK,f193,seval];simp only[XQ,PI.cells,Wv,eE,seval]
theorem Qjd (g:PG)(hl:g.ops.length<=maxLen):Qf prog 188 [Qm g] m λy m1=>y=.bool (!Yl g)/\m1=m:=by
 refine wG func188 ?_;simp only[eK,f188,seval];simp only[Qm,PG.cells,Yl,eE,seval];refine Qh (QiQ g.ops hl (Wv PO.num) 190 [] _ λx _ y _=>Qjb _ x y) ύ ?_;simp only[Qa,seval]
theorem Qje (x:PE)(hl:x.items.length<=maxLen):Qf prog 191 [QH x] m λy m1=>y=.bool (!HD x)/\m1=m:=by
 refine wG func191 ?_;simp only[eK,f191,seval];simp only[QH,PE.cells,HD,eE,seval];refine Qh (QiS x.items hl (Wv PI.num) 193 [] _ λx _ y _=>Qjc _ x y) ύ ?_;simp only[Qa,seval]
end
section
variable {M:Nat}(P:PL)(hP:P.ok M)(hM:M<=17592186044000)
include hP hM
omit hM in
theorem Qjf:Qi prog 120 [P.av] (.bool (!F2 P)):=by
 have e0:P.av=.agg [.list (P.progs.map Qm),.list (P.enums.map QH)]:=rfl;have e1:decide ((if (P.progs.length:Int)<(P.enums.length:Int)then(P.enums.length:Int)else(P.progs.length:Int)) > 64)=!(decide (P.progs.length<=64)&&decide (P.enums.length<=64)):=by
  rw[Bool.not_and];split<;>exact(by rw[Qn5];simp only[Qnf,Qn9,Qpf,Qne];omega)
 refine wF func120 ?_;simp only[eK,f120,seval];simp only[e0,Qn6,e1,F2,eE,seval];cases(decide (P.progs.length<=64)&&decide (P.enums.length<=64))
 ·exact zM
 simp only[QoX,QoW,eE,seval];refine Qh (VD P.progs hP.len1 (λg=>!Yk g) 173 [] _ λo _=>Qi3 _ o) ύ ?_;simp only[Zl,Qa,seval];cases P.progs.all Yk
 ·exact zM
 simp only[QoX,QoW,eE,seval];refine Qh (Bo P.enums hP.len2 (λg=>!UK g) 175 [] _ λo _=>Qi4 _ o) ύ ?_;simp only[Zl,Qa,seval]
omit hM in
theorem Qhi (sG:∀g∈P.progs,g.name.length<=17592186044000)(tA:∀g∈P.enums,g.name.length<=17592186044000):Qi prog 121 [P.av] (.bool (!ND P)):=by
 have e0:P.av=.agg [.list (P.progs.map Qm),.list (P.enums.map QH)]:=rfl;refine wF func121 ?_;simp only[eK,f121,seval];simp only[e0,ND,eE,seval];refine Qh (VD P.progs hP.len1 (λg=>!WQ g) 176 [] _ λo ho=>Qi7 _ o (sG o ho) (hP.progs o ho).len) ύ ?_;simp only[Zl,Qa,seval];cases P.progs.all WQ
 ·exact zM
 simp only[QoX,QoW,eE,seval];refine Qh (Bo P.enums hP.len2 (λg=>!HC g) 181 [] _ λo ho=>Qi8 _ o (tA o ho) (hP.enums o ho).len1) ύ ?_;simp only[Zl,Qa,seval]
omit hM in
theorem Qjg:Qi prog 122 [P.av] (.bool (!DA P)):=by
 have e0:P.av=.agg [.list (P.progs.map Qm),.list (P.enums.map QH)]:=rfl;refine wF func122 ?_;simp only[eK,f122,seval];simp only[e0,DA,eE,seval];refine Qh (QiP P.progs hP.len1 (X3 PG.name) 185 [] _ λx _ y _=>Qi9 _ x y) ύ ?_;simp only[Qa,seval];cases JM P.progs (X3 PG.name)
 ·exact zM
 simp only[QoX,QoW,eE,seval];refine Qh (QiR P.enums hP.len2 (X3 PE.name) 187 [] _ λx _ y _=>Qja _ x y) ύ ?_;simp only[Qa,seval];cases JM P.enums (X3 PE.name)
 ·exact zM
 simp only[QoX,QoW,eE,seval];refine Qh (VD P.progs hP.len1 (λg=>!Yl g) 188 [] _ λo ho=>Qjd _ o (hP.progs o ho).len) ύ ?_;simp only[Zl,Qa,seval];cases P.progs.all Yl
 ·exact zM
 simp only[QoX,QoW,eE,seval];refine Qh (Bo P.enums hP.len2 (λg=>!HD g) 191 [] _ λo ho=>Qje _ o (hP.enums o ho).len1) ύ ?_;simp only[Zl,Qa,seval]
end
def Qb6 (n c:Nat):AV.shN n (.fn (.func c) [] [])=.fn (.func c) [] []:=by
 induction n with
 |zero=>rfl
 |succ n ih=>rw[AV.shN,ih];rfl
def Qjh (nm:PO->List UInt8)(c:Nat)(hn:∀x,Qi prog c [Qw x] (.str (nm x)))(y x:PO)(fr:Nat->Ob)(m:Qk)(h3:fr 3=.cells [.fn (.func c) [] []])(h6:fr 6=.cells x.cells) :
  Qf prog 271 [Qw y,.ptr 3 3 0,.ptr 3 6 0] (Qb :: Qb :: Qb :: fr :: m) λr m1=>r=.bool (nm y==nm x)/\m1=Qb :: Qb :: Qb :: fr :: m:=by
 have hy:=hn y;have hx:=hn x;have g3:∀n,AV.shN n (.fn (.func c) [] [])=.fn (.func c) [] []:=λn=>Qb6 n c
 simp only[Qw,PO.cells]at hy hx h6;refine wG func271 ?_;simp only[eK,f271,seval];simp only[Qw,PO.cells,h3,g3,eE,seval];exact Z_
section
variable (L:List PO)(hl:L.length<=maxLen)(nm:PO->List UInt8)(c:Nat)(m:Qk)
def ReO (k:Nat)(st:St):Prop :=
 ∃f fr i,st=⟨f,fr :: m,[]⟩/\k=L.length-i/\Qu (uniq L nm) i=true/\f 0=.list (L.map Qw)/\f 3=.ptr 0 3 0/\f 7=.list (L.map Qw)/\f 8=.int .i64 (L.length:Nat)/\f 9=.int .i64 (i:Nat)/\fr 3=.cells [.fn (.func c) [] []]/\∀s∈[6],(fr s).isRow=false
include hl in
theorem Qji (hn:∀x,Qi prog c [Qw x] (.str (nm x))) :
  Qf prog 196 [.list (L.map Qw),.fn (.func c) [] []] m λy m1=>y=.bool (!UJ L nm)/\m1=m:=by
 refine wG func196 ?_;simp only[eK,f196,seval];simp only[Qn6,eE,seval];refine Qj (ReO L nm c m) _ ⟨_,_,0,rfl,rfl,rfl,ω,ω,ω,ω,ω,ω,ϛ⟩ ?_;rintro _ st ⟨f0,bA,i,rfl,rfl,hx,ig,ax,cO,bF,de,bM,r6⟩;refine QR (a:=_) [6] r6 ?_;intro f fr hf hm gg;have h0:f 0=.list (L.map Qw):=ě
 have h3:f 3=.ptr 0 3 0:=Ϥ
 have h7:f 7=.list (L.map Qw):=Τ
 have h8:f 8=.int .i64 (L.length:Nat):=Η
 have h9:f 9=.int .i64 (i:Nat):=Ê
 have m3:fr 3=.cells [.fn (.func c) [] []]:=Ϩ
 have n6:=gg 6 ϊ;clear hf hm gg ig ax cO bF de bM r6;simp only[h8,h9,Qa,seval];by_cases aa:i<L.length
 ·obtain⟨x,hi⟩:∃x,L[i]? = some x:=⟨L[i],Qnb aa⟩;have hg:(L.map Qw)[i]? = some (Qw x):=ĭ
  have e1:=Qv i _ aa hl;have hle:(i<=L.length)=True:=eq_true ψ;have ht:((L.map Qw).drop 0).take (i-0)=(L.take i).map Qw:=ό
  have ah:Qu (uniq L nm) (i+1)=!(L.take i).any λy=>nm y==nm x:=by
   rw[Qu,hx,QoW,Fs hi,VB]
  have aM:=λ(fr:Nat->Ob) (h3:fr 3=.cells [.fn (.func c) [] []]) (h6:fr 6=.cells x.cells)=>Pa (L.take i) Ϗ (λy=>nm y==nm x) 271 [.ptr 0 3 0,.ptr 0 6 0] (fr :: m) λy _=>Qjh nm c hn y x fr m h3 h6
  simp only[QE aa,Qs,QoF,Qg,hg,Qw,PO.cells,n6,h0,h7,h9,JR,Jz,Xz,QoS,Qn6,Qnk,Qm8,hle,true_or,Qoa,<-List.map_take,eE,seval];exact zi
 ·exact OV
end
def Qjj (nm:PI->List UInt8)(c:Nat)(hn:∀x,Qi prog c [XQ x] (.str (nm x)))(y x:PI)(fr:Nat->Ob)(m:Qk)(h3:fr 3=.cells [.fn (.func c) [] []])(h6:fr 6=.cells x.cells) :
  Qf prog 272 [XQ y,.ptr 3 3 0,.ptr 3 6 0] (Qb :: Qb :: Qb :: fr :: m) λr m1=>r=.bool (nm y==nm x)/\m1=Qb :: Qb :: Qb :: fr :: m:=by
 have hy:=hn y;have hx:=hn x;have g3:∀n,AV.shN n (.fn (.func c) [] [])=.fn (.func c) [] []:=λn=>Qb6 n c
 simp only[XQ,PI.cells]at hy hx h6;refine wG func272 ?_;simp only[eK,f272,seval];simp only[XQ,PI.cells,h3,g3,eE,seval];exact Z_
section
variable (L:List PI)(hl:L.length<=maxLen)(nm:PI->List UInt8)(c:Nat)(m:Qk)
def ReI (k:Nat)(st:St):Prop :=
 ∃f fr i,st=⟨f,fr :: m,[]⟩/\k=L.length-i/\Qu (uniq L nm) i=true/\f 0=.list (L.map XQ)/\f 3=.ptr 0 3 0/\f 7=.list (L.map XQ)/\f 8=.int .i64 (L.length:Nat)/\f 9=.int .i64 (i:Nat)/\fr 3=.cells [.fn (.func c) [] []]/\∀s∈[6],(fr s).isRow=false
include hl in
theorem Qjk (hn:∀x,Qi prog c [XQ x] (.str (nm x))) :
  Qf prog 199 [.list (L.map XQ),.fn (.func c) [] []] m λy m1=>y=.bool (!UJ L nm)/\m1=m:=by
 refine wG func199 ?_;simp only[eK,f199,seval];simp only[Qn6,eE,seval];refine Qj (ReI L nm c m) _ ⟨_,_,0,rfl,rfl,rfl,ω,ω,ω,ω,ω,ω,ϛ⟩ ?_;rintro _ st ⟨f0,bA,i,rfl,rfl,hx,ig,ax,cO,bF,de,bM,r6⟩;refine QR (a:=_) [6] r6 ?_;intro f fr hf hm gg;have h0:f 0=.list (L.map XQ):=ě
 have h3:f 3=.ptr 0 3 0:=Ϥ
 have h7:f 7=.list (L.map XQ):=Τ
 have h8:f 8=.int .i64 (L.length:Nat):=Η
 have h9:f 9=.int .i64 (i:Nat):=Ê
 have m3:fr 3=.cells [.fn (.func c) [] []]:=Ϩ
 have n6:=gg 6 ϊ;clear hf hm gg ig ax cO bF de bM r6;simp only[h8,h9,Qa,seval];by_cases aa:i<L.length
 ·obtain⟨x,hi⟩:∃x,L[i]? = some x:=⟨L[i],Qnb aa⟩;have hg:(L.map XQ)[i]? = some (XQ x):=ĭ
  have e1:=Qv i _ aa hl;have hle:(i<=L.length)=True:=eq_true ψ;have ht:((L.map XQ).drop 0).take (i-0)=(L.take i).map XQ:=ό
  have ah:Qu (uniq L nm) (i+1)=!(L.take i).any λy=>nm y==nm x:=by
   rw[Qu,hx,QoW,Fs hi,VB]
  have aM:=λ(fr:Nat->Ob) (h3:fr 3=.cells [.fn (.func c) [] []]) (h6:fr 6=.cells x.cells)=>AB (L.take i) Ϗ (λy=>nm y==nm x) 272 [.ptr 0 3 0,.ptr 0 6 0] (fr :: m) λy _=>Qjj nm c hn y x fr m h3 h6
  simp only[QE aa,Qs,QoF,Qg,hg,XQ,PI.cells,n6,h0,h7,h9,JR,Jz,Xz,QoS,Qn6,Qnk,Qm8,hle,true_or,Qoa,<-List.map_take,eE,seval];exact zi
 ·exact OV
end
def Qjl (o:PO):Qi prog 197 [Qw o] (.str o.name):=by
 refine wF func197 ?_;simp only[eK,f197,seval];simp only[Qw,PO.cells,eE,seval]
def Qjm (o:PI):Qi prog 200 [XQ o] (.str o.name):=by
 refine wF func200 ?_;simp only[eK,f200,seval];simp only[XQ,PI.cells,eE,seval]
def Qjn (x:PE)(g:PG)(fr:Nat->Ob)(m:Qk)(h2:fr 2=.cells g.cells):Qf prog 195 [QH x,.ptr 3 2 0] (Qb :: Qb :: Qb :: fr :: m) λy m1=>y=.bool (x.name==g.name)/\m1=Qb :: Qb :: Qb :: fr :: m:=by
 simp only[PG.cells]at h2;refine wG func195 ?_;simp only[eK,f195,seval];simp only[QH,PE.cells,h2,QX,eE,seval]
def Qjo (x:PE)(hl:x.items.length<=maxLen)(m:Qk):Qf prog 198 [QH x] m λy m1=>y=.bool (!Gy x)/\m1=m:=by
 refine wG func198 ?_;simp only[eK,f198,seval];simp only[QH,PE.cells,Gy,eE,seval];refine Qh (Qjk x.items hl PI.name 200 _ Qjm) ύ ?_;simp only[Qa,seval]
section
variable {M:Nat}(P:PL)(hP:P.ok M)
include hP
theorem Qjp (g:PG)(hl:g.ops.length<=maxLen)(fr:Nat->Ob)(h1:fr 1=.cells [.list (P.progs.map Qm),.list (P.enums.map QH)]) :
  Qf prog 194 [Qm g,.ptr 3 1 0] [Qb,Qb,Qb,fr] λy m1=>y=.bool (!K9 P g)/\m1=[Qb,Qb,Qb,fr]:=by
 have e:K9 P g=(!(P.enums.any λe=>e.name==g.name)&&UJ g.ops PO.name):=by rw[K9,VB]
 refine wG func194 ?_;simp only[eK,f194,seval];simp only[Qm,PG.cells,h1,e,eE,seval];refine Qh (Bo P.enums hP.len2 (λe=>e.name==g.name) 195 [.ptr 0 2 0] _ λo _=>Qjn o g _ _ ω) ύ ?_;cases P.enums.any λe=>e.name==g.name
 ·simp only[Qok,QoW,eE,seval];refine Qh (Qji g.ops hl PO.name 197 _ Qjl) ύ ?_;simp only[Qa,seval]
 ·simp only[QoX,QoJ,Qok,Qa,seval]
theorem Qjq:Qi prog 123 [P.av] (.bool (!M9 P)):=by
 have e0:P.av=.agg [.list (P.progs.map Qm),.list (P.enums.map QH)]:=rfl;refine wF func123 ?_;simp only[eK,f123,seval];simp only[e0,M9,eE,seval];refine Qh (VD P.progs hP.len1 (λg=>!K9 P g) 194 [.ptr 0 1 0] _ λo ho=>Qjp P hP o (hP.progs o ho).len _ ω) ύ ?_;simp only[Zl,Qa,seval];cases P.progs.all (K9 P)
 ·exact zM
 simp only[QoX,QoW,eE,seval];refine Qh (Bo P.enums hP.len2 (λg=>!Gy g) 198 [] _ λo ho=>Qjo o (hP.enums o ho).len1 _) ύ ?_;simp only[Zl,Qa,seval]
end
def Qjr (x:PS)(n:Int)(fr:Nat->Ob)(m:Qk)(h3:fr 3=.cells [.int .i64 n]):Qf prog 320 [J3 x,.ptr 2 3 0] (Qb :: Qb :: fr :: m) λy m1=>y=.bool (decide (x.lo<=n)&&decide (n<=x.hi))/\m1=Qb :: Qb :: fr :: m:=by
 refine wG func320 ?_;simp only[eK,f320,seval];simp only[J3,PS.cells,h3,eE,seval];cases h:decide (x.lo<=n)<;>simp only[h3,QoW,QoJ,eE,seval]
def Qjs (L:List PS)(hl:L.length<=maxLen)(n:Int):Qi prog 274 [.list (L.map J3),.int .i64 n] (.bool (kept L n)):=by
 refine wF func274 ?_;simp only[eK,f274,seval];simp only[eE,seval];refine Qh (QiM L hl (λx=>decide (x.lo<=n)&&decide (n<=x.hi)) 320 [.ptr 0 3 0] _ λo _=>Qjr o n _ _ ω) ύ ?_;simp only[kept,Qa,seval]
def Qjt (o:PO)(m:Qk):Qf prog 202 [Qw o] m λy m1=>y=.bool (!KU o)/\m1=m:=by
 refine wG func202 ?_;simp only[eK,f202,seval];have e1:decide (o.num<1)=!decide (o.num>=1):=ϓ;have e2:decide (o.num > 65535)=!decide (o.num<=65535):=ϓ;simp only[Qw,PO.cells,KU,e1,eE,seval];cases decide (o.num>=1)<;>simp only[QoX,Qok,QoW,QoJ,e2,eE,seval]
def Qju (g:PG)(hl:g.ops.length<=maxLen)(m:Qk):Qf prog 201 [Qm g] m λy m1=>y=.bool (!g.ops.all KU)/\m1=m:=by
 refine wG func201 ?_;simp only[eK,f201,seval];simp only[Qm,PG.cells,eE,seval];refine Qh (Pa g.ops hl (λo=>!KU o) 202 [] _ λo _=>Qjt o _) ύ ?_;simp only[Zl,Qa,seval]
def Qjv (o:PI)(x:PE)(hl:x.free.length<=maxLen)(fr:Nat->Ob)(m:Qk)(h1:fr 1=.cells x.cells):Qf prog 273 [XQ o,.ptr 3 1 0] (Qb :: Qb :: Qb :: fr :: m) λy m1=>y=.bool (!UL x o)/\m1=Qb :: Qb :: Qb :: fr :: m:=by
 have hr:Qi prog 274 [.list (x.free.map λn=>AV.agg n.cells),.int .i64 o.num] (.bool (kept x.free o.num)):=Qjs x.free hl o.num;simp only[PE.cells]at h1;refine wG func273 ?_;simp only[eK,f273,seval];have e2:decide (o.num > 2147483647)=!decide (o.num<=2147483647):=ϓ;simp only[XQ,PI.cells,UL,e2,eE,seval];cases decide (o.num<=2147483647)
 ·exact zM
 ·simp only[QoX,QoW,h1,eE,seval];refine aC hr ?_;simp only[Bool.not_not,Qa,seval]
def Hk (l:List PS)(i:Nat):Bool:=Xr l Ck i&&ZE l NE i
def SH (l:List PS):Qu (Hk l) l.length=(l.all Ck&&JM l NE):=by
 unfold Hk JM;rw[Bn,Gv]
def OuI (x:PE)(m:Qk)(k:Nat)(st:St):Prop :=
 ∃f fr i,st=⟨f,fr :: m,[]⟩/\k=x.free.length-i/\Qu (Hk x.free) i=true/\f 1=.ptr 0 1 0/\f 6=.list (x.free.map J3)/\f 7=.int .i64 (x.free.length:Nat)/\f 8=.int .i64 (i:Nat)/\fr 1=.cells x.cells/\∀s∈[4],(fr s).isRow=false
def Qjw (x:PE)(h0:x.items≠[])(aQ:x.items.length<=maxLen)(hl:x.free.length<=maxLen)(m:Qk):Qf prog 203 [QH x] m λy m1=>y=.bool (!UM x)/\m1=m:=by
 have dc:=SH x.free;have z1:Int.toNat 0=0:=rfl;have z0:(0<=(0:Int))=True:=ό
 refine wG func203 ?_;simp only[eK,f203,seval];simp only[QH,PE.cells,Qn6,eE,seval];refine Qj (OuI x m) _ ⟨_,_,0,rfl,rfl,rfl,ω,ω,ω,ω,ω,ϛ⟩ ?_;rintro _ st ⟨f0,bA,i,rfl,rfl,hx,am,bX,cO,bF,m10,r4⟩;refine QR (a:=_) [4] r4 ?_;intro f fr hf hm vH;have h1:f 1=.ptr 0 1 0:=À
 have h6:f 6=.list (x.free.map J3):=Κ
 have h7:f 7=.int .i64 (x.free.length:Nat):=Τ
 have h8:f 8=.int .i64 (i:Nat):=Η
 have m1:fr 1=.cells x.cells:=Ā
 have n4:=vH 4 ϊ;clear hf hm vH am bX cO bF m10 r4;simp only[PE.cells]at m1;simp only[h7,h8,Qa,seval];by_cases aa:i<x.free.length
 ·obtain⟨y,hi⟩:∃y,x.free[i]? = some y:=⟨x.free[i],Qnb aa⟩;have hg:(x.free.map J3)[i]? = some (J3 y):=ĭ
  have e1:=Qv i _ aa hl;have ah:Qu (Hk x.free) (i+1)=(Ck y&&ZE x.free NE i):=by
   rw[Qu,hx,QoW,Hk,X0 hi]
  have fG:Qu (Hk x.free) (i+1)=false->UM x=false:=by
   intro h;unfold UM;rw[<-dc];have:Qu (Hk x.free) x.free.length=false:=by
    rw[Qpa];intro h';rw[Q7.2 λk hk=>Q7.1 h' k ψ]at h;cases h
   rw[this];rfl
  have fin:∀(f':Fr) (ag:Nat->Ob),Qu (Hk x.free) (i+1)=true->f' 1=.ptr 0 1 0->f' 6=.list (x.free.map J3)->f' 7=.int .i64 (x.free.length:Nat)->f' 8=.int .i64 ((i+1:Nat):Int)->ag 1=.cells x.cells->(∀s∈[4],(ag s).isRow=false)->∃k,k<x.free.length-i/\OuI x m k ⟨f',ag :: m,[]⟩:=by
   intro f' ag a b c d e g h;exact⟨x.free.length-(i+1),ψ,f',ag,i+1,rfl,rfl,a,b,c,d,e,g,h⟩
  have s1:Ck y=(!decide (y.lo<0) && !decide (y.hi > 2147483647) && !decide (y.hi<y.lo)):=by
   unfold Ck;exact(by rw[Qn5];simp only[Qnf,Qn9,Qpf,Qnz];omega)
  rw[s1]at ah;simp only[QE aa,Qs,QoF,Qg,hg,J3,PS.cells,n4,h6,h8,eE,seval];cases a1:decide (y.lo<0)
  case true=>
   rw[a1,QoX,QoJ,QoJ,QoJ]at ah;simp only[fG ah,Qok,Qa,seval]
  cases a2:decide (y.hi > 2147483647)
  case true=>
   rw[a1,a2,QoX,QoY,QoJ,QoJ]at ah;simp only[a2,fG ah,Qok,eE,seval]
  cases a3:decide (y.hi<y.lo)
  case true=>
   rw[a1,a2,a3,QoX,QoY,QoJ]at ah;simp only[a2,a3,fG ah,Qok,eE,seval]
  rw[a1,a2,a3]at ah;simp only[Qok,QoW]at ah;cases i with
  |zero=>
   have d0:decide (((0:Nat):Int) > 0)=false:=rfl;rw[QaH]at ah;simp only[a2,a3,h8,eE,seval];exact OK
  |succ j=>
   have d0:decide (((j+1:Nat):Int) > 0)=true:=Qpe ψ;obtain⟨z,hj⟩:∃z,x.free[j]? = some z:=⟨x.free[j]' ψ,Qnb ψ⟩;have g8:(x.free.map λn=>AV.agg n.cells)[j]? = some (.agg z.cells):=by simp[hj]
   simp only[PS.cells]at g8;rw[Yh hj hi]at ah;have w:=DE j _ aa hl;have s2:NE z y=!decide (y.lo<=z.hi):=by unfold NE;exact ϓ
   rw[s2]at ah;simp only[a2,a3,d0,w,Qs,QoF,Qg,g8,PS.cells,h1,m1,eE,seval];cases a4:decide (y.lo<=z.hi)
   ·rw[a4]at ah;simp only[h8,e1,Qa,seval];exact OK
   ·rw[a4]at ah;simp only[fG ah,Qok,Qa,seval]
 ·have nJ:Qu (Hk x.free) x.free.length=true:=Q7.2 λk hk=>Q7.1 hx k ψ
  obtain⟨it,its,po⟩:∃it its,x.items=it :: its:=by
   cases h:x.items with
   |nil=>exact absurd h h0
   |cons a b=>exact⟨a,b,rfl⟩
  have hr:UM x=(it.num==0&&x.items.all (UL x)):=by
   unfold UM;rw[<-dc,nJ,QoW,Gz,po]
  have vL:(x.items.map λn=>AV.agg n.cells)[0]? = some (.agg it.cells):=by simp[po]
  have aq:(it.num != 0)=!(it.num==0):=rfl;simp only[PI.cells]at vL;simp only[QM aa,Qg,z0,z1,vL,PI.cells,hr,aq,Qnq,Qn7,h1,m1,eE,seval];cases it.num==0
  ·exact zM
  ·simp only[QoX,QoW,m1,h1,eE,seval];refine Qh (AB x.items aQ (λo=>!UL x o) 273 [.ptr 0 1 0] _ λo _=>Qjv o x hl _ _ Č) (by simp only[QnJ,Qod,h1,Qa,seval]<;>rfl) ?_;simp only[Zl,Qa,seval]
def Qjx {M:Nat}(P:PL)(hP:P.ok M)(hi:∀e∈P.enums,e.items≠[]):Qi prog 124 [P.av] (.bool (!NF P)):=by
 have e0:P.av=.agg [.list (P.progs.map Qm),.list (P.enums.map QH)]:=rfl;refine wF func124 ?_;simp only[eK,f124,seval];simp only[e0,NF,eE,seval];refine Qh (VD P.progs hP.len1 (λg=>!g.ops.all KU) 201 [] _ λo ho=>Qju o (hP.progs o ho).len _) ύ ?_;simp only[Zl,Qa,seval];cases P.progs.all λg=>g.ops.all KU
 ·exact zM
 simp only[QoX,QoW,eE,seval];refine Qh (Bo P.enums hP.len2 (λg=>!UM g) 203 [] _ λo ho=>Qjw o (hi o ho) (hP.enums o ho).len1 (hP.enums o ho).len2 _) ύ ?_;simp only[Zl,Qa,seval]
end Va
namespace Va
open Go Am Rc Bt
def bt (s:List UInt8)(i lo hi:Nat):Bool :=
 match s[i]? with
 |some b=>decide (lo<=b.toNat)&&decide (b.toNat<=hi)
 |none=>false
def tl (s:List UInt8):Nat->Nat->Bool
 |_,0=>true
 |i,n+1=>bt s i 128 191&&tl s (i+1) n
def Cm (s:List UInt8)(i b:Nat):Nat :=
 if b<128 then 1
 else if 194<=b/\b<=223/\tl s (i+1) 1=true then 2
 else if b=224/\bt s (i+1) 160 191=true/\tl s (i+2) 1=true then 3
 else if b=237/\bt s (i+1) 128 159=true/\tl s (i+2) 1=true then 3
 else if 225<=b/\b<=239/\b≠237/\tl s (i+1) 2=true then 3
 else if b=240/\bt s (i+1) 144 191=true/\tl s (i+2) 2=true then 4
 else if 241<=b/\b<=243/\tl s (i+1) 3=true then 4
 else if b=244/\bt s (i+1) 128 143=true/\tl s (i+2) 2=true then 4
 else 0
def sz (s:List UInt8)(i:Nat):Nat :=
 match s[i]? with
 |none=>0
 |some c=>Cm s i c.toNat
def Hl (s:List UInt8):Nat->Nat->Int
 |0,_=>-1
 |k+1,i=>if i<s.length then(if sz s i=0 then(i:Int)else Hl s k (i+sz s i))else -1
def Hm (s:List UInt8):Bool:=decide (Hl s s.length 0<0)
def Qjy (c:UInt8)(n:Nat):decide ((c.toNat:Int)>=(n:Int))=decide (n<=c.toNat):=ό
def Qjz (c:UInt8)(n:Nat):decide ((c.toNat:Int)<=(n:Int))=decide (c.toNat<=n):=ό
def Ph (s:List UInt8)(i lo hi:Nat):Qi prog 314 [.str s,.int .i64 (i:Nat),.int .u8 (lo:Nat),.int .u8 (hi:Nat)] (.bool (bt s i lo hi)):=by
 refine wF func314 ?_;simp only[eK,f314,seval];by_cases aa:i<s.length
 ·obtain⟨c,hc⟩:∃c,s[i]? = some c:=⟨s[i],Qnb aa⟩;have hb:bt s i lo hi=(decide (lo<=c.toNat)&&decide (c.toNat<=hi)):=by simp only[bt,hc]
  simp only[QE aa,Qs,QoF,hc,Qjy,Qa,seval];by_cases h1:lo<=c.toNat
  ·have d1:decide (lo<=c.toNat)=true:=Ϭ
   simp only[d1,Qs,QoF,hc,hb,Qjz,QoW,Qa,seval]
  ·have d1:decide (lo<=c.toNat)=false:=Ϭ
   simp only[d1,hb,QoJ,Qa,seval]
 ·have hb:bt s i lo hi=false:=by simp only[bt,QoB (Nat.le_of_not_lt aa)]
  simp only[QM aa,hb,Qa,seval]
def Qhj (s:List UInt8)(i n:Nat)(k:Nat)(st:St):Prop :=
 ∃f j,st=⟨f,[Qb],[]⟩/\k=n-j/\j<=n/\tl s i n=tl s (i+j) (n-j)/\f 0=.str s/\f 1=.int .i64 (i:Nat)/\f 2=.int .i64 (n:Nat)/\f 7=.int .i64 (j:Nat)
def Ww (a b:Nat)(h:a+b<=maxLen):IntKind.i64.wrap ((a:Int)+(b:Int))=((a+b:Nat):Int):=by
 simp only[maxLen]at h;rw[QD];omega
def Bp (s:List UInt8)(i n:Nat)(hi:i+n<=maxLen):Qi prog 313 [.str s,.int .i64 (i:Nat),.int .i64 (n:Nat)] (.bool (tl s i n)):=by
 refine wF func313 ?_;simp only[eK,f313,seval];simp only[Qa,seval];refine Qj (Qhj s i n) _ ⟨_,0,rfl,rfl,Qnk _,rfl,rfl,rfl,rfl,rfl⟩ ?_;rintro _ st ⟨f,j,rfl,rfl,hj,ht,h0,h1,h2,h7⟩;simp only[h2,h7,Qa,seval];by_cases aa:j<n
 ·have e0:=Ww i j ψ;have e1:=Qv j _ aa ψ;simp only[QE aa,h0,h1,h7,e0,Qa,seval];refine aC (Ph s (i+j) 128 191) ?_;have hs:tl s i n=(bt s (i+j) 128 191&&tl s (i+(j+1)) (n-(j+1))):=by
   rw[ht];obtain⟨m,hm⟩:∃m,n-j=m+1:=⟨n-j-1,ψ⟩;rw[hm,show n-(j+1)=m by omega];rfl
  cases hb:bt s (i+j) 128 191
  ·rw[hb]at hs;simp only[hs,QoJ,Qa,seval]
  ·rw[hb,QoW]at hs;simp only[h7,e1,Qa,seval];exact⟨n-(j+1),ψ,_,j+1,rfl,rfl,ψ,hs,ϗ,ϕ,Υ,ω⟩
 ·have hs:tl s i n=true:=by
   rw[ht,show n-j=0 by omega];rfl
  simp only[QM aa,hs,Qa,seval]
def Pi (s:List UInt8)(i:Nat)(c:UInt8)(D:Nat)(cond:Prop)(g:List Am.Item):Prop :=
 ∀Q:St->Prop,(∀f' B,(B=true↔cond)->f' 0=.str s->f' 1=.int .i64 (i:Nat)->f' 5=.int .u8 (c.toNat:Nat)->f' D=.bool B->Q ⟨f',[Qb],[]⟩)->
  ∀f,f 0=.str s->f 1=.int .i64 (i:Nat)->f 5=.int .u8 (c.toNat:Nat)->QF prog g ⟨f,[Qb],[]⟩ Q
section
variable {s:List UInt8}{i:Nat}{c:UInt8}(hi:i<s.length)(hs:s.length+8<=maxLen)
include hi hs
theorem QjA:Pi s i c 12 (194<=c.toNat/\c.toNat<=223/\tl s (i+1) 1=true) MV:=by
 intro Q hQ f h0 h1 h5;have e1:IntKind.i64.wrap ((i:Int)+1)=((i+1:Nat):Int):=Ww i 1 ψ;have e2:IntKind.i64.wrap ((i:Int)+2)=((i+2:Nat):Int):=Ww i 2 ψ;simp only[MV,h5,Qa,seval]
 repeat' (first|(refine Q4 (λh=>?_) (λh=>?_)<;>simp only[h,h0,h1,h5,e1,e2,eE,seval])|(refine Zb (λh=>?_) (λh=>?_)<;>simp only[h,Ql,h0,h1,h5,e1,Qa,seval])|(refine Zc (λh=>?_) (λh=>?_)<;>simp only[h,Ql,h0,h1,h5,e1,e2,eE,seval])|((with_reducible apply Zr (k:=313));(case hy=>rfl);(case h1=>rfl);(case hk=>exact Bp s (i+1) 1 ψ);(case h2=>rfl);(case h3=>first|exact .inl rfl|exact .inr rfl);simp only[Qa,seval]))
 all_goals(refine hQ _ _ ?_ ϗ ϕ Ϛ rfl)
 all_goals simp only[Qnf,Qpf]at *
 all_goals exact z9
theorem QjB:Pi s i c 25 (c.toNat=224/\bt s (i+1) 160 191=true/\tl s (i+2) 1=true) MX:=by
 intro Q hQ f h0 h1 h5;have e1:IntKind.i64.wrap ((i:Int)+1)=((i+1:Nat):Int):=Ww i 1 ψ;have e2:IntKind.i64.wrap ((i:Int)+2)=((i+2:Nat):Int):=Ww i 2 ψ;simp only[MX,h5,Qa,seval]
 repeat' (first|(refine Q4 (λh=>?_) (λh=>?_)<;>simp only[h,h0,h1,h5,e1,e2,eE,seval])|(refine Zb (λh=>?_) (λh=>?_)<;>simp only[h,Ql,h0,h1,e1,e2,Qa,seval])|(refine Zc (λh=>?_) (λh=>?_)<;>simp only[h,Ql,h0,h1,h5,e1,e2,eE,seval])|((with_reducible apply Zr (k:=314));(case hy=>rfl);(case h1=>rfl);(case hk=>exact Ph s (i+1) 160 191);(case h2=>rfl);(case h3=>first|exact .inl rfl|exact .inr rfl);simp only[Qa,seval])|((with_reducible apply Zr (k:=313));(case hy=>rfl);(case h1=>rfl);(case hk=>exact Bp s (i+2) 1 ψ);(case h2=>rfl);(case h3=>first|exact .inl rfl|exact .inr rfl);simp only[Qa,seval]))
 all_goals(refine hQ _ _ ?_ ϗ ϕ Ϛ rfl)
 all_goals simp only[Qng,Qo2,ne_eq]at *
 all_goals exact z9
theorem QjC:Pi s i c 40 (c.toNat=237/\bt s (i+1) 128 159=true/\tl s (i+2) 1=true) MY:=by
 intro Q hQ f h0 h1 h5;have e1:IntKind.i64.wrap ((i:Int)+1)=((i+1:Nat):Int):=Ww i 1 ψ;have e2:IntKind.i64.wrap ((i:Int)+2)=((i+2:Nat):Int):=Ww i 2 ψ;simp only[MY,h5,Qa,seval]
 repeat' (first|(refine Q4 (λh=>?_) (λh=>?_)<;>simp only[h,h0,h1,h5,e1,e2,eE,seval])|(refine Zb (λh=>?_) (λh=>?_)<;>simp only[h,Ql,h0,h1,e1,e2,Qa,seval])|(refine Zc (λh=>?_) (λh=>?_)<;>simp only[h,Ql,h0,h1,h5,e1,e2,eE,seval])|((with_reducible apply Zr (k:=314));(case hy=>rfl);(case h1=>rfl);(case hk=>exact Ph s (i+1) 128 159);(case h2=>rfl);(case h3=>first|exact .inl rfl|exact .inr rfl);simp only[Qa,seval])|((with_reducible apply Zr (k:=313));(case hy=>rfl);(case h1=>rfl);(case hk=>exact Bp s (i+2) 1 ψ);(case h2=>rfl);(case h3=>first|exact .inl rfl|exact .inr rfl);simp only[Qa,seval]))
 all_goals(refine hQ _ _ ?_ ϗ ϕ Ϛ rfl)
 all_goals simp only[Qng,Qo2,ne_eq]at *
 all_goals exact z9
theorem Qhk:Pi s i c 55 (225<=c.toNat/\c.toNat<=239/\c.toNat≠237/\tl s (i+1) 2=true) Vu:=by
 intro Q hQ f h0 h1 h5;have e1:IntKind.i64.wrap ((i:Int)+1)=((i+1:Nat):Int):=Ww i 1 ψ;have e2:IntKind.i64.wrap ((i:Int)+2)=((i+2:Nat):Int):=Ww i 2 ψ;simp only[Vu,h5,Qa,seval]
 repeat' (first|(refine Q4 (λh=>?_) (λh=>?_)<;>simp only[h,h0,h1,h5,e1,e2,eE,seval])|(refine Zb (λh=>?_) (λh=>?_)<;>simp only[h,Ql,h0,h1,h5,e1,Qa,seval])|(refine Zc (λh=>?_) (λh=>?_)<;>simp only[h,Ql,h0,h1,h5,e1,e2,eE,seval])|((with_reducible apply Zr (k:=313));(case hy=>rfl);(case h1=>rfl);(case hk=>exact Bp s (i+1) 2 ψ);(case h2=>rfl);(case h3=>first|exact .inl rfl|exact .inr rfl);simp only[Qa,seval]))
 all_goals(refine hQ _ _ ?_ ϗ ϕ Ϛ rfl)
 all_goals simp only[Qnf,Qpf,QnE,bne_eq_false_iff_eq,ne_eq]at *
 all_goals exact z9
theorem Qhl:Pi s i c 72 (c.toNat=240/\bt s (i+1) 144 191=true/\tl s (i+2) 2=true) Vv:=by
 intro Q hQ f h0 h1 h5;have e1:IntKind.i64.wrap ((i:Int)+1)=((i+1:Nat):Int):=Ww i 1 ψ;have e2:IntKind.i64.wrap ((i:Int)+2)=((i+2:Nat):Int):=Ww i 2 ψ;simp only[Vv,h5,Qa,seval]
 repeat' (first|(refine Q4 (λh=>?_) (λh=>?_)<;>simp only[h,h0,h1,h5,e1,e2,eE,seval])|(refine Zb (λh=>?_) (λh=>?_)<;>simp only[h,Ql,h0,h1,e1,e2,Qa,seval])|(refine Zc (λh=>?_) (λh=>?_)<;>simp only[h,Ql,h0,h1,h5,e1,e2,eE,seval])|((with_reducible apply Zr (k:=314));(case hy=>rfl);(case h1=>rfl);(case hk=>exact Ph s (i+1) 144 191);(case h2=>rfl);(case h3=>first|exact .inl rfl|exact .inr rfl);simp only[Qa,seval])|((with_reducible apply Zr (k:=313));(case hy=>rfl);(case h1=>rfl);(case hk=>exact Bp s (i+2) 2 ψ);(case h2=>rfl);(case h3=>first|exact .inl rfl|exact .inr rfl);simp only[Qa,seval]))
 all_goals(refine hQ _ _ ?_ ϗ ϕ Ϛ rfl)
 all_goals simp only[Qng,Qo2,ne_eq]at *
 all_goals exact z9
theorem Qhm:Pi s i c 87 (241<=c.toNat/\c.toNat<=243/\tl s (i+1) 3=true) Vw:=by
 intro Q hQ f h0 h1 h5;have e1:IntKind.i64.wrap ((i:Int)+1)=((i+1:Nat):Int):=Ww i 1 ψ;have e2:IntKind.i64.wrap ((i:Int)+2)=((i+2:Nat):Int):=Ww i 2 ψ;simp only[Vw,h5,Qa,seval]
 repeat' (first|(refine Q4 (λh=>?_) (λh=>?_)<;>simp only[h,h0,h1,h5,e1,e2,eE,seval])|(refine Zb (λh=>?_) (λh=>?_)<;>simp only[h,Ql,h0,h1,h5,e1,Qa,seval])|(refine Zc (λh=>?_) (λh=>?_)<;>simp only[h,Ql,h0,h1,h5,e1,e2,eE,seval])|((with_reducible apply Zr (k:=313));(case hy=>rfl);(case h1=>rfl);(case hk=>exact Bp s (i+1) 3 ψ);(case h2=>rfl);(case h3=>first|exact .inl rfl|exact .inr rfl);simp only[Qa,seval]))
 all_goals(refine hQ _ _ ?_ ϗ ϕ Ϛ rfl)
 all_goals simp only[Qnf,Qpf]at *
 all_goals exact z9
theorem Qhn:Pi s i c 100 (c.toNat=244/\bt s (i+1) 128 143=true/\tl s (i+2) 2=true) Vx:=by
 intro Q hQ f h0 h1 h5;have e1:IntKind.i64.wrap ((i:Int)+1)=((i+1:Nat):Int):=Ww i 1 ψ;have e2:IntKind.i64.wrap ((i:Int)+2)=((i+2:Nat):Int):=Ww i 2 ψ;simp only[Vx,h5,Qa,seval]
 repeat' (first|(refine Q4 (λh=>?_) (λh=>?_)<;>simp only[h,h0,h1,h5,e1,e2,eE,seval])|(refine Zb (λh=>?_) (λh=>?_)<;>simp only[h,Ql,h0,h1,e1,e2,Qa,seval])|(refine Zc (λh=>?_) (λh=>?_)<;>simp only[h,Ql,h0,h1,h5,e1,e2,eE,seval])|((with_reducible apply Zr (k:=314));(case hy=>rfl);(case h1=>rfl);(case hk=>exact Ph s (i+1) 128 143);(case h2=>rfl);(case h3=>first|exact .inl rfl|exact .inr rfl);simp only[Qa,seval])|((with_reducible apply Zr (k:=313));(case hy=>rfl);(case h1=>rfl);(case hk=>exact Bp s (i+2) 2 ψ);(case h2=>rfl);(case h3=>first|exact .inl rfl|exact .inr rfl);simp only[Qa,seval]))
 all_goals(refine hQ _ _ ?_ ϗ ϕ Ϛ rfl)
 all_goals simp only[Qng,Qo2,ne_eq]at *
 all_goals exact z9
end
def QjD (s:List UInt8)(i:Nat)(hi:i<s.length)(hs:s.length+8<=maxLen):Qi prog 262 [.str s,.int .i64 (i:Nat)] (.int .i64 (sz s i:Nat)):=by
 refine QiC.fn ό ?_;obtain⟨c,hc⟩:∃c,s[i]? = some c:=⟨s[i],Qnb hi⟩;have hz:sz s i=Cm s i c.toNat:=by simp only[sz,hc]
 unfold Cm at hz;simp only[Is,It,Iu,Iv,Iw,Iy,Iz,SB,SC,SD,SE,SF,Qfo,Qfp,Qs,QoF,hc,Qa,seval];refine Q4 (λh=>?_) (λh=>?_)
 ·have h:c.toNat<128:=by simp at h;omega
  rw[hz,Qnj h];exact υ
 have h:¬c.toNat<128:=by simp at h;omega
 rw[hz,Qni h];simp only[Qa,seval];refine QjA hi hs _ (λf B hB h0 h1 h5 hd=>?_) _ ω ω ω;by_cases bJ:B=true
 ·exact zD
 rw[Qni (λhh=>bJ (hB.2 hh))];have i0:B=false:=ï
 subst i0;simp only[hd,Qa,seval];refine QjB hi hs _ (λf B hB h0 h1 h5 hd=>?_) _ ϗ ϕ Ϛ;by_cases bJ:B=true
 ·exact zD
 rw[Qni (λhh=>bJ (hB.2 hh))];have i0:B=false:=ï
 subst i0;simp only[hd,Qa,seval];refine QjC hi hs _ (λf B hB h0 h1 h5 hd=>?_) _ ϗ ϕ Ϛ;by_cases bJ:B=true
 ·exact zD
 rw[Qni (λhh=>bJ (hB.2 hh))];have i0:B=false:=ï
 subst i0;simp only[hd,Qa,seval];refine Qhk hi hs _ (λf B hB h0 h1 h5 hd=>?_) _ ϗ ϕ Ϛ;by_cases bJ:B=true
 ·exact zD
 rw[Qni (λhh=>bJ (hB.2 hh))];have i0:B=false:=ï
 subst i0;simp only[hd,Qa,seval];refine Qhl hi hs _ (λf B hB h0 h1 h5 hd=>?_) _ ϗ ϕ Ϛ;by_cases bJ:B=true
 ·exact zD
 rw[Qni (λhh=>bJ (hB.2 hh))];have i0:B=false:=ï
 subst i0;simp only[hd,Qa,seval];refine Qhm hi hs _ (λf B hB h0 h1 h5 hd=>?_) _ ϗ ϕ Ϛ;by_cases bJ:B=true
 ·exact zD
 rw[Qni (λhh=>bJ (hB.2 hh))];have i0:B=false:=ï
 subst i0;simp only[hd,Qa,seval];refine Qhn hi hs _ (λf B hB h0 h1 h5 hd=>?_) _ ϗ ϕ Ϛ;by_cases bJ:B=true
 ·exact zD
 rw[Qni (λhh=>bJ (hB.2 hh))];have i0:B=false:=ï
 subst i0;simp only[hd,Qa,seval]
 try rfl
def Qb7 (s:List UInt8)(i:Nat)(hi:i<s.length)(_h:sz s i≠0):i+sz s i<=s.length:=by
 have vB:∀n j,tl s j n=true->n≠0->j+n<=s.length:=by
  intro n
  induction n with
  |zero=>intro j _ h;exact absurd rfl h
  |succ n ih=>
   intro j hj _;simp only[tl,Qnz]at hj;have hb:j<s.length:=by
    have h1:=hj.1;unfold bt at h1;split at h1
    ·rename_i b hb;exact(Qna.1 hb).1
    ·cases h1
   by_cases h0:n=0
   ·subst h0;omega
   ·have:=ih (j+1) hj.2 h0;omega
 obtain⟨c,hc⟩:∃c,s[i]? = some c:=⟨s[i],Qnb hi⟩;simp only[sz,hc]at _h |-;unfold Cm at _h |-
 (repeat' split)<;>first
  |omega
  |(rename_i hh;have:=vB _ _ hh.2.2 ϊ;omega)
  |(rename_i hh;have:=vB _ _ hh.2.2.2 ϊ;omega)
  |simp_all
def QjE (s:List UInt8)(k:Nat)(st:St):Prop :=
 ∃f i,st=⟨f,[Qb],[]⟩/\i<=s.length/\s.length-i<=k/\Hl s s.length 0=Hl s k i/\f 0=.str s/\f 3=.int .i64 (i:Nat)
def QjF (s:List UInt8)(hs:s.length+8<=maxLen):Qi prog 171 [.str s] (.int .i64 (Hl s s.length 0)):=by
 refine wF func171 ?_;simp only[eK,f171,seval];simp only[Qa,seval];refine Qj (QjE s) s.length ⟨_,0,rfl,Qnk _,Qm8 _,rfl,rfl,rfl⟩ ?_;rintro k st ⟨f,i,rfl,hi,hk,hb,h0,h3⟩;simp only[h0,h3,Qa,seval];by_cases aa:i<s.length
 ·simp only[QE aa,h0,h3,Qa,seval];refine aC (QjD s i aa hs) ?_;obtain⟨k,rfl⟩:∃n,k=n+1:=⟨k-1,ψ⟩;have kL:Hl s (k+1) i=if sz s i=0 then(i:Int)else Hl s k (i+sz s i):=by
   show(if i<s.length then _ else _)=_;rw[Qnj aa]
  by_cases hz:sz s i=0
  ·have b0:((sz s i:Int)==0)=true:=ŋ
   simp only[b0,h3,hb,kL,Qnj hz,Qa,seval]
  ·have b0:((sz s i:Int)==0)=false:=Ϗ
   have hle:=Qb7 s i aa hz;have e0:=Ww i (sz s i) ψ;simp only[b0,h3,e0,Qa,seval];exact⟨k,ψ,_,i+sz s i,rfl,hle,ψ,by rw[hb,kL,Qni hz],ϗ,ω⟩
 ·have kL:Hl s k i = -1:=by
   cases k with
   |zero=>rfl
   |succ k=>
    show(if i<s.length then _ else _)=_;rw[Qni aa]
  simp only[QM aa,hb,kL,Qa,seval]
def QfD (s:List UInt8)(hs:s.length+8<=maxLen):Qi prog 118 [.str s] (.bool (Hm s)):=by
 refine wF func118 ?_;simp only[eK,f118,seval];simp only[Qa,seval];refine aC (QjF s hs) ?_;exact υ
def Ua (s:List UInt8)(i:Nat):Bool:=(s.drop i).take 3==[239,191,189]
def QjG (s t:List UInt8):Qi prog 375 [.str s,.str t] (.bool (s.take t.length==t)):=by
 refine wF func375 ?_;simp only[eK,f375,seval];by_cases h:t.length<=s.length
 ·have d0:decide ((s.length:Int)>=(t.length:Int))=true:=Ϗ
  have s1:(0<=t.length/\t.length<=s.length)=True:=Ϗ
  simp only[d0,Qs,s1,QoF,QX,Qoa,QnT,Qa,seval]
 ·have d0:decide ((s.length:Int)>=(t.length:Int))=false:=Ϗ
  have e0:(s.take t.length==t)=false:=by
   rw[Qo2];intro hh;have:=congrArg List.length hh;simp at this;omega
  simp only[d0,e0,Qa,seval]
def QjH (s t:List UInt8):Qi prog 358 [.str s,.str t] (.bool (s.take t.length==t)):=by
 refine wF func358 ?_;simp only[eK,f358,seval];simp only[Qa,seval];refine aC (QjG s t) ?_;simp only[Qa,seval]
def QjI (s:List UInt8)(i:Nat)(hi:i<=s.length)(c:Nat):Qi prog 321 [.str s,.int .i64 (i:Nat),.int .i32 (c:Nat)] (.bool (decide (c=65533) && !Ua s i)):=by
 refine wF func321 ?_;simp only[eK,f321,seval];by_cases hc:c=65533
 ·have b0:((c:Int)==65533)=true:=Ļ
  have s1:(i<=s.length/\s.length<=s.length)=True:=Ϗ
  simp only[b0,Qs,s1,QoF,Qa,seval];refine aC (QjH (List.take (s.length-i) (List.drop i s)) [239,191,189]) ?_;have ht:List.take (s.length-i) (List.drop i s)=List.drop i s:=QnL ό;simp only[ht,Ua,hc,Qa,seval]
 ·have b0:((c:Int)==65533)=false:=Ϗ
  simp only[b0,hc,Qa,seval];simp
end Va
namespace Vp
def Wa:Nat->Nat->List UInt8
 |0,u=>[UInt8.ofNat u]
 |k+1,u=>if u<128 then [UInt8.ofNat u]else UInt8.ofNat (u % 128+128) :: Wa k (u / 128)
def put (u:Nat):List UInt8:=Wa 9 u
def JC:Nat->Nat->List UInt8->Nat×Nat×Nat
 |_,_,[]=>(0,0,4)
 |i,acc,c :: t=>
  if i=9/\1<c.toNat then(0,0,6)
  else if c.toNat<128 then(acc+c.toNat*128 ^ i,i+1,0)
  else JC (i+1) (acc+(c.toNat-128)*128 ^ i) t
def take (s:List UInt8):Nat×Nat×Nat:=JC 0 0 s
def toNat_ofNat (n:Nat)(h:n<256):(UInt8.ofNat n).toNat=n:=by
 simp[UInt8.toNat_ofNat'];omega
def Bq (k u:Nat):1<=(Wa k u).length/\(Wa k u).length<=k+1:=by
 induction k generalizing u with
 |zero=>simp[Wa]
 |succ k ih=>
  unfold Wa;split
  ·simp
  ·have:=ih (u / 128);simp;omega
def put_len (u:Nat):1<=(put u).length/\(put u).length<=10:=Bq 9 u
def KD (k u:Nat)(h:u<128):Wa k u=[UInt8.ofNat u]:=by
 cases k<;>simp[Wa,h]
def GA (k u:Nat)(h:¬u<128):Wa (k+1) u=UInt8.ofNat (u % 128+128) :: Wa k (u / 128):=by
 simp[Wa,h]
def Cn (k j u:Nat)(h:u<128 ^ (k+1))(hj:k<=j):Wa j u=Wa k u:=by
 induction k generalizing j u with
 |zero=>
  have hu:u<128:=ϡ
  rw[KD _ _ hu,KD _ _ hu]
 |succ k ih=>
  obtain⟨j,rfl⟩:∃i,j=i+1:=⟨j-1,ψ⟩;by_cases hu:u<128
  ·rw[KD _ _ hu,KD _ _ hu]
  ·rw[GA _ _ hu,GA _ _ hu,ih j (u / 128) _ ψ];rw[Qpi]at h;omega
def DH (i:Nat):Nat:=2 ^ (64-7*i)
def Co (i u:Nat)(hi:i<9)(h:u<DH i):u / 128<DH (i+1):=by
 unfold DH at *;have e:64-7*i=(64-7*(i+1))+7:=ψ
 rw[e,Nat.pow_add]at h;omega
def QdR (k i acc u:Nat)(t:List UInt8)(hk:k+i=9)(hu:u<DH i) :
  JC i acc (Wa k u++t)=(acc+u*128 ^ i,i+(Wa k u).length,0):=by
 induction k generalizing i acc u with
 |zero=>
  obtain rfl:i=9:=ψ
  have lN:u<2:=by simpa [DH]using hu
  have hc:=toNat_ofNat u ψ;simp only[Wa,Qnx,Qny,JC,hc];rw[Qni ψ,Qnj ψ];rfl
 |succ k ih=>
  by_cases h:u<128
  ·have hc:=toNat_ofNat u ψ;rw[KD _ _ h];simp only[Qnx,Qny,JC,hc];rw[Qni ψ,Qnj h];rfl
  ·have hc:=toNat_ofNat (u % 128+128) ψ;rw[GA _ _ h];simp only[Qnx,JC,hc];rw[Qni ψ,Qni ψ,ih (i+1) _ (u / 128) ψ (Co i u ψ hu)];have e:acc+(u % 128+128-128)*128 ^ i+u / 128*128 ^ (i+1)=acc+u*128 ^ i:=by
    rw[Qpi,Nat.add_sub_cancel,Qm7,Nat.mul_comm (128 ^ i) 128,<-Nat.mul_assoc,<-QnM];congr 2;omega
   rw[e];simp only[Qnq,QoI,Qn2,and_true];omega
def GB (u:Nat)(t:List UInt8)(h:u<2 ^ 64):take (put u++t)=(u,(put u).length,0):=by
 have:=QdR 9 0 0 u t rfl (by simpa [DH]using h)
 simpa [take,put]using this
def AD (i acc:Nat)(s:List UInt8)(hi:i<=9)(ha:acc<128 ^ i)(h:(JC i acc s).2.2=0) :
  i<(JC i acc s).2.1/\(JC i acc s).2.1<=i+s.length/\(JC i acc s).2.1<=10/\(JC i acc s).1<2 ^ 64:=by
 induction s generalizing i acc with
 |nil=>simp[JC]at h
 |cons c t ih=>
  unfold JC at h |-;split
  ·rename_i h1;rw[Qnj h1]at h;simp at h
  ·rename_i h1;rw[Qni h1]at h;have hp:128 ^ i=2 ^ (7*i):=by rw[show(128:Nat)=2 ^ 7 from rfl,<-Nat.pow_mul]
   split
   ·rename_i h2;refine⟨Nat.lt_succ_self i,ό,by show i+1<=10;omega,?_⟩;show acc+c.toNat*128 ^ i<2 ^ 64;rcases Nat.lt_or_ge i 9 with h9|h9
    ·have:c.toNat*128 ^ i<=127*128 ^ i:=Qoi _ ψ;have h3:acc+c.toNat*128 ^ i<128 ^ (i+1):=by rw[Qpi];omega
     have h4:128 ^ (i+1)<=128 ^ 9:=Nat.pow_le_pow_right ψ ψ;omega
    ·obtain rfl:i=9:=ψ
     have:c.toNat<=1:=ψ
     omega
   ·rename_i h2;rw[Qni h2]at h;have h9:i<9:=by
     exact N_
    have hc:=c.toNat_lt;have h3:acc+(c.toNat-128)*128 ^ i<128 ^ (i+1):=by
     exact θ
    obtain⟨a,b,d,e⟩:=ih (i+1) _ ψ h3 h;exact⟨ψ,Ϗ,d,e⟩
def WE (s:List UInt8)(h:(take s).2.2=0):0<(take s).2.1/\(take s).2.1<=s.length/\(take s).2.1<=10/\(take s).1<2 ^ 64:=by
 have:=AD 0 0 s ψ ψ h
 simpa [take]using this
def AE (i acc:Nat)(s t:List UInt8)(h:(JC i acc s).2.2≠4):JC i acc (s++t)=JC i acc s:=by
 induction s generalizing i acc with
 |nil=>simp[JC]at h
 |cons c r ih=>
  simp only[Qnx];unfold JC at h |-;split
  ·rfl
  ·rename_i h1;rw[Qni h1]at h;split
   ·rfl
   ·rename_i h2;rw[Qni h2]at h;exact ih _ _ h
def QdS (i acc:Nat)(s:List UInt8)(hi:i<=9)(hl:10<=i+s.length):(JC i acc s).2.2≠4:=by
 induction s generalizing i acc with
 |nil=>simp at hl;omega
 |cons c r ih=>
  unfold JC;split
  ·simp
  ·rename_i h1;split
   ·simp
   ·rename_i h2;exact ih _ _ ψ (by simp at hl;omega)
def take_take (s:List UInt8):take (s.take 10)=take s:=by
 rcases Nat.lt_or_ge s.length 10 with h|h
 ·rw[QnL ψ]
 ·have:=AE 0 0 (s.take 10) (s.drop 10) (QdS 0 0 _ ψ Ϗ);rw[Qou]at this;exact this.symm
end Vp
namespace Va
open Go Am Rc Bt Vp
def WF (s:List UInt8)(j:Nat)(c:UInt8)(h:s[j]? = some c):(⟨⟨s⟩⟩:ByteArray).get! j=c:=by
 show(⟨s⟩:Array UInt8)[j]! = c;simp[h]
def VE (a:UInt8)(n:Nat)(hn:n<256):(a==UInt8.ofNat n)=decide (a.toNat=n):=by
 rw[Qn5,Qng,Qnf]
 constructor
 ·rintro rfl;rw[toNat_ofNat _ hn]
 ·intro h;rw[<-UInt8.toNat_inj,toNat_ofNat _ hn,h]
set_option maxHeartbeats 4000000 in
theorem QjJ (s:List UInt8)(i:Nat)(a b c d:UInt8)(t:List UInt8)(hr:s.drop i=a :: b :: c :: d :: t):(decide ((Zk s i).1=65533) && !Ua s i)=decide (sz s i=0)/\(sz s i≠0->(Zk s i).2=sz s i):=by
 have aX:∀j,(s[i+j]? = (a :: b :: c :: d :: t)[j]?):=λj=>by rw[<-hr,QnR]
 have hn:ByteArray.size ⟨⟨s⟩⟩=s.length:=rfl;have hl:s.length=i+(a :: b :: c :: d :: t).length:=by
  have h:=congrArg List.length hr;simp at h |-;omega
 have h0:=aX 0;have h1:=aX 1;have h2:=aX 2;have h3:=aX 3;simp only[QnI]at h0;have g0:=WF s i a h0;have g1:=WF s (i+1) b h1;have g2:=WF s (i+2) c h2;have g3:=WF s (i+3) d h3;have l1:(i+1<s.length)=True:=ϵ
 have l2:(i+2<s.length)=True:=ϵ
 have l3:(i+3<s.length)=True:=ϵ
 have wa:=a.toNat_lt;have wb:=b.toNat_lt;have wc:=c.toNat_lt;have wd:=d.toNat_lt;have aj:Ua s i=(decide (a.toNat=239)&&(decide (b.toNat=191)&&decide (c.toNat=189))):=by
  exact LT
 simp only[Qoj,Qoe]at h0 h1 h2 h3;generalize hD:Zk s i=D;generalize hS:sz s i=S;rw[aj];simp only[Zk,Utf8.decode,Utf8.valid,Utf8.runeError,hn,l1,l2,l3,QnI,g0,g1,g2,g3,sz,h0,Cm,tl,bt,Qm7,seval,h1,h2,h3,decide_true,QoW,Qoq,Qnz,Qne,Qnf,Qng,ge_iff_le]at hD hS;clear aX hr hl h0 h1 h2 h3 g0 g1 g2 g3 l1 l2 l3 aj hn;generalize a.toNat=x at *;generalize b.toNat=y at *;generalize c.toNat=z at *;generalize d.toNat=u at *
 (repeat' split at hD)<;>subst hD<;>(repeat' split at hS)<;>subst hS<;>refine⟨?_,?_⟩<;>(try rw[Qn5])<;>(try simp only[Qnz,Qnf,Qn9,Qpj,Qpf])<;>first|omega|(intro _;rfl)|(simp;done)|(simp;omega)
def QaM (s:List UInt8)(i:Nat)(hi:i<s.length):(decide ((Zk s i).1=65533) && !Ua s i)=decide (sz s i=0)/\(sz s i≠0->(Zk s i).2=sz s i):=by
 have aX:∀j,(s[i+j]? = (s.drop i)[j]?):=λj=>by rw[QnR]
 have hn:ByteArray.size ⟨⟨s⟩⟩=s.length:=rfl;have hl:s.length=i+(s.drop i).length:=Ϗ
 generalize hr:s.drop i=r at aX hl;have h0:=aX 0;have h1:=aX 1;have h2:=aX 2;have h3:=aX 3;simp only[QnI]at h0
 match r,hl with
 | [],hl=>simp at hl;omega
 | [a],hl=>
  have g0:=WF s i a h0;have l1:(i+1<s.length)=False:=ϵ
  have l2:(i+2<s.length)=False:=ϵ
  have l3:(i+3<s.length)=False:=ϵ
  have wa:=a.toNat_lt;have aj:Ua s i=false:=by simp[Ua,hr]
  simp only[Qoj,List.getElem?_nil,Qoe]at h0 h1 h2 h3;simp only[Zk,Utf8.decode,Utf8.runeError,hn,l1,l2,l3,QnI,g0,sz,h0,Cm,tl,bt,Qm7,seval,h1,h2,h3,aj,decide_false,QoJ,QoY,Qoq,Qnu,and_false]
  (repeat' split)<;>refine⟨?_,?_⟩<;>(try rw[Qn5])<;>(try simp only[Qnf,Qok,Qoq])<;>first|omega|(intro _;rfl)|(intro _;omega)|(simp;done)|(simp;omega)
 | [a,b],hl=>
  have g0:=WF s i a h0;have g1:=WF s (i+1) b h1;have l1:(i+1<s.length)=True:=ϵ
  have l2:(i+2<s.length)=False:=ϵ
  have l3:(i+3<s.length)=False:=ϵ
  have wa:=a.toNat_lt;have wb:=b.toNat_lt;have aj:Ua s i=false:=by simp[Ua,hr]
  simp only[Qoj,List.getElem?_nil,Qoe]at h0 h1 h2 h3;simp only[Zk,Utf8.decode,Utf8.runeError,hn,l1,l2,l3,QnI,g0,g1,sz,h0,Cm,tl,bt,Qm7,seval,h1,h2,h3,aj,decide_false,decide_true,QoJ,QoY,QoW,Qoq,Qnu,and_false,Qnz,Qnf,Qng,ge_iff_le]
  (repeat' split)<;>refine⟨?_,?_⟩<;>(try rw[Qn5])<;>(try simp only[Qnf,Qok,Qoq])<;>first|omega|(intro _;rfl)|(intro _;omega)|(simp;done)|(simp;omega)
 | [a,b,c],hl=>
  have g0:=WF s i a h0;have g1:=WF s (i+1) b h1;have g2:=WF s (i+2) c h2;have l1:(i+1<s.length)=True:=ϵ
  have l2:(i+2<s.length)=True:=ϵ
  have l3:(i+3<s.length)=False:=ϵ
  have wa:=a.toNat_lt;have wb:=b.toNat_lt;have wc:=c.toNat_lt;have aj:Ua s i=(decide (a.toNat=239)&&(decide (b.toNat=191)&&decide (c.toNat=189))):=by
   exact LT
  simp only[Qoj,List.getElem?_nil,Qoe]at h0 h1 h2 h3;simp only[Zk,Utf8.decode,Utf8.valid,Utf8.runeError,hn,l1,l2,l3,QnI,g0,g1,g2,sz,h0,Cm,tl,bt,Qm7,seval,h1,h2,h3,aj,decide_false,decide_true,QoJ,QoY,QoW,Qoq,Qnu,and_false,Qnz,Qne,Qnf,Qng,ge_iff_le]
  (repeat' split)<;>refine⟨?_,?_⟩<;>(try rw[Qn5])<;>(try simp only[Qnz,Qnf,Qn9,Qpf,Qpj])<;>first|omega|(intro _;rfl)|(intro _;omega)|(simp;done)|(simp;omega)
 |a :: b :: c :: d :: t,hl=>exact QjJ s i a b c d t hr
def QjK (s:List UInt8)(k:Nat)(st:St):Prop :=
 ∃f fr i,st=⟨f,[fr],[]⟩/\i<=s.length/\s.length-i<=k/\Hl s s.length 0=Hl s k i/\f 0=.str s/\f 6=.ptr 0 6 0/\fr 6=.iter (.str s) i
def QjL (s:List UInt8):Qi prog 275 [.str s] (.int .i64 (Hl s s.length 0)):=by
 refine wF func275 ?_;simp only[eK,f275,seval];simp only[Qa,seval];refine Cb rfl rfl ?_;simp only[Qa,seval];refine Qj (QjK s) s.length ⟨_,_,0,rfl,Qnk _,Qm8 _,rfl,ω,ω,ω⟩ ?_;rintro k st ⟨f,fr,i,rfl,hi,hk,hb,h0,h6,m6⟩;simp only[Qa,seval];refine Cc Ϝ m6 (λaa=>?_) (λfU=>?_)
 ·obtain⟨hd,hw⟩:=QaM s i aa;obtain⟨k,rfl⟩:∃n,k=n+1:=⟨k-1,ψ⟩;have kL:Hl s (k+1) i=if sz s i=0 then(i:Int)else Hl s k (i+sz s i):=by
   show(if i<s.length then _ else _)=_;rw[Qnj aa]
  have t_:=QjI s i hi (Zk s i).1;rw[hd]at t_;generalize Zk s i=cw at hw t_;obtain⟨c,w⟩:=cw;simp only[h0,Qa,seval];refine aC t_ ?_;by_cases hz:sz s i=0
  ·simp only[hz,decide_true,hb,kL,Qa,seval]
  ·have hw:=hw hz;simp only at hw;have hle:=Qb7 s i aa hz;simp only[hz,decide_false,Qa,seval];exact⟨k,ψ,_,_,i+sz s i,rfl,hle,ψ,by rw[hb,kL,Qni hz],ϗ,Ϝ,by rw[<-hw]<;>first|rfl|simp only[eE,seval]⟩
 ·have kL:Hl s k i = -1:=by
   cases k with
   |zero=>rfl
   |succ k=>
    show(if i<s.length then _ else _)=_;rw[Qni ψ]
  simp only[hb,kL,Qa,seval]
def AF (s:List UInt8):Qi prog 207 [.str s] (.bool (Hm s)):=by
 refine wF func207 ?_;simp only[eK,f207,seval];simp only[Qa,seval];refine aC (QjL s) ?_;exact υ
end Va
namespace Va
open Go Am Rc Bt
def Wb (k:Int)(b:Nat):Bool :=
 if k=1 then decide ((b:Int)<=1)else if k=2 then decide (IntKind.i64.wrap (b:Int)>=-2147483648)&&decide (IntKind.i64.wrap (b:Int)<=2147483647)
 else if k=4 then decide ((b:Int)<4294967296)else if k=9 then decide ((b:Int)<2147483648)else true
def QjM (k:Int)(b:Nat):Qi prog 366 [.int .i64 k,.int .u64 (b:Nat)] (.bool (Wb k b)):=by
 have e1:decide ((b:Int)<=4294967295)=decide ((b:Int)<4294967296):=ϴ
 have e2:decide ((b:Int)<=2147483647)=decide ((b:Int)<2147483648):=ϴ
 refine wF func366 ?_;simp only[eK,f366,seval];simp only[Qa,seval];unfold Wb;by_cases h1:k=1
 ·subst h1;have b1:((1:Int)==1)=true:=rfl;simp only[b1,Qa,seval]
 ·have b1:(k==1)=false:=ì
  by_cases h2:k=2
  ·subst h2;have b2:((2:Int)==2)=true:=rfl;simp only[b1,b2,h1,Qa,seval];cases hd:decide (IntKind.i64.wrap (b:Int)>=-2147483648)<;>simp only[QoW,QoJ,Qa,seval]
  ·have b2:(k==2)=false:=Ě
   by_cases h9:k=9
   ·subst h9;have b9:((9:Int)==9)=true:=rfl;simp only[b1,b2,b9,h1,h2,e2,Qa,seval]
   ·have b9:(k==9)=false:=ŏ
    by_cases h4:k=4
    ·subst h4;have b4:((4:Int)==4)=true:=rfl;simp only[b1,b2,b9,b4,h1,h2,e1,Qa,seval]
    ·have b4:(k==4)=false:=ã
     simp only[b1,b2,b9,b4,h1,h2,h4,h9,Qa,seval]
end Va
namespace Ev
open Go Am Rc
noncomputable def tab:Ci:=λk=>match k with
 |51=>some (r51,SA,8)
 |93=>some (r93,o93,107)
 |95=>some (Ia,MP,8)
 |149=>some (Aw,Vt,8)
 |152=>some (Qau,Ax,8)
 |374=>some (Ay,Qav,143)
 |k=>ct k
def QfE:Fp prog tab:=by
 intro k c rs N h;unfold tab at h;split at h
 ·cases h;exact k51
 ·cases h;exact k93
 ·cases h;exact k95
 ·cases h;exact Qat
 ·cases h;exact Qfc
 ·cases h;exact Qfe
 ·exact Qhf h
def nat:YW:=λ_ _ _=>none
def nat_ok:YS prog nat:=by
 intro k args m v m' h;cases h
end Ev
namespace Va
open Go Am Rc Bt
def vo (k:Int)(b:Nat)(t:List UInt8)(l p s r:List AV):AV:=.agg [.int .i64 k,.int .u64 (b:Nat),.str t,.list l,.list p,.list s,.list r]
section
variable (k:Int)(b:Nat)(t:List UInt8)(l p s r:List AV)
def Hn:Bool:=(l.length:Int)==0&&(p.length:Int)==0&&(s.length:Int)==0&&(r.length:Int)==0
def Pj:Bool:=isk k&&Hn l p s r&&(b:Int)==0&&t==[]
def emp:Bool:=(k==11&&(l.length:Int)==0)||(k==12&&(p.length:Int)==0)||Pj k b t l p s r
theorem QfF:Qi prog 109 [vo k b t l p s r] (.bool (Hn l p s r)):=by
 refine wF func109 ?_;simp only[eK,f109,seval];simp only[vo,Hn,eE,seval];cases h0:((l.length:Int)==0)<;>cases h1:((p.length:Int)==0)<;>cases h2:((s.length:Int)==0)<;>simp only[h1,h2,QoW,QoJ,eE,seval]
theorem QfG (hl:l.length<=140737488351232)(hp:p.length<=140737488351232)(hs:s.length<=140737488351232)(hr:r.length<=140737488351232) :
  Qi prog 159 [vo k b t l p s r] (.bool (Hn l p s r&&(if Zz k=true then(b:Int)==0 else t==[]))):=by
 refine wF func159 ?_;simp only[eK,f159,seval];have w:IntKind.i64.wrap (IntKind.i64.wrap (IntKind.i64.wrap ((l.length:Int)+(p.length:Int))+(s.length:Int))+(r.length:Int))=(l.length+p.length+s.length+r.length:Nat):=by
  simp only[QD];omega
 simp only[vo,w,eE,seval];by_cases h:l.length+p.length+s.length+r.length=0
 ·have d:decide (((l.length+p.length+s.length+r.length:Nat):Int) > 0)=false:=Qo8 ψ;have e:Hn l p s r=true:=by
   unfold Hn;simp only[Qnz,Qng];omega
  simp only[d,e,QoW,eE,seval];refine aC (Qfr k) ?_;cases Zz k
  ·simp only[Qnu,QX,eE,seval]
  ·simp only[eE,seval]
 ·have d:decide (((l.length+p.length+s.length+r.length:Nat):Int) > 0)=true:=Qpe ψ;have e:Hn l p s r=false:=by
   unfold Hn;rw[Qpa];simp only[ne_eq,Qnz,Qng];omega
  simp only[d,e,QoJ,Qa,seval]
end
open Br
def key (o:PO):Bool:=if o.card=5 then decide (o.key>=1)&&decide (o.key<=7)&&o.key != 6 else o.key==0
def NG (P:PL)(o:PO):Bool :=
 if o.kind=10 then decide (o.target>=0)&&decide (o.target<(P.progs.length:Int))&&o.card != 3
 else if o.kind=9 then decide (o.target>=0)&&decide (o.target<(P.enums.length:Int))else isk o.kind&&o.target == -1
def Wx (P:PL)(o:PO):Bool:=Hm o.alias&&decide ((o.alias.length:Int)<=4096)&&decide (o.card>=1)&&decide (o.card<=5)&&key o&&NG P o
def Ku (o:PO):Bool:=o.union == -1||o.card==2
def KY:List PO->Int->Int->Option Int
 | [],n,_=>some n
 |o :: l,n,b=>if o.union=n then KY l (n+1) n else if o.union = -1\/o.union=b then KY l n o.union else none
def KV (g:PG):Bool:=match KY g.ops 0 (-1)with
 |some n=>g.unions==n
 |none=>false
def Ze (k kd:Int)(b:Nat)(t:List UInt8)(l p s r:List AV):Bool :=
 isk k&&kd==k&&Hn l p s r&&(if Zz kd=true then(b:Int)==0 else t==[])&&Wb k b&&decide ((t.length:Int)<=4096)&&(k != 7||Hm t)
def alias:List UInt8:=[97,108,105,97,115]
def nok:List AV->Bool
 | [.int _ kd,.int _ b,.str t,.list l,.list p,.list s,.list r]=>Ze 7 kd b.toNat t l p s r
 |_=>false
def Yx (i:PI):Bool:=match i.notes with
 | []=>true
 | [n]=>n.name==alias&&nok n.val
 |_=>false
def Ym (P:PL)(g:PG):Bool:=KV g&&g.ops.all λo=>Wx P o&&Ku o
def Yn (x:PE):Bool:=x.notes.isEmpty&&x.items.all Yx
def args (P:PL):Bool:=P.progs.all (Ym P)&&P.enums.all Yn
def QdT {α:Type}(l:List α)(p q:α->Bool):(l.all λx=>p x&&q x)=(l.all p&&l.all q):=by
 induction l with
 |nil=>rfl
 |cons x l ih=>
  simp only[Qoo,ih];cases p x<;>cases q x<;>cases l.all p<;>cases l.all q<;>rfl
def QaN (k kd:Int)(b:Nat)(t:List UInt8)(l p s r:List AV)(hl:l.length<=140737488351232)(hp:p.length<=140737488351232)(hs:s.length<=140737488351232)(hr:r.length<=140737488351232) :
  Qi prog 345 [.int .i64 k,vo kd b t l p s r] (.bool (Ze k kd b t l p s r)):=by
 have hle:=QfG kd b t l p s r hl hp hs hr;have hw:=QjM k b;simp only[vo]at hle;have n1:(kd != k)=!(kd==k):=rfl;have n2:(k != 7)=!(k==7):=rfl;have n3:decide ((t.length:Int) > 4096)=!decide ((t.length:Int)<=4096):=ϓ;refine wF func345 ?_;simp only[eK,f345,seval];simp only[vo,Ze,n2,eE,seval];refine aC (Vy k) ?_;cases isk k
 ·exact zL
 simp only[QoW,QoX,n1,eE,seval];cases a1:(kd==k)
 ·exact zL
 simp only[QoW,QoX,eE,seval];refine aC hle ?_;cases(Hn l p s r&&(if Zz kd=true then(b:Int)==0 else t==[]))
 ·exact zL
 simp only[QoW,QoX,eE,seval];refine aC hw ?_;cases Wb k b
 ·exact zL
 simp only[QoW,QoX,n3,eE,seval];cases a2:decide ((t.length:Int)<=4096)
 ·exact zL
 simp only[QoW,QoX,n2,Qa,seval];cases a3:(k==7)
 ·simp only[Qok,Qo0,Qa,seval]
 ·simp only[QoX,Qo1,eE,seval];refine aC (AF t) ?_;simp only[Qa,seval]
def QjN (o:PO):Qi prog 208 [Qw o] (.bool (key o)):=by
 refine wF func208 ?_;simp only[eK,f208,seval];simp only[Qw,PO.cells,key,eE,seval];by_cases h:o.card=5
 ·have b0:(o.card != 5)=false:=Ĺ
  simp only[b0,Qnj h,eE,seval];cases a1:decide (o.key>=1)<;>cases a2:decide (o.key<=7)<;>simp only[a2,QoW,QoJ,eE,seval]
 ·have b0:(o.card != 5)=true:=Ĺ
  simp only[b0,Qni h,eE,seval]
section
variable (P:PL)
theorem QjO (o:PO):Qi prog 209 [P.av,Qw o] (.bool (NG P o)):=by
 have e0:P.av=.agg [.list (P.progs.map Qm),.list (P.enums.map QH)]:=rfl;refine wF func209 ?_;simp only[eK,f209,seval];simp only[e0,Qw,PO.cells,NG,eE,seval];by_cases h:o.kind=10
 ·exact Y_
 ·have b0:(o.kind==10)=false:=Ĺ
  by_cases h9:o.kind=9
  ·exact O8
  ·have b1:(o.kind==9)=false:=ŏ
   simp only[b0,b1,Qni h,Qni h9,eE,seval];refine aC (Vy o.kind) ?_;cases isk o.kind<;>simp only[QoW,QoJ,eE,seval]
def UnI (g:PG)(k:Nat)(st:St):Prop :=
 ∃f fr i n b,st=⟨f,[fr],[]⟩/\k=g.ops.length-i/\i<=g.ops.length/\(g.ops.take i).all Ku=true/\KY g.ops 0 (-1)=KY (g.ops.drop i) n b/\0<=n/\n<=i/\-1<=b/\b<n/\f 1=.ptr 0 1 0/\f 3=.int .i64 (n-1)/\f 4=.int .i64 b/\
  f 8=.list (g.ops.map λo=>.agg o.cells)/\f 9=.int .i64 (g.ops.length:Nat)/\f 10=.int .i64 (i:Nat)/\fr 1=.cells g.cells/\∀s∈[6],(fr s).isRow=false
theorem NH {l:List PO}{i:Nat}{o:PO}(h:l[i]? = some o)(n b:Int):KY (l.drop i) n b=if o.union=n then KY (l.drop (i+1)) (n+1) n else if o.union = -1\/o.union=b then KY (l.drop (i+1)) n o.union else none:=by
 have aa:i<l.length:=(Qna.1 h).1;rw[QnU aa,show l[i]=o from(Qna.1 h).2];rfl
theorem QjP (g:PG)(hl:g.ops.length<=9223372036854775000):Qi prog 205 [Qm g] (.bool (g.ops.all Ku&&KV g)):=by
 refine wF func205 ?_;simp only[eK,f205,seval];simp only[Qm,PG.cells,Qn6,eE,seval];refine Qj (UnI g) _ ⟨_,_,0,0,-1,rfl,rfl,Qnk _,rfl,rfl,ϊ,ϊ,ϊ,ϊ,ω,ω,ω,ω,ω,ω,ω,ϛ⟩ ?_;rintro _ st ⟨f0,bA,i,n,b,rfl,rfl,bg,hu,hj,kP,y5,fW,qo,am,ax,aS,bF,de,gh,m10,r6⟩;refine QR (a:=_) [6] r6 ?_;intro f fr hf hm gg;have h1:f 1=.ptr 0 1 0:=À
 have h3:f 3=.int .i64 (n-1):=Ϥ
 have h4:f 4=.int .i64 b:=ϱ
 have h8:f 8=.list (g.ops.map λo=>.agg o.cells):=Η
 have h9:f 9=.int .i64 (g.ops.length:Nat):=Ê
 have hA:f 10=.int .i64 (i:Nat):=by rw[hf,gh]<;>rfl
 have m1:fr 1=.cells g.cells:=Ā
 have n6:=gg 6 ϊ;clear hf hm gg am ax aS bF de gh m10 r6;simp only[PG.cells]at m1;have w0:IntKind.i64.wrap (n-1+1)=n:=ϐ
 simp only[h9,hA,Qa,seval];by_cases aa:i<g.ops.length
 ·obtain⟨o,hi⟩:∃o,g.ops[i]? = some o:=⟨g.ops[i],Qnb aa⟩;have hg:(g.ops.map λo=>AV.agg o.cells)[i]? = some (.agg o.cells):=ĭ
  have e1:=Qv i _ aa ώ;have ht:=Gw (q:=Ku) hi;rw[hu,QoW]at ht;have iz:Ku o=false->g.ops.all Ku=false:=λh=>by
   rw[Qpa];intro h';rw[Qno.1 h' o (Qnp hi)]at h;cases h
  rw[NH hi]at hj;have fin:∀(f':Fr) (ag:Nat->Ob) (n':Int),Ku o=true->(if o.union=n then n'=n+1 else n'=n)->KY g.ops 0 (-1)=KY (g.ops.drop (i+1)) n' o.union->(o.union=n\/o.union = -1\/o.union=b)->f' 1=.ptr 0 1 0->f' 3=.int .i64 (n'-1)->f' 4=.int .i64 o.union->
    f' 8=.list (g.ops.map λo=>.agg o.cells)->f' 9=.int .i64 (g.ops.length:Nat)->f' 10=.int .i64 ((i+1:Nat):Int)->ag 1=.cells g.cells->(∀s∈[6],(ag s).isRow=false)->∃k,k<g.ops.length-i/\UnI g k ⟨f',[ag],[]⟩:=by
   intro f' ag n' a b' c d e1 e3 e4 e8 e9 eA em er;refine⟨g.ops.length-(i+1),ψ,f',ag,i+1,n',o.union,rfl,rfl,ψ,by rw[ht,a],c,?_,?_,?_,?_,e1,e3,e4,e8,e9,eA,em,er⟩<;>split at b'<;>omega
  simp only[PO.cells]at hg;simp only[QE aa,Qs,QoF,Qg,hg,PO.cells,n6,h8,hA,eE,seval];by_cases a1:o.union = -1
  ·have b1:(o.union != -1)=false:=Ő
   have hk:Ku o=true:=by simp[Ku,a1]
   rw[Qni ψ,Qnj (.inl a1)]at hj;have mx:(if n-1<o.union then o.union else n-1)=n-1:=Qni ψ;simp only[b1,h3,hA,mx,e1,eE,seval];exact fin _ _ n hk (by rw[Qni ψ]) hj (.inr (.inl a1)) ϕ ω ω ϣ Ε ω Č ϛ
  have b1:(o.union != -1)=true:=Ő
  by_cases a2:o.card=2
  case neg=>
   have b2:(o.card != 2)=true:=by simp[a2]
   have hk:Ku o=false:=by simp[Ku,a1,a2]
   simp only[b1,b2,iz hk,QoJ,eE,seval]
  have b2:(o.card != 2)=false:=by simp[a2]
  have hk:Ku o=true:=by simp[Ku,a2]
  by_cases a3:o.union=n
  ·have b3:(o.union != n)=false:=by simp[a3]
   rw[Qnj a3,<-a3]at hj;have mx:(if n-1<o.union then o.union else n-1)=o.union:=Qnj ψ;simp only[b1,b2,b3,h3,hA,w0,mx,e1,eE,seval];exact fin _ _ (o.union+1) hk (by rw[Qnj a3,a3]) hj (.inl a3) ϕ (by simp only[Qa,seval];congr 1;omega) ω ϣ Ε ω Č ϛ
  have b3:(o.union != n)=true:=by simp[a3]
  by_cases a4:o.union=b
  ·have b4:(o.union != b)=false:=by simp[a4]
   rw[Qni a3,Qnj (.inr a4)]at hj;have mx:(if n-1<o.union then o.union else n-1)=n-1:=Qni ψ;simp only[b1,b2,b3,b4,h3,h4,hA,w0,mx,e1,eE,seval];exact fin _ _ n hk (by rw[Qni a3]) hj (.inr (.inr a4)) ϕ ω ω ϣ Ε ω Č ϛ
  ·have b4:(o.union != b)=true:=by simp[a4]
   rw[Qni a3,Qni ψ]at hj;have dB:KV g=false:=by unfold KV;rw[hj]
   simp only[b1,b2,b3,b4,dB,QoY,h3,h4,w0,eE,seval]
 ·rw[QnL ψ]at hu;rw[QnO ψ]at hj;have dB:KV g=(g.unions==n):=by unfold KV;rw[hj];rfl
  simp only[QM aa,h1,h3,m1,w0,hu,dB,QoW,eE,seval]
theorem QjQ (o:PO)(kT fr:Nat->Ob)(h1:fr 1=.cells [.list (P.progs.map Qm),.list (P.enums.map QH)]):Qf prog 206 [Qw o,.ptr 7 1 0] [Qb,Qb,Qb,kT,Qb,Qb,Qb,fr] λy m1=>y=.bool (!Wx P o)/\m1=[Qb,Qb,Qb,kT,Qb,Qb,Qb,fr]:=by
 have n1:decide ((o.alias.length:Int) > 4096)=!decide ((o.alias.length:Int)<=4096):=ϓ;have n2:decide (o.card<1)=!decide (o.card>=1):=ϓ;have n3:decide (o.card > 5)=!decide (o.card<=5):=ϓ;have hk:=QjN o;have ha:Qi prog 209 [.agg [.list (P.progs.map Qm),.list (P.enums.map QH)],Qw o] (.bool (NG P o)):=QjO P o;simp only[Qw,PO.cells]at hk ha;refine wG func206 ?_;simp only[eK,f206,seval];simp only[Qw,PO.cells,Wx,eE,seval];refine aC (AF o.alias) ?_;cases Hm o.alias
 ·exact zL
 simp only[QoW,QoX,n1,eE,seval];cases a1:decide ((o.alias.length:Int)<=4096)
 ·exact zL
 simp only[n2,QoW,QoX,eE,seval];cases a2:decide (o.card>=1)
 ·exact zL
 simp only[n3,QoW,QoX,eE,seval];cases a3:decide (o.card<=5)
 ·exact zL
 simp only[QoW,QoX,eE,seval];refine aC hk ?_;cases key o
 ·exact zL
 simp only[QoW,QoX,h1,eE,seval];refine aC ha ?_;simp only[Qa,seval]
theorem QjR (g:PG)(hl:g.ops.length<=9223372036854775000)(fr:Nat->Ob)(h1:fr 1=.cells [.list (P.progs.map Qm),.list (P.enums.map QH)]) :
  Qf prog 204 [Qm g,.ptr 3 1 0] [Qb,Qb,Qb,fr] λy m1=>y=.bool (!Ym P g)/\m1=[Qb,Qb,Qb,fr]:=by
 have hu:=QjP g hl;have e:Ym P g=((g.ops.all Ku&&KV g)&&g.ops.all (Wx P)):=by
  unfold Ym;rw[show(g.ops.all λo=>Wx P o&&Ku o)=(g.ops.all (Wx P)&&g.ops.all Ku)from QdT ..];cases KV g<;>cases g.ops.all (Wx P)<;>cases g.ops.all Ku<;>rfl
 simp only[Qm,PG.cells]at hu;refine wG func204 ?_;simp only[eK,f204,seval];simp only[Qm,PG.cells,e,eE,seval];refine aC hu ?_;cases(g.ops.all Ku&&KV g)
 ·exact zL
 simp only[QoW,QoX,eE,seval];refine Qh (Pa g.ops ώ (λo=>!Wx P o) 206 [.ptr 4 1 0] _ λo _=>QjQ P o _ fr h1) ύ ?_;simp only[Zl,Qa,seval]
end
noncomputable def AG:Ci:=λk=>match k with
 |322=>some (rk 322 f322,Cg.rs f322,f322.ntmps)
 |_=>none
def SI:Fp prog AG:=by
 intro k c rs N h;unfold AG at h;split at h
 ·cases h;exact kc func322 rfl ϊ
 ·cases h
def IH:Option (AV×Qk)->Bool
 |some (.mp ks vs,_)=>match KB (.s alias) ks vs with
  |some (.agg [.int .i64 a,.int .i64 b])=>a==7&&b==84&&keys true ks
  |_=>false
 |_=>false
def II:IH (HM Ev.nat AG (JA Ev.nat AG 300) 322 [] [])=true:=by decide +kernel
def QfI:∃ks vs,Qi prog 322 [] (.mp ks vs)/\KB (.s alias) ks vs=some (.agg [.int .i64 7,.int .i64 84])/\keys true ks=true:=by
 have h:=II;unfold IH at h;split at h
 ·rename_i ks vs m' h1;split at h
  ·rename_i a b h2;simp only[Qnz,Qng]at h;obtain⟨⟨rfl,rfl⟩,h3⟩:=h;exact⟨ks,vs,(Hg Ev.nat_ok SI (E7 Ev.nat_ok SI 300) _ _ _ _ _ h1).mono λ_ _ e=>e.1,h2,h3⟩
  ·cases h
 ·cases h
def QjS:Qi prog 359 [.str alias] (.int .i64 7):=by
 obtain⟨ks,vs,h1,h2,h3⟩:=QfI;have hg:AV.gr (.agg [.int .i64 7,.int .i64 84])=true:=rfl;refine wF func359 ?_;simp only[eK,f359,seval];simp only[Qa,seval];refine aC h1 ?_;simp only[K3,Am.Wk,h3,cond_true,h2,hg,Qa,seval]
section
variable (kd:Int)(b:Nat)(t:List UInt8)(l p s r:List AV)(hl:l.length<=140737488351232)(hp:p.length<=140737488351232)(hs:s.length<=140737488351232)(hr:r.length<=140737488351232)
def nv:AV:=.agg [.str alias,.int .i64 kd,.int .u64 (b:Nat),.str t,.list l,.list p,.list s,.list r]
include hl hp hs hr in
theorem QjT:Qi prog 323 [nv kd b t l p s r] (.bool (Ze 7 kd b t l p s r)):=by
 have hf:=QaN 7 kd b t l p s r hl hp hs hr;have b0:((7:Int) != 0)=true:=rfl;simp only[vo]at hf;refine wF func323 ?_;simp only[eK,f323,seval];simp only[nv,eE,seval];refine aC QjS ?_;simp only[b0,eE,seval];refine aC hf ?_;simp only[Qa,seval]
include hl hp hs hr in
theorem QjU (last:List UInt8):Qi prog 276 [nv kd b t l p s r,.int .i64 4,.str last,.bool false] (.int .i64 (if Ze 7 kd b t l p s r=true then 0 else 12)):=by
 have hf:=QjT kd b t l p s r hl hp hs hr;obtain⟨ks,vs,h1,h2,h3⟩:=QfI;have hg:AV.gr (.agg [.int .i64 7,.int .i64 84])=true:=rfl;have b0:decide ((4:Int)<1)=false:=rfl;have b1:decide ((4:Int) > 6)=false:=rfl;have b2:(0<=(4:Int))=True:=ό
 have b3:(bits .and .i64 (Int.fdiv 84 (2 ^ min 4 64)) 1==0)=false:=ϊ
 have b4:(bits .and .i64 ((84:Int).fdiv (2 ^ (min (4:Int).toNat IntKind.i64.bits))) 1==0)=false:=ϊ
 simp only[nv]at hf;refine wF func276 ?_;simp only[eK,f276,seval];simp only[nv,eE,seval];refine aC h1 ?_;simp only[Am.Wk,h3,cond_true,h2,hg,b2,b3,eE,seval];refine aC hf ?_;cases Ze 7 kd b t l p s r
 ·simp only[Qok,Qnu,Qa,seval]
 ·simp only[QoX,Qa,seval]
def NcI (k:Nat)(st:St):Prop :=
 ∃f fr i,st=⟨f,[fr],[]⟩/\k=1-i/\i<=1/\(i=0->∃last,f 5=.str last)/\(i=1->Ze 7 kd b t l p s r=true)/\f 1=.int .i64 4/\f 12=.list [nv kd b t l p s r]/\f 13=.int .i64 1/\f 14=.int .i64 (i:Nat)/\∀s∈[7],(fr s).isRow=false
include hl hp hs hr in
theorem QjV:Qi prog 212 [.list [nv kd b t l p s r],.int .i64 4] (.int .i64 (if Ze 7 kd b t l p s r=true then 0 else 12)):=by
 have b0:decide (((1:Nat):Int) > 8)=false:=rfl;refine wF func212 ?_;simp only[eK,f212,seval];simp only[Qnq,Qn7,QnA,Qa,seval];refine Qj (NcI kd b t l p s r) 1 ⟨_,_,0,rfl,rfl,Qnk _,λ_=>⟨[],ω⟩,(λh=>Á),ω,ω,ω,ω,ϛ⟩ ?_;rintro _ st ⟨f0,bA,i,rfl,rfl,hi,rh,hf,am,aG,aT,dm,r7⟩;refine QR (a:=_) [7] r7 ?_;intro f fr nH hm qE;have h1:f 1=.int .i64 4:=by rw[nH,am]<;>rfl
 have h12:f 12=.list [nv kd b t l p s r]:=by rw[nH,aG]<;>rfl
 have h13:f 13=.int .i64 1:=by rw[nH,aT]<;>rfl
 have eW:f 14=.int .i64 (i:Nat):=by rw[nH,dm]<;>rfl
 have h5:i=0->∃last,f 5=.str last:=λh=>by
  obtain⟨la,e⟩:=rh h;exact⟨la,by rw[nH,e]<;>rfl⟩
 have n7:=qE 7 ϊ;clear nH hm qE am aG aT dm r7 rh;have ho:=λla=>QjU kd b t l p s r hl hp hs hr la
 simp only[nv]at ho h12;simp only[h13,eW,Qa,seval];rcases Nat.le_one_iff_eq_zero_or_eq_one.1 hi with rfl|rfl
 ·obtain⟨la,h5⟩:=h5 rfl;have c0:decide (((0:Nat):Int)<1)=true:=rfl;have c1:decide (((0:Nat):Int) > 0)=false:=rfl;have e1:IntKind.i64.wrap (((0:Nat):Int)+1)=((1:Nat):Int):=rfl;have z0:(0<=((0:Nat):Int))=True:=ό
  have z1:Int.toNat ((0:Nat):Int)=0:=rfl;simp only[Qg,n7,h1,h5,h12,eW,eE,seval];refine aC (ho la) ?_;cases nP:Ze 7 kd b t l p s r
  ·have d0:((12:Int) != 0)=true:=rfl;simp only[d0,Qnu,Qa,seval]
  ·have d0:((0:Int) != 0)=false:=rfl;simp only[d0,eW,eE,seval];exact⟨0,ψ,_,_,1,rfl,rfl,Qm8 _,(λh=>Á),λ_=>nP,ϕ,Γ,Į,ω,ϛ⟩
 ·have c0:decide (((1:Nat):Int)<1)=false:=rfl;simp only[hf rfl,Qa,seval]
end
def Qb8 {M:Nat}{n:PN}(h:n.ok prog M 32)(hM:M<=140737488351232):∃kd b t l p s r,n.val=[.int .i64 kd,.int .u64 ((b:Nat):Int),.str t,.list l,.list p,.list s,.list r]/\t.length<=M/\l.length<=140737488351232/\p.length<=140737488351232/\s.length<=140737488351232/\r.length<=140737488351232:=by
 obtain⟨_,k,hk⟩:=h;obtain⟨k,h⟩:=Jm underlying32 hk;simp only[XL.HasL]at h;obtain⟨_,_,e,h0,_,_,rfl,h1,_,_,rfl,h2,_,_,rfl,h3,_,_,rfl,h4,_,_,rfl,h5,_,_,rfl,h6,rfl⟩:=h;obtain⟨a0,rfl,w0⟩:=Zu underlying3 h0;obtain⟨a1,rfl,w1⟩:=Zu underlying26 h1;obtain⟨a2,rfl,w2⟩:=Wo underlying9 h2;obtain⟨_,l3,rfl,w3,_⟩:=Ul underlying27 h3;obtain⟨_,l4,rfl,w4,_⟩:=Ul underlying28 h4;obtain⟨_,l5,rfl,w5,_⟩:=Ul underlying29 h5;obtain⟨_,l6,rfl,w6,_⟩:=Ul underlying30 h6;have hb:0<=a1:=MJ w1;obtain⟨b,rfl⟩:=QoZ hb;exact⟨a0,b,a2,_,_,_,_,e,w2,Ϗ,Ϗ,Ϗ,Ϗ⟩
def QjW {M:Nat}(hM:M<=140737488351232)(x:PI)(hx:x.ok M)(m:Qk):Qf prog 211 [XQ x] m λy m1=>y=.bool (!Yx x)/\m1=m:=by
 have z0:(0<=(0:Int))=True:=ό
 have z1:Int.toNat 0=0:=rfl;refine wG func211 ?_;simp only[eK,f211,seval];simp only[XQ,PI.cells,Qn6,eE,seval];rcases hn:x.notes with _|⟨n,_|⟨n2,ns⟩⟩
 ·have c0:decide (((0:Nat):Int) > 1)=false:=rfl;have c1:(((0:Nat):Int)==1)=false:=rfl;have e:Yx x=true:=by unfold Yx;rw[hn]
  simp only[Qn7,Qod,e,QoX,eE,seval]
 ·obtain⟨kd,b,t,l,p,s,r,hv,ht,h3,h4,h5,h6⟩:=Qb8 (hx.notes n (by rw[hn];simp)) hM;have c0:decide (((1:Nat):Int) > 1)=false:=rfl;have c1:(((1:Nat):Int)==1)=true:=rfl;have e:Yx x=(n.name==alias&&Ze 7 kd b t l p s r):=by
   unfold Yx;rw[hn];show(n.name==alias&&nok n.val)=_;rw[hv];rfl
  have en:Zs n.cells=.agg [.str n.name,.int .i64 kd,.int .u64 ((b:Nat):Int),.str t,.list l,.list p,.list s,.list r]:=by
   rw[PN.cells,hv];rfl
  have aq:(!(n.name==[97,108,105,97,115]))=!(n.name==alias):=rfl;have hc:=QjV kd b t l p s r h3 h4 h5 h6;simp only[nv]at hc;simp only[Qnq,Qn7,QnJ,Qod,QnA,en,Qg,z0,z1,Qoe,QX,aq,e,eE,seval];by_cases ha:n.name=alias
  ·have b0:(n.name==alias)=true:=by simp[ha]
   rw[<-ha]at hc;simp only[b0,QoX,QoW,eE,seval];refine aC hc ?_;cases Ze 7 kd b t l p s r
   ·have d0:((12:Int) != 0)=true:=rfl;simp only[Qnu,d0,Qok,Qa,seval]
   ·have d0:((0:Int) != 0)=false:=rfl;simp only[d0,QoX,Qa,seval]
  ·have b0:(n.name==alias)=false:=by simp[ha]
   simp only[b0,Qok,QoJ,Qa,seval]
 ·have c0:decide ((((ns.length+1+1:Nat)):Int) > 1)=true:=Qpe ψ;have e:Yx x=false:=by unfold Yx;rw[hn]
  simp only[Qnq,c0,e,Qok,Qa,seval]
def QjX {M:Nat}(hM:M<=140737488351232)(x:PE)(hx:x.ok M)(m:Qk):Qf prog 210 [QH x] m λy m1=>y=.bool (!Yn x)/\m1=m:=by
 have n1:decide ((x.notes.length:Int) > 0)=!x.notes.isEmpty:=by
  cases x.notes with
  |nil=>rfl
  |cons a l=>simp
 refine wG func210 ?_;simp only[eK,f210,seval];simp only[QH,PE.cells,Qn6,Yn,n1,eE,seval];cases a1:x.notes.isEmpty
 ·exact zM
 simp only[QoX,QoW,eE,seval];refine Qh (AB x.items hx.len1 (λo=>!Yx o) 211 [] _ λo ho=>QjW hM o (hx.items o ho) _) ύ ?_;simp only[Zl,Qa,seval]
def QjY {M:Nat}(hM:M<=140737488351232)(P:PL)(hP:P.ok M)(hl:∀g∈P.progs,g.ops.length<=64):Qi prog 125 [P.av] (.bool (!args P)):=by
 have e0:P.av=.agg [.list (P.progs.map Qm),.list (P.enums.map QH)]:=rfl;refine wF func125 ?_;simp only[eK,f125,seval];simp only[e0,args,eE,seval];refine Qh (VD P.progs hP.len1 (λg=>!Ym P g) 204 [.ptr 0 1 0] _ λo ho=>QjR P o (Qm9 (hl o ho) ϊ) _ ω) ύ ?_;simp only[Zl,Qa,seval];cases P.progs.all (Ym P)
 ·exact zM
 simp only[QoX,QoW,eE,seval];refine Qh (Bo P.enums hP.len2 (λg=>!Yn g) 210 [] _ λo ho=>QjX hM o (hP.enums o ho) _) ύ ?_;simp only[Zl,Qa,seval]
def Jh (B:List Bool)(o:PO):Bool:=o.card==1&&o.kind==10 && !(B[o.target.toNat]?.getD false)
def DI (G:List PG)(B:List Bool)(i:Nat):List Bool:=match G[i]? with
 |some g=>B.set i (!g.ops.any (Jh B))
 |none=>B
def KZ (G:List PG)(B:List Bool):Nat->List Bool
 |0=>B
 |i+1=>DI G (KZ G B i) i
def its (G:List PG):Nat->List Bool
 |0=>List.replicate G.length false
 |c+1=>KZ G (its G c) G.length
def fin (P:PL):Bool:=(its P.progs P.progs.length).all id
def Tgt (P:PL):Prop:=∀g∈P.progs,∀o∈g.ops,o.kind=10->0<=o.target/\o.target<(P.progs.length:Int)
def QdU (G:List PG)(B:List Bool)(i:Nat):(DI G B i).length=B.length:=by
 unfold DI;split<;>simp
def Ft (G:List PG)(B:List Bool):∀i,(KZ G B i).length=B.length
 |0=>rfl
 |i+1=>by rw[KZ,QdU,Ft G B i]
def Fu (G:List PG):∀c,(its G c).length=G.length
 |0=>by simp[its]
 |c+1=>by rw[its,Ft,Fu G c]
def SJ (G:List PG)(B:List Bool):Prop:=∀(i:Nat) (g:PG),G[i]? = some g->B[i]? = some true->g.ops.any (Jh B)=false
def IJ {B B':List Bool}(h:∀k:Nat,B[k]?.getD false=true->B'[k]?.getD false=true){o:PO}(hn:Jh B o=false):Jh B' o=false:=by
 unfold Jh at *;cases hc:(o.card==1&&o.kind==10)
 ·rfl
 ·rw[hc]at hn;simp only[QoW,Bool.not_eq_false']at hn |-;rw[h _ hn]
def QdV {G:List PG}{B:List Bool}(h:SJ G B)(i:Nat):SJ G (DI G B i)/\∀k:Nat,B[k]?.getD false=true->(DI G B i)[k]?.getD false=true:=by
 have mono:∀k:Nat,B[k]?.getD false=true->(DI G B i)[k]?.getD false=true:=by
  intro k hk;unfold DI;split
  ·rename_i g hg;by_cases uF:i=k
   ·subst uF;have hb:B[i]? = some true:=by
     cases hB:B[i]? with
     |none=>rw[hB]at hk;cases hk
     |some b=>rw[hB]at hk;simp at hk;rw[hk]
    have aa:=(Qna.1 hb).1;rw[List.getElem?_set_self aa,h i g hg hb];rfl
   ·rw[Qpk uF];exact hk
  ·exact hk
 refine⟨λj g hg hb=>?_,mono⟩;rw[List.any_eq_false];intro o ho;rw[Qpl];have hB:B[j]? = some true\/g.ops.any (Jh B)=false:=by
  unfold DI at hb;split at hb
  ·rename_i g' nU;by_cases d_:i=j
   ·subst d_;rw[hg]at nU;cases nU
    right
    by_cases aa:i<B.length
    ·rw[List.getElem?_set_self aa]at hb
     simpa using hb
    ·rw[QoB Ϗ]at hb;cases hb
   ·rw[Qpk d_]at hb;exact .inl hb
  ·exact .inl hb
 have ha:g.ops.any (Jh B)=false:=hB.elim (h j g hg) id;rw[List.any_eq_false]at ha;exact IJ mono (by simpa using ha o ho)
def VF {G:List PG}{B:List Bool}(h:SJ G B):∀i,SJ G (KZ G B i)
 |0=>h
 |i+1=>(QdV (VF h i) i).1
def SK (G:List PG):∀c,SJ G (its G c)
 |0=>by
  intro i g _ hb;rw[its,List.getElem?_replicate]at hb;split at hb<;>cases hb
 |c+1=>VF (SK G c) _
def QfK {G:List PG}{B:List Bool}(h:SJ G B){i:Nat}{g:PG}{b:Bool}(hg:G[i]? = some g)(hb:B[i]? = some b):DI G B i=B.set i (b || !g.ops.any (Jh B)):=by
 unfold DI;rw[hg];cases b with
 |false=>rfl
 |true=>
  show B.set i _=B.set i (true||_);rw[h i g hg hb];rfl
def AH {P:Program}{f:Fr}{d:Nat}{its:List Am.Item}{m:Qk}{ds:List DF}{K:St->Prop}{k l s:Nat}{args:List RA}{ys:List AV}{v:AV}(hk:Qf P k ys m λx m1=>x=v/\m1=m)(hy:args.map (RA.ev f)=ys)(h:QF P its ⟨QL f d v,m,ds⟩ K) :
  QF P (⟨some d,.callK l s (.f k) args,none⟩ :: its) ⟨f,m,ds⟩ K:=by
 refine⟨k,[],[],v,m,rfl,?_,rfl,h⟩;show Qf P k (args.map (RA.ev f)++[]) m λx m1=>x=v/\m1=m
 rw[Qof,hy];exact hk
def QjZ (B:List Bool)(hl:B.length<=maxLen):Qi prog 277 [.list (B.map AV.bool),.bool false] (.int .i64 (Zn (λb=>!b) B 0)):=by
 let I:Nat->St->Prop:=λk st=>∃f i,st=⟨f,[Qb],[]⟩/\k=B.length-i/\Zn (λb=>!b) B 0=Zn (λb=>!b) (B.drop i) i/\f 0=.list (B.map AV.bool)/\f 1=.bool false/\f 7=.int .i64 (B.length:Nat)/\f 8=.int .i64 (i:Nat)
 refine wF func277 ?_;simp only[eK,f277,seval];simp only[Qn6,Qa,seval];refine Qj I _ ⟨_,0,rfl,rfl,rfl,ω,ω,ω,ω⟩ ?_;rintro _ st ⟨f,i,rfl,rfl,hx,h0,h1,h7,h8⟩;simp only[h7,h8,Qa,seval];by_cases aa:i<B.length
 ·obtain⟨x,hi⟩:∃x,B[i]? = some x:=⟨B[i],Qnb aa⟩;have hg:(B.map AV.bool)[i]? = some (.bool x):=ĭ
  have e1:=Qv i _ aa hl;rw[Bm _ hi]at hx;cases x
  ·rw[Qnj (show(!false)=true from rfl)]at hx;have b0:(false==false)=true:=rfl;simp only[QE aa,Qs,QoF,Qg,hg,b0,h0,h1,h8,hx,eE,seval]
  ·rw[Qni ϊ]at hx;have b0:(false==true)=false:=rfl;simp only[QE aa,Qs,QoF,Qg,hg,b0,h0,h1,h8,e1,eE,seval];exact⟨B.length-(i+1),ψ,_,i+1,rfl,rfl,hx,ϗ,ϕ,Ϫ,ω⟩
 ·have dG:Zn (λb=>!b) B 0 = -1:=ğ
  simp only[QM aa,dG,Qa,seval]
def Qj0 (B:List Bool)(hl:B.length<=maxLen):Qi prog 214 [.list (B.map AV.bool),.bool false] (.bool (!B.all id)):=by
 have e:(!B.all id)=B.any λb=>!b:=by rw[Zl];rfl
 refine wF func214 ?_;simp only[eK,f214,seval];simp only[Qa,seval];refine aC (QjZ B hl) ?_;simp only[WR,e,Qa,seval]
def Qj1 (o:PO)(n:Nat)(B:List Bool)(hB:B.length=n)(ht:o.kind=10->0<=o.target/\o.target<(n:Int))(fr:Nat->Ob)(m:Qk)(h3:fr 3=.cells [.vec 0 9 1 0 n false])(h9:fr 9=.vec 1 1 (B.map AV.bool)) :
  Qf prog 213 [Qw o,.ptr 3 3 0] (Qb :: Qb :: Qb :: fr :: m) λy m1=>y=.bool (Jh B o)/\m1=Qb :: Qb :: Qb :: fr :: m:=by
 refine wG func213 ?_;simp only[eK,f213,seval];simp only[Qw,PO.cells,Jh,eE,seval];cases a1:(o.card==1)
 ·exact ST
 cases a2:(o.kind==10)
 ·simp only[a2,QoJ,QoY,eE,seval]
 obtain⟨t1,t2⟩:=ht (by simpa using a2);obtain⟨t,dY⟩:=QoZ t1;obtain⟨y,hy⟩:∃y,B[t]? = some y:=⟨B[t]' ψ,Qnb ψ⟩;have hg:(B.map AV.bool)[t]? = some (.bool y):=ϳ
 have aa:(t<n)=True:=eq_true ψ;simp only[a2,dY,hy,hg,aa,h3,h9,Qg,Qs,QoF,Qon,QoW,QnA,eE,seval]
structure En (P:PL)(c:Nat)(B:List Bool)(f:Fr)(fr:Nat->Ob):Prop where
 h1:f 1=.ptr 0 1 0
 m1:fr 1=.cells [.list (P.progs.map Qm),.list (P.enums.map QH)]
 h3:f 3=.ptr 0 3 0
 m3:fr 3=.cells [.vec 0 9 1 0 P.progs.length false]
 m9:fr 9=.vec 1 1 (B.map AV.bool)
 h12:f 12=.int .i64 (P.progs.length:Nat)
 h13:f 13=.int .i64 (c:Nat)
 r5:∀s∈[5],(fr s).isRow=false
def En.drop {P:PL}{c:Nat}{B:List Bool}{f f':Fr}{fr ag:Nat->Ob}(h:En P c B f fr)(hf:∀i,f' i=Bj [5] (f i))(hm:∀i,i∉[5]->ag i=Fo [5] (fr i))(hn:∀i∈[5],ag i=.none):En P c B f' ag where
 h1:=by rw[hf,h.h1]<;>rfl
 m1:=by rw[hm 1 ϊ,h.m1]<;>rfl
 h3:=by rw[hf,h.h3]<;>rfl
 m3:=by rw[hm 3 ϊ,h.m3]<;>rfl
 m9:=by rw[hm 9 ϊ,h.m9]<;>rfl
 h12:=by rw[hf,h.h12]<;>rfl
 h13:=by rw[hf,h.h13]<;>rfl
 r5:=λs hs=>by rw[hn s hs]<;>rfl
def EnA (P:PL)(k:Nat)(st:St):Prop:=∃f fr c,st=⟨f,[fr],[]⟩/\k=P.progs.length-c/\c<=P.progs.length/\En P c (its P.progs c) f fr
def EnB (P:PL)(c:Nat)(k:Nat)(st:St):Prop:=∃f fr i,st=⟨f,[fr],[]⟩/\k=P.progs.length-i/\i<=P.progs.length/\En P c (KZ P.progs (its P.progs c) i) f fr/\f 16=.list (P.progs.map Qm)/\f 17=.int .i64 (P.progs.length:Nat)/\f 18=.int .i64 (i:Nat)
def Qj2 {M:Nat}(P:PL)(hP:P.ok M)(hl:P.progs.length<=64)(hT:Tgt P):Qi prog 126 [P.av] (.bool (!fin P)):=by
 have e0:P.av=.agg [.list (P.progs.map Qm),.list (P.enums.map QH)]:=rfl;have kS:P.progs.length<=maxLen:=ώ
 have hz:Jc 1 [AV.bool false]=.bool false:=rfl;have kA:(List.replicate P.progs.length (AV.bool false))=(its P.progs 0).map AV.bool:=by simp[its]
 refine wF func126 ?_;simp only[eK,f126,seval];simp only[e0,Qn6,eE,seval];refine Fj (n:=P.progs.length) (k:=P.progs.length) rfl rfl (Qm8 _) ψ ψ rfl ?_;simp only[hz,kA,Qn6,eE,seval];refine Qj (EnA P) _ ⟨_,_,0,rfl,rfl,Qnk _,⟨ω,ω,ω,ω,ω,ω,ω,ϛ⟩⟩ ?_;rintro _ st ⟨f0,bA,c,rfl,rfl,hc,H0⟩;refine QR (a:=_) [5] H0.r5 ?_;intro f fr hf hm hn;have H:=H0.drop hf hm hn;clear hf hm hn;obtain⟨h1,m1,h3,m3,m9,h12,h13,r5⟩:=id H;simp only[h12,h13,Qa,seval];by_cases aa:c<P.progs.length
 ·have e1:=Qv c _ aa kS;simp only[QE aa,h1,m1,Qn6,eE,seval];refine Qj (EnB P c) _ ⟨_,_,0,rfl,rfl,Qnk _,⟨ϕ,Č,ϖ,ϲ,(by exact m9),Γ,Į,r5⟩,ω,ω,ω⟩ ?_;rintro _ st ⟨f0,bA,i,rfl,rfl,hi,H0,gm,fy,dQ⟩;refine QR (a:=_) [5] H0.r5 ?_;intro f fr hf hm hn;have H:=H0.drop hf hm hn;have fM:f 16=.list (P.progs.map Qm):=by rw[hf,gm]<;>rfl
  have dZ:f 17=.int .i64 (P.progs.length:Nat):=ņ
  have dy:f 18=.int .i64 (i:Nat):=Ĝ
  have n5:=hn 5 ϊ;clear hf hm hn;obtain⟨h1,m1,h3,m3,m9,h12,h13,r5⟩:=id H;simp only[dZ,dy,Qa,seval];by_cases aP:i<P.progs.length
  ·obtain⟨g,hg⟩:∃g,P.progs[i]? = some g:=⟨P.progs[i],Qnb aP⟩;have ep:(P.progs.map Qm)[i]? = some (Qm g):=ĳ
   have sP:(KZ P.progs (its P.progs c) i).length=P.progs.length:=by rw[Ft,Fu]
   obtain⟨b,hb⟩:∃b,(KZ P.progs (its P.progs c) i)[i]? = some b:=⟨_,Qnb ψ⟩;have jN:((KZ P.progs (its P.progs c) i).map AV.bool)[i]? = some (.bool b):=by simp[hb]
   have ay:=QfK (VF (SK P.progs c) i) hg hb;have e2:=Qv i _ aP kS;have s1:(i<P.progs.length)=True:=eq_true aP;have yf:=hT g (Qnp hg);generalize vI:KZ P.progs (its P.progs c) i=B at *;have gk:∀(f':Fr) (ag:Nat->Ob) (v:Bool),(b || !g.ops.any (Jh B))=v->f' 1=.ptr 0 1 0->ag 1=.cells [.list (P.progs.map Qm),.list (P.enums.map QH)]->f' 3=.ptr 0 3 0->ag 3=.cells [.vec 0 9 1 0 P.progs.length false]->
     ag 9=.vec 1 1 ((B.map AV.bool).set i (.bool v))->f' 12=.int .i64 (P.progs.length:Nat)->f' 13=.int .i64 (c:Nat)->(∀s∈[5],(ag s).isRow=false)->f' 16=.list (P.progs.map Qm)->f' 17=.int .i64 (P.progs.length:Nat)->f' 18=.int .i64 ((i+1:Nat):Int)->∃k,k<P.progs.length-i/\EnB P c k ⟨f',[ag],[]⟩:=by
    intro f' ag v hv a1 a2 a3 a4 a5 a6 a7 a8 a9 tU mV;have xK:KZ P.progs (its P.progs c) (i+1)=B.set i v:=by rw[KZ,vI,ay,hv]
    exact⟨P.progs.length-(i+1),ψ,f',ag,i+1,rfl,rfl,ψ,⟨a1,a2,a3,a4,by rw[xK,a5,List.map_set],a6,a7,a8⟩,a9,tU,mV⟩
   have oG:∀(ag:Nat->Ob) (v:Bool),ag 9=.vec 1 1 (B.map AV.bool)->XA [ag] (.vptr 0 9 1 i 0) [.bool v]=some [QL ag 9 (.vec 1 1 ((B.map AV.bool).set i (.bool v)))]:=by
    intro ag v h9;have e:Am.Qc [ag] 0 9=.vec 1 1 (B.map AV.bool):=h9;simp only[XA,e,jN];simp[AV.cells,AV.rfL,AV.rf,Am.put,Ka]
   have ia:∀ag:Nat->Ob,ag 9=.vec 1 1 (B.map AV.bool)->Qg [ag] 1 none (.vec 0 9 1 0 P.progs.length false) (i:Int)=some (.vptr 0 9 1 i 0):=by
    intro ag h9;have e:Am.Qc [ag] 0 9=.vec 1 1 (B.map AV.bool):=h9;simp only[Qg,e,Qs,if_true,QoF];simp;omega
   have aM:=λ(ag:Nat->Ob) (h3:ag 3=.cells [.vec 0 9 1 0 P.progs.length false]) (h9:ag 9=.vec 1 1 (B.map AV.bool))=>Pa g.ops (hP.progs g (Qnp hg)).len (Jh B) 213 [.ptr 0 3 0] [ag] λo ho=>Qj1 o P.progs.length B sP (yf o ho) ag _ h3 h9
   simp only[QE aP,Qs,QoF,Qg,ep,Qm,PG.cells,n5,jN,s1,QnA,h3,fM,dy,m3,m9,eE,seval];cases b
   ·simp only[eE,seval];refine AH (aM _ ϲ (by exact m9)) (by simp only[QnJ,Qod,h3,Qa,seval]<;>rfl) ?_;generalize xa:g.ops.any (Jh B)=av;rw[xa]at gk;exact zW
   ·exact zW
  ·have ow:i=P.progs.length:=ψ
   subst ow;simp only[QM aP,h13,e1,Qa,seval];exact⟨P.progs.length-(c+1),ψ,_,_,c+1,rfl,rfl,ψ,⟨ϕ,Č,ϖ,ϲ,m9,Γ,ω,r5⟩⟩
 ·have bN:c=P.progs.length:=ψ
  subst bN;have sP:=Fu P.progs P.progs.length;simp only[QM aa,h3,m3,eE,seval];refine Zr (Qj0 (its P.progs P.progs.length) ψ) ?_ rfl rfl (.inr rfl) ?_
  ·have el:Am.Qc [fr] 0 9=.vec 1 1 ((its P.progs P.progs.length).map AV.bool):=m9;simp only[QnJ,Qod,AV.stillL,AV.still,el,Qa,seval];have hle:(0+P.progs.length<=((its P.progs P.progs.length).map AV.bool).length)=True:=eq_true Ϗ;have ht:((its P.progs P.progs.length).map AV.bool).take P.progs.length=(its P.progs P.progs.length).map AV.bool:=QnL Ϗ;simp only[QoJ,Qnu,if_false,hle,if_true,ht]
  ·simp only[fin,Qa,seval]
def ck (P:PL):Int :=
 if F2 P=false then 3 else if ND P=false then 8 else if DA P=false then 11 else if M9 P=false then 9 else if NF P=false then 6 else if args P=false then 1 else if fin P=false then 19 else 0
def DJ {P:PL}(h:F2 P=true):P.progs.length<=64/\P.enums.length<=64/\(∀g∈P.progs,g.ops.length<=64)/\∀e∈P.enums,1<=e.items.length/\e.items.length<=64/\e.free.length<=16:=by
 unfold F2 at h;simp only[Qnz,Qnf,Qno]at h;obtain⟨⟨⟨h1,h2⟩,h3⟩,h4⟩:=h;refine⟨h1,h2,λg hg=>?_,λe he=>?_⟩
 ·have:=h3 g hg;unfold Yk at this;exact of_decide_eq_true this
 ·have:=h4 e he;unfold UK at this;simp only[Qnz,Qnf]at this;exact⟨this.1.1,this.1.2,this.2⟩
def Pk {P:PL}(h:args P=true):Tgt P:=by
 intro g hg o ho hk;unfold args at h;simp only[Qnz,Qno]at h;have h1:=h.1 g hg;unfold Ym at h1;simp only[Qnz,Qno]at h1;have h2:=(h1.2 o ho).1;unfold Wx at h2;simp only[Qnz]at h2;have h3:=h2.2;unfold NG at h3;rw[Qnj hk]at h3;simp only[Qnz,Qnf]at h3;exact⟨h3.1.1,h3.1.2⟩
def Qj3 {M:Nat}(P:PL)(hP:P.ok M)(hM:M<=140737488351232)(sG:∀g∈P.progs,g.name.length<=17592186044000)(tA:∀g∈P.enums,g.name.length<=17592186044000):Qi prog 76 [P.av] (.int .i64 (ck P)):=by
 have e0:P.av=.agg [.list (P.progs.map Qm),.list (P.enums.map QH)]:=rfl;have c1:=Qjf P hP;have c2:=Qhi P hP sG tA;have c3:=Qjg P hP;have c4:=Qjq P hP;refine wF func76 ?_;simp only[eK,f76,seval];simp only[e0,ck,eE,seval];refine aC c1 ?_;cases hl:F2 P
 ·exact zO
 obtain⟨l1,l2,l3,l4⟩:=DJ hl;have c5:=Qjx P hP λe he h=>by have:=(l4 e he).1;rw[h]at this;simp at this
 have c6:=QjY hM P hP l3;simp only[QoX,Qpm,eE,seval];refine aC c2 ?_;cases ND P
 ·exact zO
 simp only[QoX,Qpm,eE,seval];refine aC c3 ?_;cases DA P
 ·exact zO
 simp only[QoX,Qpm,eE,seval];refine aC c4 ?_;cases M9 P
 ·exact zO
 simp only[QoX,Qpm,eE,seval];refine aC c5 ?_;cases NF P
 ·exact zO
 simp only[QoX,Qpm,eE,seval];refine aC c6 ?_;cases ha:args P
 ·exact zO
 have c7:=Qj2 P hP l1 (Pk ha);simp only[QoX,Qpm,eE,seval];refine aC c7 ?_;cases fin P
 ·exact zO
 ·simp only[QoX,Qpm,Qa,seval]
def Pc (P:PL):List AV:=[.list (P.progs.map Qm),.list (P.enums.map QH)]
def DK (P:PL):P.av=.agg [.list (P.progs.map Qm),.list (P.enums.map QH)]:=rfl
def QaO (b:Bool)(q:Nat->Bool)(i:Nat):(b&&Qu q (i+1))=((b&&Qu q i)&&q i):=by rw[Qu,QnW]
def Ac (n s:Nat)(q:Nat->Bool)(b:Bool)(c:Nat)(L:List (Nat×AV))(O:List (Nat×Ob))(l:List Nat)(m:Qk):Nat->St->Prop :=
 Ix (λk=>(3,.bool (b&&Qu q k)) :: (c,.int .i64 (k:Nat)) :: L) (λ_=>O) l (λk=>n-k) (λk=>s<=k/\(k<=n\/k=s)) (λ_=>m)
section
variable {P:Program}{a:RC}{Q:Exit->St->Prop}{f:Fr}{fr:Nat->Ob}{m:Qk}{n s k:Nat}{q:Nat->Bool}{b:Bool}{c:Nat}{L:List (Nat×AV)}{O:List (Nat×Ob)}{l:List Nat}
theorem Pl (k:Int):∀l,Bj l (.int .i64 k)=.int .i64 k
 | []=>rfl
 |_ :: l=>Pl k l
theorem Cq (b:Bool):∀l,Bj l (.bool b)=.bool b
 | []=>rfl
 |_ :: l=>Cq b l
theorem XD (n s:Nat)(q:Nat->Bool)(b:Bool)(c:Nat)(L:List (Nat×AV))(O:List (Nat×Ob))(l:List Nat)(h0:(b&&Qu q s)=b)
  (h:∀(k:Nat) f fr,s<=k/\(k<=n\/k=s)->Q1 P a ⟨XW ((3,.bool (b&&Qu q k)) :: (c,.int .i64 (k:Nat)) :: L) f,XW (O++l.map λs=>(s,.none)) fr :: m,[]⟩ (Kl (Ac n s q b c L O l m) (n-k) Q))
  (hf:Ag f ((3,.bool b) :: (c,.int .i64 (s:Nat)) :: L):=by exact rfl) (ho:Ag fr O:=by exact rfl) (hr:(l.all λs=>!(fr s).isRow)=true:=by exact rfl)
  (hs:L.map (λq=>Bj l q.2)=L.map Prod.snd:=by exact rfl) (ht:O.map (λq=>(l.contains q.1,Fo l q.2))=O.map λq=>(false,q.2):=by exact rfl):Q1 P (.loop (Fm l a)) ⟨f,fr :: m,[]⟩ Q :=
 HQ (X:=Nat) (λk=>(3,.bool (b&&Qu q k)) :: (c,.int .i64 (k:Nat)) :: L) (λ_=>O) l (λk=>n-k) (λk=>s<=k/\(k<=n\/k=s)) (λ_=>m) s ⟨Qm8 _,.inr rfl⟩ h (by rw[h0];exact hf) ho hr rfl (λk=>by simp only[QnJ,hs,Pl,Cq]) (λ_=>ht)
theorem Ac.go {v:Bool}(hk:s<=k/\(k<=n\/k=s))(aa:k<n)(hf:Ag f ((3,.bool v) :: (c,.int .i64 ((k+1:Nat):Int)) :: L))(hv:((b&&Qu q k)&&q k)=v)(ho:Ag fr O:=by exact rfl)(hr:(l.all λs=>!(fr s).isRow)=true:=by exact rfl) :
  ∃j,j<n-k/\Ac n s q b c L O l m j ⟨f,fr :: m,[]⟩ :=
 Ix.go (k+1) ψ ⟨ψ,.inl ψ⟩ (by rw[QaO,hv];exact hf) ho hr
theorem Ki (h0:∀i,i<s->q i=true)(hk:s<=k/\(k<=n\/k=s))(hn:¬k<n):Qu q k=Qu q n:=by
 rcases Nat.lt_or_ge n k with h|h
 ·rw[Q7.2 λi hi=>h0 i ψ,Q7.2 λi hi=>h0 i ψ]
 ·rw[show k=n by omega]
theorem ZN {α:Type}{l:List α}{q:α->Bool}{k:Nat}(hk:0<=k/\(k<=l.length\/k=0))(hn:¬k<l.length):Qu (Xr l q) k=l.all q:=by
 rw[Ki (λi hi=>absurd hi (Qpn i)) hk hn,Gv]
end
def Xp {α:Type}{l:List α}{i:Nat}{x:α}(g:α->AV)(h:l[i]? = some x):(l.map g)[i]? = some (g x):=by
 rw[QoA,h];rfl
section
variable {M:Nat}(P:PL)(hP:P.ok M)
include hP
theorem z33:Qi prog 33 [P.av] (.bool (F2 P)):=by
 obtain⟨B,hB⟩:∃B,(decide ((P.progs.length:Int)<=64)&&decide ((P.enums.length:Int)<=64))=B:=⟨_,rfl⟩;have hl:F2 P=((B&&P.progs.all Yk)&&P.enums.all UK):=by
  rw[<-hB,show decide ((P.progs.length:Int)<=64)=decide (P.progs.length<=64)by rw[decide_eq_decide];omega,show decide ((P.enums.length:Int)<=64)=decide (P.enums.length<=64)by rw[decide_eq_decide];omega];rfl
 refine wF func33 ?_;simp only[eK,f33,seval];simp only[DK,Qn6,eE,seval];cases c1:decide ((P.progs.length:Int)<=64)
 all_goals
  rw[c1]at hB;simp only[QoW,QoJ]at hB;simp only[Qn6,cond_true,cond_false,eE,seval];refine XD P.progs.length 0 (Xr P.progs Yk) B 4 [(1,.ptr 0 1 0)] [(1,.cells (Pc P))] [] ϯ ?_ (by rw[<-hB];rfl);rintro k f fr hk;simp only[Pc,Qn6,XW,Qod,eE,seval];rcases X8 P.progs k with⟨x,hx,aa⟩|aa
  ·have hg:=Xp Qm hx;have e1:=Qv k _ aa hP.len1;have e3:decide ((x.ops.length:Int)<=64)=Yk x:=by unfold Yk;exact(by rw[Qn5];simp only[Qnf];omega)
   rw[DC]at hg;cases hb:(B&&Qu (Xr P.progs Yk) k)
   ·simp only[QE aa,e1,cond_true,cond_false,Qa,seval];exact Ac.go hk aa rfl ò
   ·simp only[QE aa,Qs,QoF,Qg,hg,Qn6,e1,e3,cond_true,cond_false,eE,seval];exact Ac.go hk aa rfl (by rw[hb,X0 hx];rfl)
  simp only[QM aa,ZN hk aa,Qa,seval];refine XD P.enums.length 0 (Xr P.enums UK) (B&&P.progs.all Yk) 5 [(1,.ptr 0 1 0)] [(1,.cells (Pc P))] [] ϯ ?_;rintro k f fr hk;simp only[Pc,Qn6,XW,Qod,eE,seval];rcases X8 P.enums k with⟨x,hx,aa⟩|aa
  ·have hg:=Xp QH hx;have e1:=Qv k _ aa hP.len2;have e3:((decide ((x.items.length:Int)>=1)&&decide ((x.items.length:Int)<=64))&&decide ((x.free.length:Int)<=16))=UK x:=by unfold UK;exact(by rw[Qn5];simp only[Qnf,Qnz];omega)
   rw[DB]at hg;simp only[QE aa,Qs,QoF,Qg,hg,Qn6,eE,seval];cases hb:((B&&P.progs.all Yk)&&Qu (Xr P.enums UK) k)
   ·simp only[e1,cond_true,cond_false,Qa,seval];exact Ac.go hk aa rfl ò
   cases c2:decide ((x.items.length:Int)>=1)<;>cases c3:decide ((x.items.length:Int)<=64) <;>
   ·rw[c2,c3]at e3;simp only[Qs,QoF,Qg,hg,Qn6,c2,c3,e1,cond_true,cond_false,eE,seval];exact Ac.go (v:=(UK x)) hk aa (by rw[<-e3];rfl) (by rw[hb,X0 hx];rfl)
  simp only[QM aa,ZN hk aa,hl,Qa,seval]
theorem z34:Qi prog 34 [P.av] (.bool (ND P)):=by
 have hn:ND P=(P.progs.all WQ&&P.enums.all HC):=rfl;obtain⟨T,hT⟩:∃T,T=true:=⟨_,rfl⟩;refine wF func34 ?_;simp only[eK,f34,seval];simp only[DK,eE,seval];refine XD P.progs.length 0 (Xr P.progs WQ) T 4 [(1,.ptr 0 1 0)] [(1,.cells (Pc P))] [] (by simp[Qu]) ?_ (by(rw[hT];rfl));rintro k f fr hk;simp only[Pc,Qn6,XW,Qod,eE,seval];rcases X8 P.progs k with⟨x,hx,aa⟩|aa
 ·have hg:=Xp Qm hx;have e1:=Qv k _ aa hP.len1;have bH:=(hP.progs x (Qnp hx)).len;rw[DC]at hg;simp only[QE aa,Qa,seval];cases hb:(T&&Qu (Xr P.progs WQ) k)
  case' false=>simp only[cond_true,cond_false,Qa,seval]
  case' true=>
   simp only[Qs,QoF,Qg,hg,cond_true,cond_false,eE,seval];refine aC (z70 x.name) ?_;simp only[cond_true,cond_false,Qa,seval]
  all_goals
   refine XD x.ops.length 0 (Xr x.ops λo=>Yi o.name) ((T&&Qu (Xr P.progs WQ) k)&&Yj x.name) 5 [(1,.ptr 0 1 0),(4,.int .i64 (k:Nat))] [(1,.cells (Pc P))] [] (by simp[Qu]) ?_ (by rw[hb];rfl);rintro j f fr hj;simp only[Pc,Qs,QoF,Qg,hg,Qn6,XW,Qod,eE,seval];rcases X8 x.ops j with⟨o,ho,a_⟩|a_
   ·have bG:=Xp Qw ho;have e2:=Qv j _ a_ bH;rw[DD]at bG;cases hc:((T&&Qu (Xr P.progs WQ) k)&&Yj x.name)&&Qu (Xr x.ops λo=>Yi o.name) j
    ·simp only[QE a_,e2,cond_true,cond_false,Qa,seval];exact Ac.go hj a_ rfl (by rw[hc];rfl)
    ·simp only[QE a_,Qs,QoF,Qg,hg,bG,cond_true,cond_false,eE,seval];refine aC (z71 o.name) ?_;simp only[e2,cond_true,cond_false,Qa,seval];exact Ac.go hj a_ rfl (by rw[hc,X0 ho];rfl)
   simp only[QM a_,ZN hj a_,e1,Qa,seval];exact Ac.go hk aa rfl (by rw[X0 hx];exact(QnW ..).symm)
 simp only[QM aa,ZN hk aa,hT,QoW,Qa,seval]
 refine XD P.enums.length 0 (Xr P.enums HC) (P.progs.all WQ) 6 [(1,.ptr 0 1 0)] [(1,.cells (Pc P))] [] (by simp[Qu]) ?_ (by rfl);rintro k f fr hk;simp only[Pc,Qn6,XW,Qod,eE,seval];rcases X8 P.enums k with⟨x,hx,aa⟩|aa
 ·have hg:=Xp QH hx;have e1:=Qv k _ aa hP.len2;have bH:=(hP.enums x (Qnp hx)).len1;rw[DB]at hg;simp only[QE aa,Qa,seval];cases hb:((P.progs.all WQ)&&Qu (Xr P.enums HC) k)
  case' false=>simp only[cond_true,cond_false,Qa,seval]
  case' true=>
   simp only[Qs,QoF,Qg,hg,cond_true,cond_false,eE,seval];refine aC (z70 x.name) ?_;simp only[cond_true,cond_false,Qa,seval]
  all_goals
   refine XD x.items.length 0 (Xr x.items λo=>Yi o.name) (((P.progs.all WQ)&&Qu (Xr P.enums HC) k)&&Yj x.name) 7 [(1,.ptr 0 1 0),(6,.int .i64 (k:Nat))] [(1,.cells (Pc P))] [] (by simp[Qu]) ?_ (by rw[hb];rfl);rintro j f fr hj;simp only[Pc,Qs,QoF,Qg,hg,Qn6,XW,Qod,eE,seval];rcases X8 x.items j with⟨o,ho,a_⟩|a_
   ·have bG:=Xp XQ ho;have e2:=Qv j _ a_ bH;rw[VC]at bG;cases hc:(((P.progs.all WQ)&&Qu (Xr P.enums HC) k)&&Yj x.name)&&Qu (Xr x.items λo=>Yi o.name) j
    ·simp only[QE a_,e2,cond_true,cond_false,Qa,seval];exact Ac.go hj a_ rfl (by rw[hc];rfl)
    ·simp only[QE a_,Qs,QoF,Qg,hg,bG,cond_true,cond_false,eE,seval];refine aC (z71 o.name) ?_;simp only[e2,cond_true,cond_false,Qa,seval];exact Ac.go hj a_ rfl (by rw[hc,X0 ho];rfl)
   simp only[QM a_,ZN hj a_,e1,Qa,seval];exact Ac.go hk aa rfl (by rw[X0 hx];exact(QnW ..).symm)
 simp only[QM aa,ZN hk aa,hn,Qa,seval]
theorem z35:Qi prog 35 [P.av] (.bool (DA P)):=by
 have hn:DA P=((JM P.progs (X3 PG.name)&&P.progs.all Yl)&&(JM P.enums (X3 PE.name)&&P.enums.all HD)):=by
  unfold DA;cases JM P.progs (X3 PG.name)<;>cases P.progs.all Yl<;>cases JM P.enums (X3 PE.name)<;>rfl
 obtain⟨T,hT⟩:∃T,T=true:=⟨_,rfl⟩;refine wF func35 ?_;simp only[eK,f35,seval];simp only[DK,eE,seval];refine XD P.progs.length 0 (λi=>ZE P.progs (X3 PG.name) i&&Xr P.progs Yl i) T 4 [(1,.ptr 0 1 0)] [(1,.cells (Pc P))] [] (by simp[Qu]) ?_ (by(rw[hT];rfl));rintro k f fr hk;simp only[Pc,Qn6,XW,Qod,eE,seval];rcases X8 P.progs k with⟨x,hx,aa⟩|aa
 ·have hg:=Xp Qm hx;have e1:=Qv k _ aa hP.len1;have bH:=(hP.progs x (Qnp hx)).len;rw[DC]at hg;simp only[QE aa,Qa,seval];obtain⟨A,hA⟩:∃A,(T&&Qu (λi=>ZE P.progs (X3 PG.name) i&&Xr P.progs Yl i) k)=A:=⟨_,rfl⟩;rcases (show(A=false)\/(A=true/\k=0)\/(A=true/\∃j y,k=j+1/\P.progs[j]? = some y)by
   cases A
   ·exact .inl rfl
   ·cases k with
    |zero=>exact .inr (.inl ⟨rfl,rfl⟩)
    |succ j=>exact .inr (.inr ⟨rfl,j,P.progs[j]'(by omega),rfl,Qnb (by omega)⟩))with h|⟨h,h0⟩|⟨h,j,y,h0,hy⟩
  case' inl=>
   have hv:(A&&ZE P.progs (X3 PG.name) k)=false:=by rw[h];rfl
   simp only[hA,h,cond_true,cond_false,Qa,seval]
  case' inr.inl=>
   have hv:(A&&ZE P.progs (X3 PG.name) k)=true:=by rw[h,h0];rfl
   have b0:((k:Int)==0)=true:=by rw[h0];rfl
   simp only[hA,h,b0,cond_true,cond_false,Qa,seval]
  case' inr.inr=>
   have gS:=Xp Qm hy;have hv:(A&&ZE P.progs (X3 PG.name) k)=(X3 PG.name) y x:=by
    subst h0;rw[h,Yh hy hx];rfl
   have b0:((k:Int)==0)=false:=by rw[Qo2];omega
   have wj:IntKind.i64.wrap ((k:Int)-1)=(j:Int):=by
    subst h0;exact DE j _ aa hP.len1
   rw[DC]at gS;simp only[hA,h,b0,wj,Qs,QoF,Qg,hg,gS,QX,cond_true,cond_false,eE,seval]
  all_goals
   refine XD x.ops.length 1 (ZE x.ops (Wv PO.num)) (A&&ZE P.progs (X3 PG.name) k) 5 [(1,.ptr 0 1 0),(4,.int .i64 (k:Nat))] [(1,.cells (Pc P))] [] (by simp[Qu,ZE]) ?_ (by rw[hv];rfl);rintro i f fr hi;simp only[Pc,Qs,QoF,Qg,hg,Qn6,XW,Qod,eE,seval];rcases X8 x.ops i with⟨o,ho,aP⟩|aP
   ·obtain⟨i,rfl⟩:∃n,i=n+1:=⟨i-1,by omega⟩;obtain⟨z,hz⟩:∃z,x.ops[i]? = some z:=⟨x.ops[i]'(by omega),Qnb (by omega)⟩;have bG:=Xp Qw ho;have i7:=Xp Qw hz;have e2:=Qv (i+1) _ aP bH;have wi:=DE i _ aP bH;rw[DD]at bG i7;cases hc:(A&&ZE P.progs (X3 PG.name) k)&&Qu (ZE x.ops (Wv PO.num)) (i+1)
    ·simp only[QE aP,e2,cond_true,cond_false,Qa,seval];exact Ac.go hi aP rfl (by rw[hc];rfl)
    ·simp only[QE aP,Qs,QoF,Qg,hg,bG,i7,wi,e2,cond_true,cond_false,eE,seval];exact Ac.go hi aP rfl (by rw[hc,Yh hz ho];rfl)
   have he:Qu (ZE x.ops (Wv PO.num)) i=Yl x:=Ki (λi hi=>by rw[show i=0 by omega];rfl) hi aP;simp only[QM aP,he,e1,Qa,seval];exact Ac.go hk aa rfl (by rw[hA,X0 hx,QnW])
 have he:Qu (λi=>ZE P.progs (X3 PG.name) i&&Xr P.progs Yl i) k=(JM P.progs (X3 PG.name)&&P.progs.all Yl):=by
  rw[Ki (λi hi=>absurd hi (Qpn i)) hk aa,Bn,Gv];rfl
 simp only[QM aa,he,hT,QoW,Qa,seval]
 refine XD P.enums.length 0 (λi=>ZE P.enums (X3 PE.name) i&&Xr P.enums HD i) (JM P.progs (X3 PG.name)&&P.progs.all Yl) 6 [(1,.ptr 0 1 0)] [(1,.cells (Pc P))] [] (by simp[Qu]) ?_ (by rfl);rintro k f fr hk;simp only[Pc,Qn6,XW,Qod,eE,seval];rcases X8 P.enums k with⟨x,hx,aa⟩|aa
 ·have hg:=Xp QH hx;have e1:=Qv k _ aa hP.len2;have bH:=(hP.enums x (Qnp hx)).len1;rw[DB]at hg;simp only[QE aa,Qa,seval];obtain⟨A,hA⟩:∃A,((JM P.progs (X3 PG.name)&&P.progs.all Yl)&&Qu (λi=>ZE P.enums (X3 PE.name) i&&Xr P.enums HD i) k)=A:=⟨_,rfl⟩;rcases (show(A=false)\/(A=true/\k=0)\/(A=true/\∃j y,k=j+1/\P.enums[j]? = some y)by
   cases A
   ·exact .inl rfl
   ·cases k with
    |zero=>exact .inr (.inl ⟨rfl,rfl⟩)
    |succ j=>exact .inr (.inr ⟨rfl,j,P.enums[j]'(by omega),rfl,Qnb (by omega)⟩))with h|⟨h,h0⟩|⟨h,j,y,h0,hy⟩
  case' inl=>
   have hv:(A&&ZE P.enums (X3 PE.name) k)=false:=by rw[h];rfl
   simp only[hA,h,cond_true,cond_false,Qa,seval]
  case' inr.inl=>
   have hv:(A&&ZE P.enums (X3 PE.name) k)=true:=by rw[h,h0];rfl
   have b0:((k:Int)==0)=true:=by rw[h0];rfl
   simp only[hA,h,b0,cond_true,cond_false,Qa,seval]
  case' inr.inr=>
   have gS:=Xp QH hy;have hv:(A&&ZE P.enums (X3 PE.name) k)=(X3 PE.name) y x:=by
    subst h0;rw[h,Yh hy hx];rfl
   have b0:((k:Int)==0)=false:=by rw[Qo2];omega
   have wj:IntKind.i64.wrap ((k:Int)-1)=(j:Int):=by
    subst h0;exact DE j _ aa hP.len2
   rw[DB]at gS;simp only[hA,h,b0,wj,Qs,QoF,Qg,hg,gS,QX,cond_true,cond_false,eE,seval]
  all_goals
   refine XD x.items.length 1 (ZE x.items (Wv PI.num)) (A&&ZE P.enums (X3 PE.name) k) 7 [(1,.ptr 0 1 0),(6,.int .i64 (k:Nat))] [(1,.cells (Pc P))] [] (by simp[Qu,ZE]) ?_ (by rw[hv];rfl);rintro i f fr hi;simp only[Pc,Qs,QoF,Qg,hg,Qn6,XW,Qod,eE,seval];rcases X8 x.items i with⟨o,ho,aP⟩|aP
   ·obtain⟨i,rfl⟩:∃n,i=n+1:=⟨i-1,by omega⟩;obtain⟨z,hz⟩:∃z,x.items[i]? = some z:=⟨x.items[i]'(by omega),Qnb (by omega)⟩;have bG:=Xp XQ ho;have i7:=Xp XQ hz;have e2:=Qv (i+1) _ aP bH;have wi:=DE i _ aP bH;rw[VC]at bG i7;cases hc:(A&&ZE P.enums (X3 PE.name) k)&&Qu (ZE x.items (Wv PI.num)) (i+1)
    ·simp only[QE aP,e2,cond_true,cond_false,Qa,seval];exact Ac.go hi aP rfl (by rw[hc];rfl)
    ·simp only[QE aP,Qs,QoF,Qg,hg,bG,i7,wi,e2,cond_true,cond_false,eE,seval];exact Ac.go hi aP rfl (by rw[hc,Yh hz ho];rfl)
   have he:Qu (ZE x.items (Wv PI.num)) i=HD x:=Ki (λi hi=>by rw[show i=0 by omega];rfl) hi aP;simp only[QM aP,he,e1,Qa,seval];exact Ac.go hk aa rfl (by rw[hA,X0 hx,QnW])
 have he:Qu (λi=>ZE P.enums (X3 PE.name) i&&Xr P.enums HD i) k=(JM P.enums (X3 PE.name)&&P.enums.all HD):=by
  rw[Ki (λi hi=>absurd hi (Qpn i)) hk aa,Bn,Gv];rfl
 simp only[QM aa,he,hn,Qa,seval]
end
def z72 (L:List PS)(hl:L.length<=maxLen)(n:Int):Qi prog 72 [.list (L.map J3),.int .i64 n] (.bool (kept L n)):=by
 refine wF func72 ?_;simp only[eK,f72,seval];simp only[Qa,seval];refine HQ (X:=Nat) (λk=>[(0,.list (L.map J3)),(1,.int .i64 n),(5,.int .i64 (k:Nat))]) (λ_=>[]) [] (λk=>L.length-k) (λk=>k<=L.length/\kept (L.take k) n=false) (λ_=>[]) 0 ⟨Qnk _,rfl⟩ ?_;rintro k f fr ⟨hk,hz⟩;simp only[Qn6,XW,Qod,Qa,seval];rcases X8 L k with⟨x,hx,aa⟩|aa
 case inr=>
  rw[QnL ψ]at hz;simp only[QM aa,hz,Qa,seval]
 have hg:=Xp J3 hx;have e1:=Qv k _ aa hl;have ht:kept (L.take (k+1)) n=_:=M8 hx;have tD:(decide (x.lo<=n)&&decide (n<=x.hi))=true->kept L n=true:=λh=>QoU.2 ⟨x,Qnp hx,h⟩
 rw[show((L.take k).any λx=>decide (x.lo<=n)&&decide (n<=x.hi))=false from hz,Qo1]at ht;simp only[J3,PS.cells]at hg;simp only[QE aa,Qs,QoF,Qg,hg,eE,seval];cases a1:decide (x.lo<=n)
 ·simp only[e1,cond_true,cond_false,Qa,seval];exact Ix.go (k+1) ψ ⟨ψ,by rw[ht,a1];rfl⟩
 cases a2:decide (n<=x.hi)
 ·simp only[a2,Qs,QoF,Qg,hg,e1,cond_true,cond_false,eE,seval];exact Ix.go (k+1) ψ ⟨ψ,by rw[ht,a1,a2];rfl⟩
 ·rw[tD (by rw[a1,a2];rfl)];simp only[a2,Qs,QoF,Qg,hg,cond_true,cond_false,eE,seval]
def DL {α:Type}{l:List α}{p:α->Bool}:∀ {j:Nat},j<=l.length->Qu (Xr l p) j=(l.take j).all p
 |0,_=>ϯ
 |j+1,h=>by
  have hx:l[j]? = some l[j]:=Qnb ψ;rw[Qu,DL ψ,Gw hx,X0 hx]
def z36 {M:Nat}(P:PL)(hP:P.ok M):Qi prog 36 [P.av] (.bool (M9 P)):=by
 have hn:M9 P=(P.progs.all (K9 P)&&P.enums.all Gy):=rfl;obtain⟨T,hT⟩:∃T,T=true:=⟨_,rfl⟩;refine wF func36 ?_;simp only[eK,f36,seval];simp only[DK,eE,seval];refine XD P.progs.length 0 (Xr P.progs (K9 P)) T 4 [(1,.ptr 0 1 0)] [(1,.cells (Pc P))] [] ϯ ?_ (by rw[hT];rfl);rintro k f fr hk;simp only[Pc,Qn6,XW,Qod,eE,seval];rcases X8 P.progs k with⟨x,hx,aa⟩|aa
 ·have hg:=Xp Qm hx;have e1:=Qv k _ aa hP.len1;have bH:=(hP.progs x (Qnp hx)).len;rw[DC]at hg;simp only[QE aa,Qa,seval];refine XD P.enums.length 0 (Xr P.enums λe=>!(e.name==x.name)) (T&&Qu (Xr P.progs (K9 P)) k) 5 [(1,.ptr 0 1 0),(4,.int .i64 (k:Nat))] [(1,.cells (Pc P))] [] ϯ ?_;rintro j f fr hj;simp only[Pc,Qn6,XW,Qod,eE,seval];rcases X8 P.enums j with⟨y,hy,a_⟩|a_
  ·have gS:=Xp QH hy;have e2:=Qv j _ a_ hP.len2;have dI:(x.name==y.name)=(y.name==x.name):=by rw[Qn5,Qng,Qng];exact⟨Eq.symm,Eq.symm⟩
   rw[DB]at gS;cases hc:(T&&Qu (Xr P.progs (K9 P)) k)&&Qu (Xr P.enums λe=>!(e.name==x.name)) j
   ·exact zR
   ·simp only[QE a_,Qs,QoF,Qg,hg,gS,QX,dI,e2,cond_true,cond_false,eE,seval];exact Ac.go hj a_ rfl (by rw[hc,X0 hy];rfl)
  simp only[QM a_,ZN hj a_,Qs,QoF,Qg,hg,eE,seval];refine XD x.ops.length 0 (uniq x.ops PO.name) ((T&&Qu (Xr P.progs (K9 P)) k)&&P.enums.all λe=>!(e.name==x.name)) 7 [(1,.ptr 0 1 0),(4,.int .i64 (k:Nat)),(6,.list (x.ops.map Qw))] [(1,.cells (Pc P))] [] ϯ ?_;rintro i f fr hi;simp only[Pc,Qn6,XW,Qod,Qa,seval];rcases X8 x.ops i with⟨o,ho,aP⟩|aP
  ·have bG:=Xp Qw ho;have e2:=Qv i _ aP bH;rw[DD]at bG;simp only[QE aP,Qa,seval];refine XD i 0 (Xr x.ops λy=>!(y.name==o.name)) (((T&&Qu (Xr P.progs (K9 P)) k)&&P.enums.all λe=>!(e.name==x.name))&&Qu (uniq x.ops PO.name) i) 8 [(1,.ptr 0 1 0),(4,.int .i64 (k:Nat)),(6,.list (x.ops.map Qw)),(7,.int .i64 (i:Nat))] [(1,.cells (Pc P))] [] ϯ ?_;rintro n f fr eO;simp only[Pc,XW,Qod,Qa,seval];by_cases cW:n<i
   ·obtain⟨z,hz⟩:∃z,x.ops[n]? = some z:=⟨x.ops[n]' ψ,Qnb ψ⟩;have i7:=Xp Qw hz;have e3:=Qv n _ (show n<x.ops.length by omega) bH;rw[DD]at i7;cases hc:(((T&&Qu (Xr P.progs (K9 P)) k)&&P.enums.all λe=>!(e.name==x.name))&&Qu (uniq x.ops PO.name) i)&&Qu (Xr x.ops λy=>!(y.name==o.name)) n
    ·exact OY
    ·exact Ou
   have he:Qu (Xr x.ops λy=>!(y.name==o.name)) n=uniq x.ops PO.name i:=by
    rw[Ki (λi hi=>absurd hi (Qpn i)) eO cW,DL ψ,Fs ho]
   simp only[QM cW,he,e2,Qa,seval];exact Ac.go hi aP rfl rfl
  have he:Qu (uniq x.ops PO.name) i=UJ x.ops PO.name:=Ki (λi hi=>absurd hi (Qpn i)) hi aP;simp only[QM aP,he,e1,Qa,seval];exact Ac.go hk aa rfl (by rw[X0 hx];exact(QnW ..).symm)
 simp only[QM aa,ZN hk aa,hT,QoW,Qa,seval];refine XD P.enums.length 0 (Xr P.enums Gy) (P.progs.all (K9 P)) 9 [(1,.ptr 0 1 0)] [(1,.cells (Pc P))] [] ϯ ?_;rintro k f fr hk;simp only[Pc,Qn6,XW,Qod,eE,seval];rcases X8 P.enums k with⟨x,hx,aa⟩|aa
 ·have hg:=Xp QH hx;have e1:=Qv k _ aa hP.len2;have bH:=(hP.enums x (Qnp hx)).len1;rw[DB]at hg;simp only[QE aa,Qs,QoF,Qg,hg,eE,seval];refine XD x.items.length 0 (uniq x.items PI.name) (P.progs.all (K9 P)&&Qu (Xr P.enums Gy) k) 11 [(1,.ptr 0 1 0),(9,.int .i64 (k:Nat)),(10,.list (x.items.map XQ))] [(1,.cells (Pc P))] [] ϯ ?_;rintro i f fr hi;simp only[Pc,Qn6,XW,Qod,Qa,seval];rcases X8 x.items i with⟨o,ho,aP⟩|aP
  ·have bG:=Xp XQ ho;have e2:=Qv i _ aP bH;rw[VC]at bG;simp only[QE aP,Qa,seval];refine XD i 0 (Xr x.items λy=>!(y.name==o.name)) ((P.progs.all (K9 P)&&Qu (Xr P.enums Gy) k)&&Qu (uniq x.items PI.name) i) 12 [(1,.ptr 0 1 0),(9,.int .i64 (k:Nat)),(10,.list (x.items.map XQ)),(11,.int .i64 (i:Nat))] [(1,.cells (Pc P))] [] ϯ ?_;rintro n f fr eO;simp only[Pc,XW,Qod,Qa,seval];by_cases cW:n<i
   ·obtain⟨z,hz⟩:∃z,x.items[n]? = some z:=⟨x.items[n]' ψ,Qnb ψ⟩;have i7:=Xp XQ hz;have e3:=Qv n _ (show n<x.items.length by omega) bH;rw[VC]at i7;cases hc:((P.progs.all (K9 P)&&Qu (Xr P.enums Gy) k)&&Qu (uniq x.items PI.name) i)&&Qu (Xr x.items λy=>!(y.name==o.name)) n
    ·exact OY
    ·exact Ou
   have he:Qu (Xr x.items λy=>!(y.name==o.name)) n=uniq x.items PI.name i:=by
    rw[Ki (λi hi=>absurd hi (Qpn i)) eO cW,DL ψ,Fs ho]
   simp only[QM cW,he,e2,Qa,seval];exact Ac.go hi aP rfl rfl
  have he:Qu (uniq x.items PI.name) i=UJ x.items PI.name:=Ki (λi hi=>absurd hi (Qpn i)) hi aP;simp only[QM aP,he,e1,Qa,seval];exact Ac.go hk aa rfl (by rw[X0 hx];exact rfl)
 exact τ
def QfL:Qi prog 115 [.str alias] (.int .i64 7):=by
 refine wF func115 ?_;simp only[eK,f115,seval];have b1:(alias==([100,101,112,114,101,99,97,116,101,100]:List UInt8))=false:=ϊ
 have b2:(alias==([115,101,99,114,101,116]:List UInt8))=false:=ϊ
 have b3:(alias==([105,100,101,109,112,111,116,101,110,116]:List UInt8))=false:=ϊ
 have b4:(alias==([100,111,99]:List UInt8))=false:=ϊ
 have b5:(alias==([97,108,105,97,115]:List UInt8))=true:=ϊ
 simp only[QX,b1,b2,b3,b4,b5,Qa,seval]
def Qj4:Qi prog 116 [.str alias,.int .i64 4] (.bool true):=by
 refine wF func116 ?_;simp only[eK,f116,seval];have b1:(alias==([100,101,112,114,101,99,97,116,101,100]:List UInt8))=false:=ϊ
 have b4:(alias==([100,111,99]:List UInt8))=false:=ϊ
 have b5:(alias==([97,108,105,97,115]:List UInt8))=true:=ϊ
 have c2:((4:Int)==2)=false:=rfl;have c4:((4:Int)==4)=true:=rfl;simp only[QX,b1,b4,b5,c2,c4,Qa,seval]
section
variable (kd:Int)(b:Nat)(t:List UInt8)(l p s r:List AV)(ht:t.length+8<=maxLen)
include ht
theorem Qj5:Qi prog 170 [.int .i64 7,vo kd b t l p s r] (.bool (Ze 7 kd b t l p s r)):=by
 have hl:=QfF kd b t l p s r;simp only[vo]at hl;have n1:(kd != 7)=!(kd==7):=rfl;have k7:isk 7=true:=rfl;have t7:Zz 7=true:=rfl;have f7:Wb 7 b=true:=rfl;have c8:((7:Int)==8)=false:=rfl;have c7:((7:Int) != 7)=false:=rfl;refine wF func170 ?_;simp only[eK,f170,seval];simp only[vo,Ze,k7,f7,c7,QoW,Qoq,Qo1,eE,seval];refine aC (Qaw 7) ?_;simp only[k7,n1,QoX,eE,seval];by_cases hk:kd=7
 ·subst hk;have a1:((7:Int)==7)=true:=rfl;simp only[a1,QoX,QoW,t7,eE,seval];refine aC hl ?_;cases Hn l p s r
  ·exact zM
  simp only[QoX,QoW,Qa,seval];refine aC (Vz 7) ?_;simp only[t7,eE,seval];cases a2:((b:Int)==0)
  ·exact ST
  cases a3:decide ((t.length:Int)<=4096)
  ·simp only[a3,QoJ,QoY,eE,seval]
  simp only[a3,c8,QoW,eE,seval];refine aC (QfD t ht) ?_;simp only[Qa,seval]
 ·have a1:(kd==7)=false:=Α
  simp only[a1,Qok,QoJ,Qa,seval]
theorem Qj6:Qi prog 117 [nv kd b t l p s r] (.bool (Ze 7 kd b t l p s r)):=by
 have hf:=Qj5 kd b t l p s r ht;have b0:((7:Int) != 0)=true:=rfl;simp only[vo]at hf;refine wF func117 ?_;simp only[eK,f117,seval];simp only[nv,eE,seval];refine aC QfL ?_;simp only[b0,eE,seval];cases a1:(kd==7)
 ·have e:Ze 7 kd b t l p s r=false:=by unfold Ze;rw[a1];rfl
  simp only[e,Qa,seval]
 ·simp only[eE,seval];refine aC hf ?_;simp only[Qa,seval]
def RcI (k:Nat)(st:St):Prop :=
 ∃f i,st=⟨f,[Qb],[]⟩/\k=1-i/\i<=1/\(i=1->Ze 7 kd b t l p s r=true)/\f 0=.list [nv kd b t l p s r]/\f 1=.int .i64 4/\f 5=.int .i64 (i:Nat)
theorem z73:Qi prog 73 [.list [nv kd b t l p s r],.int .i64 4] (.int .i64 (if Ze 7 kd b t l p s r=true then 0 else 12)):=by
 have b0:decide (((1:Nat):Int) > 8)=false:=rfl;have hr:=Qj6 kd b t l p s r ht;simp only[nv]at hr;refine wF func73 ?_;simp only[eK,f73,seval];simp only[Qnq,Qn7,QnA,Qa,seval];refine Qj (RcI kd b t l p s r) 1 ⟨_,0,rfl,rfl,Qnk _,(λh=>Á),ω,ω,ω⟩ ?_;rintro _ st ⟨f,i,rfl,rfl,hi,hf,h0,h1,h5⟩;simp only[nv]at h0;simp only[h0,h5,Qnq,Qn7,QnA,Qa,seval];rcases Nat.le_one_iff_eq_zero_or_eq_one.1 hi with rfl|rfl
 ·have c0:decide (((0:Nat):Int)<((1:Nat):Int))=true:=rfl;have c1:decide (((0:Nat):Int) > 0)=false:=rfl;have d7:((7:Int)==0)=false:=rfl;have e1:IntKind.i64.wrap (((0:Nat):Int)+1)=((1:Nat):Int):=rfl;have z0:(0<=((0:Nat):Int))=True:=ό
  have z1:Int.toNat ((0:Nat):Int)=0:=rfl;simp only[Qg,Qoe,h0,h5,eE,seval];refine aC QfL ?_;simp only[d7,Qg,Qoe,h0,h1,h5,eE,seval];refine aC Qj4 ?_;simp only[QoX,Qg,Qoe,h0,h5,eE,seval];refine aC hr ?_;cases nP:Ze 7 kd b t l p s r
  ·simp only[Qok,Qnu,Qa,seval]
  ·simp only[QoX,h5,Qa,seval];exact⟨0,ψ,_,1,rfl,rfl,Qm8 _,λ_=>nP,ϗ,ϕ,ω⟩
 ·have c0:decide (((1:Nat):Int)<((1:Nat):Int))=false:=rfl;simp only[hf rfl,Qa,seval]
end
section
variable (P:PL)
def GC (P:PL)(o:PO):Bool :=
 if o.kind=10 then decide (o.target>=0)&&decide (o.target<(P.progs.length:Int))&&o.card != 3
 else if o.kind=9 then decide (o.target>=0)&&decide (o.target<(P.enums.length:Int))else o.target == -1
theorem Qj7 (o:PO):Qi prog 119 [P.av,Qw o] (.bool (GC P o)):=by
 have e0:P.av=.agg [.list (P.progs.map Qm),.list (P.enums.map QH)]:=rfl;refine wF func119 ?_;simp only[eK,f119,seval];simp only[e0,Qw,PO.cells,GC,eE,seval];by_cases h:o.kind=10
 ·exact Y_
 ·have b0:(o.kind==10)=false:=Ĺ
  by_cases h9:o.kind=9
  ·exact O8
  ·have b1:(o.kind==9)=false:=ŏ
   simp only[b0,b1,Qni h,Qni h9,eE,seval]
theorem QfM (o:PO):(Wx P o&&Ku o)=(Hm o.alias&&(decide ((o.alias.length:Int)<=4096)&&(decide (o.card>=1)&&(decide (o.card<=5)&&(decide (o.kind>=1)&&(decide (o.kind<=10)&&(key o&&GC P o&&Ku o))))))):=by
 have h:NG P o=(decide (o.kind>=1)&&decide (o.kind<=10)&&GC P o):=by
  unfold NG GC;by_cases h:o.kind=10
  ·rw[Qnj h,Qnj h,h];rfl
  ·rw[Qni h,Qni h];by_cases h9:o.kind=9
   ·rw[Qnj h9,Qnj h9,h9];rfl
   ·rw[Qni h9,Qni h9];congr 1
    unfold isk;rw[Qn5,Qnz,Qnz];simp only[Qnf];omega
 unfold Wx;rw[h];cases Hm o.alias<;>cases decide ((o.alias.length:Int)<=4096)<;>cases decide (o.card>=1)<;>cases decide (o.card<=5)<;>cases decide (o.kind>=1)<;>cases decide (o.kind<=10)<;>cases key o<;>cases GC P o<;>cases Ku o<;>rfl
theorem z75 (o:PO)(ha:o.alias.length+8<=maxLen):Qi prog 75 [P.av,Qw o] (.bool (Wx P o&&Ku o)):=by
 have e0:P.av=.agg [.list (P.progs.map Qm),.list (P.enums.map QH)]:=rfl;have n1:decide ((o.alias.length:Int) > 4096)=!decide ((o.alias.length:Int)<=4096):=ϓ;have n2:decide (o.card<1)=!decide (o.card>=1):=ϓ;have n3:decide (o.card > 5)=!decide (o.card<=5):=ϓ;have n4:decide (o.kind<1)=!decide (o.kind>=1):=ϓ;have n5:decide (o.kind > 10)=!decide (o.kind<=10):=ϓ;have ht:Qi prog 119 [.agg [.list (P.progs.map Qm),.list (P.enums.map QH)],Qw o] (.bool (GC P o)):=Qj7 P o;have rt:o.card≠5->key o=(o.key==0):=λh=>by unfold key;rw[Qni h]
 have lh:o.card=5->key o=((decide (o.key>=1)&&decide (o.key<=5))||o.key==7):=λh=>by
  unfold key;rw[Qnj h,Qn5];simp only[Qnz,Qne,Qnf,Qng,QnE,ne_eq];omega
 have hu:Ku o=(o.union == -1||o.card==2):=rfl;simp only[Qw,PO.cells]at ht;rw[QfM];refine k75.fn ό ?_;simp only[QbZ,Qb0,Qb1,Qb2,Qb3,Qb4,r75,o75,e0,Qw,PO.cells,eE,seval];refine aC (QfD o.alias ha) ?_;cases Hm o.alias
 ·exact zM
 cases a1:decide ((o.alias.length:Int)<=4096)
 ·simp only[QoX,Qok,QoW,n1,a1,QoJ,eE,seval]
 cases a2:decide (o.card>=1)
 ·simp only[QoX,Qok,QoW,n1,n2,a1,a2,QoJ,eE,seval]
 cases a3:decide (o.card<=5)
 ·simp only[QoX,Qok,QoW,n1,n2,n3,a1,a2,a3,QoJ,eE,seval]
 cases a4:decide (o.kind>=1)
 ·simp only[QoX,Qok,QoW,n1,n2,n3,n4,a1,a2,a3,a4,QoJ,eE,seval]
 cases a5:decide (o.kind<=10)
 ·simp only[QoX,Qok,QoW,n1,n2,n3,n4,n5,a1,a2,a3,a4,a5,QoJ,eE,seval]
 have fin:∀(f:Fr) (fr:Nat->Ob) (kb:Bool),kb=key o->f 2=.ptr 0 2 0->fr 2=.cells [.list (P.progs.map Qm),.list (P.enums.map QH)]->f 3=.ptr 0 3 0->fr 3=.cells [.int .i64 o.num,.str o.name,.str o.alias,.int .i64 o.card,.int .i64 o.key,.int .i64 o.kind,.int .i64 o.target,.int .i64 o.union]->f 5=.bool kb->
   QF prog Az ⟨f,[fr],[]⟩ (Kc prog .ret (Jk [.tmp 4] 0 λx _=>x=.bool (key o&&GC P o&&Ku o)) .normal):=by
  intro f fr kb yc h2 m2 h3 m3 h5;subst yc;simp only[Az,h5,Qa,seval];cases key o
  ·exact ST
  simp only[h2,m2,h3,m3,QoW,eE,seval];refine aC ht ?_;cases GC P o
  ·exact ST
  rw[hu];cases c1:(o.union == -1)<;>simp only[h3,m3,c1,QoW,Qo0,Qo1,eE,seval]
 by_cases h5:o.card=5
 ·have b5:(o.card != 5)=false:=í
  have hk:=lh h5;simp only[QoX,QoW,n1,n2,n3,n4,n5,a1,a2,a3,a4,a5,eE,seval];cases c1:decide (o.key>=1)<;>cases c2:decide (o.key<=5)<;>cases c3:(o.key==7)<;>simp only[c2,c3,b5,eE,seval]
  all_goals
   rw[c1,c2,c3]at hk;exact fin _ _ _ hk.symm ω ω ω ω ω
 ·have b5:(o.card != 5)=true:=í
  have hk:=rt h5;simp only[QoX,QoW,n1,n2,n3,n4,n5,a1,a2,a3,a4,a5,eE,seval];cases c1:decide (o.key>=1)<;>cases c2:decide (o.key<=5)<;>cases c3:(o.key==7)<;>simp only[c2,c3,b5,eE,seval]
  all_goals exact fin _ _ _ hk.symm ω ω ω ω ω
end
end Va
namespace Cp
open Go Am Bt Vp
structure C where
 d:List UInt8
 a:Int
 e:Int
 dp:Int
 nd:Int
 tx:Int
def C.av (c:C):AV:=.agg [.str c.d,.int .i64 c.a,.int .i64 c.e,.int .i64 c.dp,.int .i64 c.nd,.int .i64 c.tx]
def zc:C:=⟨[],0,0,0,0,0⟩
structure L where
 b:Int
 dp:Int
 nd:Int
 tx:Int
def L.av (l:L):AV:=.agg [.int .i64 l.b,.int .i64 l.dp,.int .i64 l.nd,.int .i64 l.tx]
def C.sound (c:C):Bool:=decide (0<=c.a)&&decide (c.a<=c.e)&&decide (c.e<=(c.d.length:Int))
def C.rest (c:C):List UInt8:=bif c.sound then(c.d.drop c.a.toNat).take (c.e.toNat-c.a.toNat)else []
def C.left (c:C):Int:=(c.rest.length:Int)
def C.ahead (c:C)(n:Int):C:={ c with a:=IntKind.i64.wrap (c.a+n) }
def opn (s:List UInt8)(l:L):C×Nat :=
 if l.b<0\/l.dp<0\/l.nd<0\/l.tx<0 then(zc,1)else if l.b<(s.length:Int)then(zc,3)else(⟨s,0,s.length,l.dp,l.nd,l.tx⟩,0)
def C.varint (c:C):Nat×C×Nat :=
 let r:=Vp.take c.rest
 if r.2.2=0 then(r.1,c.ahead r.2.1,0)else(0,c,r.2.2)
def UN (s:List UInt8):Nat:=(s.take 8).foldr (λb u=>256*u+b.toNat) 0
def C.fixed (c:C):Nat×C×Nat :=
 if c.rest.length<8 then(0,c,4)else(UN c.rest,c.ahead 8,0)
def C.spend (c:C)(n:Int):C×Nat :=
 if n<0 then(c,1)else if c.nd<n then(c,3)else({ c with nd:=IntKind.i64.wrap (c.nd-n) },0)
def WS (r:Nat×C×Nat):AV:=.tup [.int .u64 (r.1:Nat),r.2.1.av,.int .i64 (r.2.2:Nat)]
def HS (r:C×Nat):AV:=.tup [r.1.av,.int .i64 (r.2:Nat)]
def C.sound_iff (c:C):c.sound=true↔0<=c.a/\c.a<=c.e/\c.e<=(c.d.length:Int):=by
 simp[C.sound,and_assoc]
def C.rest_len (c:C):c.left=if c.sound=true then c.e-c.a else 0:=by
 unfold C.left C.rest;split
 ·rename_i h;rw[h];have:=(C.sound_iff c).1 h;simp;omega
 ·rename_i h;have h:c.sound=false:=ϡ
  rw[h];rfl
def C.rest_of {c:C}(h:c.sound=true):c.rest=(c.d.drop c.a.toNat).take (c.e.toNat-c.a.toNat):=by
 unfold C.rest;rw[h];rfl
def C.rest_no {c:C}(h:c.sound=false):c.rest=[]:=by
 unfold C.rest;rw[h];rfl
def C.head_of {c:C}(h:c.sound=true)(n:Nat)(k:Int)(hk:k=if c.a+n<c.e then c.a+n else c.e):c.rest.take n=(c.d.drop c.a.toNat).take (k.toNat-c.a.toNat):=by
 have hs:=(C.sound_iff c).1 h;rw[C.rest_of h,Qos];congr 1
 split at hk<;>omega
end Cp
namespace Up
open Go Am Bt Vp Cp
structure R where
 num:Int
 wire:Int
 bits:Nat
 data:List UInt8
 deriving DecidableEq
def R.av (f:R):AV:=.agg [.int .i64 f.num,.int .i64 f.wire,.int .u64 (f.bits:Nat),.str f.data]
def zr:R:=⟨0,0,0,[]⟩
def Jd (num wire:Int):List UInt8×Nat :=
 if num<1\/65535<num\/wire<0\/6<wire then([],6)else(Vp.put (num*8+wire).toNat,0)
def AI (r:List UInt8×Nat):AV:=.tup [.str r.1,.int .i64 (r.2:Nat)]
def Qp (c:C):Int×Int×C×Nat :=
 let r:=c.varint
 if r.2.2=0 then
  if r.1 % 8=7 then(0,0,c,5)else if r.1 / 8<1\/65535<r.1 / 8 then(0,0,c,6)else((r.1 / 8:Nat),(r.1 % 8:Nat),r.2.1,0)
 else(0,0,c,r.2.2)
def Cr (r:Int×Int×C×Nat):AV:=.tup [.int .i64 r.1,.int .i64 r.2.1,r.2.2.1.av,.int .i64 (r.2.2.2:Nat)]
def Xx (wire:Int):Bool:=wire==0||wire==1||wire==2
def Kv (c:C)(wire:Int):List UInt8×C×Nat :=
 let r:=c.varint
 if r.2.2=0 then
  if r.2.1.left<(r.1:Int)then([],c,4)
  else if (if wire=3 then c.tx else 65536)<(r.1:Int)then([],c,3)
  else((r.2.1.d.drop r.2.1.a.toNat).take r.1,r.2.1.ahead r.1,0)
 else([],c,r.2.2)
def DM (r:List UInt8×C×Nat):AV:=.tup [.str r.1,r.2.1.av,.int .i64 (r.2.2:Nat)]
def Zw (c:C)(f:R):R×C×Nat :=
 if f.wire=2 then({ f with bits:=c.fixed.1 },c.fixed.2.1,c.fixed.2.2)
 else if f.wire=0\/f.wire=1 then({ f with bits:=c.varint.1 },c.varint.2.1,c.varint.2.2)
 else({ f with data:=(Kv c f.wire).1 },(Kv c f.wire).2.1,(Kv c f.wire).2.2)
def Xu (c:C):R×C×Nat :=
 let t:=Qp c
 if t.2.2.2=0 then
  let s:=t.2.2.1.spend 1
  if s.2=0 then
   let k:=Zw s.1 { num:=t.1,wire:=t.2.1,bits:=0,data:=[] }
   if k.2.2=0 then k else(zr,c,k.2.2)
  else(zr,c,s.2)
 else(zr,c,t.2.2.2)
def VG (r:R×C×Nat):AV:=.tup [r.1.av,r.2.1.av,.int .i64 (r.2.2:Nat)]
def Pn {c:C}(h:c.rest≠[]):c.sound=true:=by
 cases hs:c.sound with
 |true=>rfl
 |false=>exact absurd (C.rest_no hs) h
def Jv {c:C}(hl:c.d.length<=9223372036854775807)(h:c.varint.2.2=0):∃n:Nat,0<n/\n<=10/\(n:Int)<=c.left/\c.varint.2.1={ c with a:=c.a+n }/\c.sound=true/\c.varint.2.1.sound=true/\c.varint.1<2 ^ 64:=by
 unfold C.varint at h |-;have hb:=WE c.rest;generalize Vp.take c.rest=r at h hb |-;obtain⟨u,n,e⟩:=r;simp only at h hb |-;split at h
 ·rename_i he;subst he;obtain⟨h1,h2,h3,h4⟩:=hb rfl;have aq:c.rest≠[]:=by intro e;rw[e]at h2;simp at h2;omega
  have hs:=Pn aq;have dz:=(C.sound_iff c).1 hs;have hle:=c.rest_len;rw[Qnj hs]at hle;have hw:IntKind.i64.wrap (c.a+(n:Int))=c.a+n:=by
   have:(n:Int)<=c.left:=by unfold C.left;omega
   rw[QD];omega
  have w8:(n:Int)<=c.left:=by unfold C.left;omega
  refine⟨n,h1,h3,w8,?_,hs,?_,?_⟩
  ·rw[Qnj rfl];simp only[C.ahead,hw]
  ·rw[Qnj rfl];rw[C.sound_iff];simp only[C.ahead,hw];omega
  ·rw[Qnj rfl];exact h4
 ·rename_i he;exact absurd h he
end Up
namespace Br
open Go Am Up
def QdW {M k:Nat}{cs:List AV}(h:XL prog M k 57 cs):∃f:R,((Lit.int .i64 f.num).wf=true/\(Lit.int .i64 f.wire).wf=true/\(Lit.int .u64 (f.bits:Int)).wf=true/\f.data.length<=M)/\.agg cs=f.av:=by
 obtain⟨k,h⟩:=Jm underlying57 h;simp only[XL.HasL]at h;obtain⟨_,_,rfl,h0,_,_,rfl,h1,_,_,rfl,h2,_,_,rfl,h3,rfl⟩:=h;obtain⟨a0,rfl,w0⟩:=Zu underlying3 h0;obtain⟨a1,rfl,w1⟩:=Zu underlying3 h1;obtain⟨a2,rfl,w2⟩:=Zu underlying26 h2;obtain⟨a3,rfl,w3⟩:=Wo underlying9 h3;have hn:0<=a2:=MJ w2;obtain⟨n,rfl⟩:=QoZ hn;exact⟨⟨a0,a1,n,a3⟩,⟨w0,w1,w2,w3⟩,rfl⟩
inductive V where
 |mk (k:Int) (b:Nat) (t:List UInt8) (l:List V) (p:List (V×V)) (s:List (Int×V)) (r:List R)
 deriving Inhabited
mutual
def V.cells:V->List AV
 |.mk k b t l p s r=>[.int .i64 k,.int .u64 (b:Nat),.str t,.list (V.cl l),.list (V.cp p),.list (V.cs s),.list (r.map R.av)]
def V.cl:List V->List AV
 | []=>[]
 |x :: l=>.agg x.cells :: V.cl l
def V.cp:List (V×V)->List AV
 | []=>[]
 |(a,b) :: l=>.agg (a.cells++b.cells) :: V.cp l
def V.cs:List (Int×V)->List AV
 | []=>[]
 |(n,a) :: l=>.agg (.int .i64 n :: a.cells) :: V.cs l
end
def V.kd:V->Int|.mk k _ _ _ _ _ _=>k
def V.bits:V->Nat|.mk _ b _ _ _ _ _=>b
def V.text:V->List UInt8|.mk _ _ t _ _ _ _=>t
def V.list:V->List V|.mk _ _ _ l _ _ _=>l
def V.pairs:V->List (V×V)|.mk _ _ _ _ p _ _=>p
def V.slots:V->List (Int×V)|.mk _ _ _ _ _ s _=>s
def V.raws:V->List R|.mk _ _ _ _ _ _ r=>r
def V.av (v:V):AV:=.agg v.cells
def V.pav (p:V×V):AV:=.agg (p.1.cells++p.2.cells)
def V.sav (s:Int×V):AV:=.agg (.int .i64 s.1 :: s.2.cells)
def V.cl_eq:∀l:List V,V.cl l=l.map V.av
 | []=>rfl
 |x :: l=>by rw[V.cl,V.cl_eq l];rfl
def V.cp_eq:∀l:List (V×V),V.cp l=l.map V.pav
 | []=>rfl
 |(a,b) :: l=>by rw[V.cp,V.cp_eq l];rfl
def V.cs_eq:∀l:List (Int×V),V.cs l=l.map V.sav
 | []=>rfl
 |(n,a) :: l=>by rw[V.cs,V.cs_eq l];rfl
def V.eta:∀v:V,v.cells=[.int .i64 v.kd,.int .u64 (v.bits:Nat),.str v.text,.list (v.list.map V.av),.list (v.pairs.map V.pav),.list (v.slots.map V.sav),.list (v.raws.map R.av)]
 |.mk k b t l p s r=>by rw[V.cells,V.cl_eq,V.cp_eq,V.cs_eq];rfl
def V.ind {P:V->Prop}(h:∀v:V,(∀x∈v.list,P x)->(∀x∈v.pairs,P x.1/\P x.2)->(∀x∈v.slots,P x.2)->P v)(v:V):P v :=
 V.rec (motive_1:=P) (motive_2:=λl=>∀x∈l,P x) (motive_3:=λp=>∀x∈p,P x.1/\P x.2) (motive_4:=λs=>∀x∈s,P x.2) (motive_5:=λq=>P q.1/\P q.2) (motive_6:=λq=>P q.2)
  (λk b t l p s r hl hp hs=>h (.mk k b t l p s r) hl hp hs)
  ό (λa l ha hl=>by simpa using ⟨ha,hl⟩)
  ό (λa l ha hl=>by simp only[Qoz,forall_eq_or_imp];exact⟨ha,hl⟩)
  ό (λa l ha hl=>by simp only[Qoz,forall_eq_or_imp];exact⟨ha,hl⟩)
  (λa b ha hb=>⟨ha,hb⟩) (λn a ha=>ha) v
structure _root_.Go.Proofs.YtmlohboeoeoamaaGreatDoor.Up.R.ok (M:Nat)(f:R):Prop where
 num:(Lit.int .i64 f.num).wf=true
 wire:(Lit.int .i64 f.wire).wf=true
 bits:(Lit.int .u64 (f.bits:Int)).wf=true
 data:f.data.length<=M
inductive V.ok (M:Nat):V->Prop
 |mk {v:V} (kd:(Lit.int .i64 v.kd).wf=true) (bits:(Lit.int .u64 (v.bits:Int)).wf=true) (text:v.text.length<=M) (nl:v.list.length<=1099511627776) (np:v.pairs.length<=549755813888) (ns:v.slots.length<=1099511627776) (nr:v.raws.length<=70368744177664)
   (list:∀x∈v.list,V.ok M x) (keys:∀x∈v.pairs,V.ok M x.1) (vals:∀x∈v.pairs,V.ok M x.2) (nums:∀x∈v.slots,(Lit.int .i64 x.1).wf=true) (slots:∀x∈v.slots,V.ok M x.2) (raws:∀x∈v.raws,x.ok M):V.ok M v
section
variable {M:Nat}{v:V}(h:v.ok M)
include h
theorem V.ok.kd:(Lit.int .i64 v.kd).wf=true:=by cases h;assumption
theorem V.ok.bits:(Lit.int .u64 (v.bits:Int)).wf=true:=by cases h;assumption
theorem V.ok.text:v.text.length<=M:=by cases h;assumption
theorem V.ok.nl:v.list.length<=1099511627776:=by cases h;assumption
theorem V.ok.np:v.pairs.length<=549755813888:=by cases h;assumption
theorem V.ok.ns:v.slots.length<=1099511627776:=by cases h;assumption
theorem V.ok.nr:v.raws.length<=70368744177664:=by cases h;assumption
theorem V.ok.list:∀x∈v.list,x.ok M:=by cases h;assumption
theorem V.ok.keys:∀x∈v.pairs,x.1.ok M:=by cases h;assumption
theorem V.ok.vals:∀x∈v.pairs,x.2.ok M:=by cases h;assumption
theorem V.ok.nums:∀x∈v.slots,(Lit.int .i64 x.1).wf=true:=by cases h;assumption
theorem V.ok.slots:∀x∈v.slots,x.2.ok M:=by cases h;assumption
theorem V.ok.raws:∀x∈v.raws,x.ok M:=by cases h;assumption
end
def V.cells_length (v:V):v.cells.length=7:=by rw[V.eta];rfl
def VH {c:List AV}(h:2<=c.length):Zs c=.agg c:=by
 match c,h with
 |_ :: _ :: _,_=>rfl
def Qho {M:Nat}(hM:M=reachBytes\/M<=1048576):∀ {k:Nat} {cs:List AV},XL prog M k 32 cs->∃v:V,v.ok M/\cs=v.cells:=by
 intro k
 induction k using Nat.strongRecOn with
 |ind k ih=>
 intro cs h;cases k with
 |zero=>cases h
 |succ k=>
 simp only[XL,underlying32,XL.HasL]at h;obtain⟨_,_,rfl,h0,_,_,rfl,h1,_,_,rfl,h2,_,_,rfl,h3,_,_,rfl,h4,_,_,rfl,h5,_,_,rfl,h6,rfl⟩:=h;obtain⟨a0,rfl,w0⟩:=Zu underlying3 h0;obtain⟨a1,rfl,w1⟩:=Zu underlying26 h1;obtain⟨a2,rfl,w2⟩:=Wo underlying9 h2;have hb:0<=a1:=MJ w1;obtain⟨b,rfl⟩:=QoZ hb;have sl:∀ {k0:Nat} {t e:TypeId} {cs:List AV},k0<=k->prog.underlying t=some (.slice e)->XL prog M k0 t cs->∃(k':Nat) (l:List (List AV)),k'<k/\cs=[.list (l.map Zs)]/\(l.length<=M/\(M=reachBytes->l.length*prog.bytesOf e<=M))/\∀c∈l,XL prog M k' e c:=by
  intro k0 t e cs hk hu h;cases k0 with
  |zero=>cases h
  |succ k0=>
   simp only[XL,hu]at h;obtain⟨l,h1,h4,h3,h2⟩:=h;exact⟨k0,l,ψ,h1,⟨h2,h4.2⟩,h3⟩
 have nb:∀ {n b:Nat} (c:Nat),(n<=M/\(M=reachBytes->n*b<=M))->1048576<=c->(n*b<=140737488351232->n<=c)->n<=c:=λc h1 h2 h3=>by
  rcases hM with e|e
  ·refine h3 (Qm9 (h1.2 e) ?_);rw[e];exact Qm8 _
  ·exact Qm9 h1.1 (Qm9 e h2)
 have y1:prog.bytesOf 32=128:=by decide +kernel
 have y2:prog.bytesOf 68=256:=by decide +kernel
 have y3:prog.bytesOf 50=136:=by decide +kernel
 have y4:prog.bytesOf 57=40:=by decide +kernel
 obtain⟨k3,l3,b3,rfl,w3,lC⟩:=sl (Qm8 _) underlying27 h3;obtain⟨k4,l4,b4,rfl,w4,rA⟩:=sl (Qm8 _) underlying28 h4;obtain⟨k5,l5,b5,rfl,w5,rh⟩:=sl (Qm8 _) underlying29 h5;obtain⟨k6,l6,b6,rfl,w6,xo⟩:=sl (Qm8 _) underlying30 h6;obtain⟨vs,rfl,gO⟩:=JP (f:=V.cells) (ok:=V.ok M) λc hc=>ih k3 ψ (lC c hc)
 obtain⟨ps,rfl,io⟩:=JP (l:=l4) (f:=λp:V×V=>p.1.cells++p.2.cells) (ok:=λp=>p.1.ok M/\p.2.ok M) λc hc=>by
  have h:=rA c hc;cases k4 with
  |zero=>cases h
  |succ k4=>
  simp only[XL,underlying68,XL.HasL]at h;obtain⟨a,_,rfl,h0,b,_,rfl,h1,rfl⟩:=h;obtain⟨x,hx,rfl⟩:=ih k4 ψ h0;obtain⟨y,hy,rfl⟩:=ih k4 ψ h1;exact⟨(x,y),⟨hx,hy⟩,ό⟩
 obtain⟨ss,rfl,pN⟩:=JP (l:=l5) (f:=λs:Int×V=>.int .i64 s.1 :: s.2.cells) (ok:=λs=>(Lit.int .i64 s.1).wf=true/\s.2.ok M) λc hc=>by
  have h:=rh c hc;cases k5 with
  |zero=>cases h
  |succ k5=>
  simp only[XL,underlying50,XL.HasL]at h;obtain⟨_,_,rfl,h0,b,_,rfl,h1,rfl⟩:=h;obtain⟨a0,rfl,w0⟩:=Zu underlying3 h0;obtain⟨y,hy,rfl⟩:=ih k5 ψ h1;exact⟨(a0,y),⟨w0,hy⟩,ό⟩
 obtain⟨rs,rfl,rC⟩:=JP (l:=l6) (f:=λr:R=>r.av.cells) (ok:=R.ok M) λc hc=>by
  obtain⟨f,⟨g1,g2,g3,g4⟩,e⟩:=QdW (xo c hc);refine⟨f,⟨g1,g2,g3,g4⟩,?_⟩;rw[<-e];rfl
 refine⟨.mk a0 b a2 vs ps ss rs,.mk w0 w1 w2 (by rw[Qn6,y1]at w3;exact nb _ w3 ϊ ψ) (by rw[Qn6,y2]at w4;exact nb _ w4 ϊ ψ) (by rw[Qn6,y3]at w5;exact nb _ w5 ϊ ψ) (by rw[Qn6,y4]at w6;exact nb _ w6 ϊ ψ) gO (λx hx=>(io x hx).1) (λx hx=>(io x hx).2) (λx hx=>(pN x hx).1) (λx hx=>(pN x hx).2) rC,?_⟩;rw[V.eta];have e3:(vs.map V.cells).map Zs=vs.map V.av:=by
  rw[Qo6];exact Qo5 λc _=>VH (by rw[V.cells_length];omega)
 have e4:(ps.map (λp=>p.1.cells++p.2.cells)).map Zs=ps.map V.pav:=by
  rw[Qo6];exact Qo5 λp _=>VH (by rw[QnP,V.cells_length];omega)
 have e5:(ss.map (λs=>AV.int .i64 s.1 :: s.2.cells)).map Zs=ss.map V.sav:=by
  rw[Qo6];exact Qo5 λp _=>VH (by rw[Qnq,V.cells_length];omega)
 have e6:(rs.map (λr=>r.av.cells)).map Zs=rs.map R.av:=by
  rw[Qo6];exact Qo5 λr _=>rfl
 rw[e3,e4,e5,e6];rfl
end Br
namespace Va
open Go Am Rc Bt Br
def oth (k:Int)(b:Nat)(t:List UInt8)(l p s r:List AV):Bool :=
 (k != 11&&decide ((l.length:Int) > 0))||(k != 12&&decide ((p.length:Int) > 0))||(k != 10&&decide (((s.length+r.length:Nat):Int) > 0))||((b:Int) != 0&&(Zz k||k==10||k==11||k==12))||(!(t==[]) && !Zz k)
section
variable (k:Int)(b:Nat)(t:List UInt8)(l p s r:List AV)(hs:s.length<=140737488351232)(hr:r.length<=140737488351232)
set_option maxHeartbeats 2000000 in
include hs hr in
theorem z89:Qi prog 89 [vo k b t l p s r] (.bool (oth k b t l p s r)):=by
 have w:IntKind.i64.wrap ((s.length:Int)+(r.length:Int))=((s.length+r.length:Nat):Int):=by simp only[QD];omega
 have n4:((b:Int) != 0)=!((b:Int)==0):=rfl;have n5:(t != [])=!(t==[]):=rfl;refine wF func89 ?_;simp only[eK,f89,seval];simp only[vo,oth,Zz,n4,eE,seval];rcases(by omega:k=7\/k=8\/k=10\/k=11\/k=12\/(k≠7/\k≠8/\k≠10/\k≠11/\k≠12))with rfl|rfl|rfl|rfl|rfl|⟨h7,h8,am,aI,h12⟩
 ·have b7:((7:Int)==7)=true:=ϊ
  have b8:((7:Int)==8)=false:=ϊ
  have eU:((7:Int)==10)=false:=ϊ
  have fZ:((7:Int)==11)=false:=ϊ
  have gU:((7:Int)==12)=false:=ϊ
  have dN:((7:Int) != 10)=true:=ϊ
  have fN:((7:Int) != 11)=true:=ϊ
  have dS:((7:Int) != 12)=true:=ϊ
  have g1:decide ((7:Int)>=10)=false:=ϊ
  have g2:decide ((7:Int)<=12)=true:=ϊ
  simp only[b7,b8,eU,fZ,gU,dN,fN,dS,QoW,Qpg,QoY,Qoq,QoX,eE,seval];exact zx
 ·have b7:((8:Int)==7)=false:=ϊ
  have b8:((8:Int)==8)=true:=ϊ
  have eU:((8:Int)==10)=false:=ϊ
  have fZ:((8:Int)==11)=false:=ϊ
  have gU:((8:Int)==12)=false:=ϊ
  have dN:((8:Int) != 10)=true:=ϊ
  have fN:((8:Int) != 11)=true:=ϊ
  have dS:((8:Int) != 12)=true:=ϊ
  have g1:decide ((8:Int)>=10)=false:=ϊ
  have g2:decide ((8:Int)<=12)=true:=ϊ
  simp only[b7,b8,eU,fZ,gU,dN,fN,dS,QoW,Qpg,Qph,QoY,Qoq,QoX,eE,seval];exact zx
 ·have b7:((10:Int)==7)=false:=ϊ
  have b8:((10:Int)==8)=false:=ϊ
  have eU:((10:Int)==10)=true:=ϊ
  have fZ:((10:Int)==11)=false:=ϊ
  have gU:((10:Int)==12)=false:=ϊ
  have dN:((10:Int) != 10)=false:=ϊ
  have fN:((10:Int) != 11)=true:=ϊ
  have dS:((10:Int) != 12)=true:=ϊ
  have g1:decide ((10:Int)>=10)=true:=ϊ
  have g2:decide ((10:Int)<=12)=true:=ϊ
  simp only[b7,b8,eU,fZ,gU,dN,fN,dS,QoW,QoJ,Qpg,Qph,Qoq,Qok,eE,seval];cases a1:decide ((l.length:Int) > 0)<;>try simp only[dS,Qo1,Qo0,eE,seval]
  all_goals(cases a2:decide ((p.length:Int) > 0)<;>try simp only[dN,Qo1,Qo0,eE,seval])
  all_goals(cases a3:decide (((s.length+r.length:Nat):Int) > 0)<;>try simp only[a3,g1,g2,b7,b8,eU,fZ,gU,dN,fN,dS,QoW,QoJ,Qpg,Qph,Qo1,Qo0,QoY,Qoq,Qok,QoX,w,QX,eE,seval])
  all_goals(cases a4:((b:Int)==0)<;>try simp only[a4,n4,Qo1,Qo0,Qok,QoX,QX,eE,seval])
  all_goals exact zP
 ·have b7:((11:Int)==7)=false:=ϊ
  have b8:((11:Int)==8)=false:=ϊ
  have eU:((11:Int)==10)=false:=ϊ
  have fZ:((11:Int)==11)=true:=ϊ
  have gU:((11:Int)==12)=false:=ϊ
  have dN:((11:Int) != 10)=true:=ϊ
  have fN:((11:Int) != 11)=false:=ϊ
  have dS:((11:Int) != 12)=true:=ϊ
  have g1:decide ((11:Int)>=10)=true:=ϊ
  have g2:decide ((11:Int)<=12)=true:=ϊ
  simp only[b7,b8,eU,fZ,gU,dN,fN,dS,QoW,QoJ,Qpg,Qph,Qo1,Qoq,Qok,eE,seval];cases a1:decide ((l.length:Int) > 0)<;>try simp only[a1,g1,g2,b7,b8,eU,fZ,gU,dN,fN,dS,QoW,QoJ,Qpg,Qph,Qo1,Qo0,QoY,Qoq,Qok,QoX,w,QX,eE,seval]
  all_goals(cases a2:decide ((p.length:Int) > 0)<;>try simp only[dN,Qo1,Qo0,w,eE,seval])
  all_goals(cases a3:decide (((s.length+r.length:Nat):Int) > 0)<;>try simp only[Qo1,Qo0,eE,seval])
  all_goals(cases a4:((b:Int)==0)<;>try simp only[a4,n4,Qo1,Qo0,Qok,QoX,QX,eE,seval])
  all_goals exact zP
 ·have b7:((12:Int)==7)=false:=ϊ
  have b8:((12:Int)==8)=false:=ϊ
  have eU:((12:Int)==10)=false:=ϊ
  have fZ:((12:Int)==11)=false:=ϊ
  have gU:((12:Int)==12)=true:=ϊ
  have dN:((12:Int) != 10)=true:=ϊ
  have fN:((12:Int) != 11)=true:=ϊ
  have dS:((12:Int) != 12)=false:=ϊ
  have g1:decide ((12:Int)>=10)=true:=ϊ
  have g2:decide ((12:Int)<=12)=true:=ϊ
  simp only[b7,b8,eU,fZ,gU,dN,fN,dS,QoW,QoJ,Qpg,Qph,Qoq,Qok,eE,seval];cases a1:decide ((l.length:Int) > 0)<;>try simp only[dN,dS,Qo1,Qo0,w,eE,seval]
  all_goals(cases a2:decide ((p.length:Int) > 0)<;>try simp only[a2,g1,g2,b7,b8,eU,fZ,gU,dN,fN,dS,QoW,QoJ,Qpg,Qph,Qo1,Qo0,QoY,Qoq,Qok,QoX,w,QX,eE,seval])
  all_goals(cases a3:decide (((s.length+r.length:Nat):Int) > 0)<;>try simp only[Qo1,Qo0,eE,seval])
  all_goals(cases a4:((b:Int)==0)<;>try simp only[a4,n4,Qo1,Qo0,Qok,QoX,QX,eE,seval])
  all_goals exact zP
 ·have b7:(k==7)=false:=by simp[h7]
  have b8:(k==8)=false:=by simp[h8]
  have eU:(k==10)=false:=by simp[am]
  have fZ:(k==11)=false:=by simp[aI]
  have gU:(k==12)=false:=by simp[h12]
  have dN:(k != 10)=true:=by simp[am]
  have fN:(k != 11)=true:=by simp[aI]
  have dS:(k != 12)=true:=by simp[h12]
  rcases(by omega:(k>=10/\¬k<=12)\/¬k>=10)with⟨q1,q2⟩|q1
  ·have g1:decide (k>=10)=true:=Qpe q1;have g2:decide (k<=12)=false:=Qo8 q2;simp only[b7,b8,eU,fZ,gU,dN,fN,dS,QoW,Qpg,QoY,Qoq,Qok,eE,seval];cases a1:decide ((l.length:Int) > 0)<;>try simp only[dS,Qo1,Qo0,eE,seval]
   all_goals(cases a2:decide ((p.length:Int) > 0)<;>try simp only[dN,Qo1,Qo0,w,eE,seval])
   all_goals(cases a3:decide (((s.length+r.length:Nat):Int) > 0)<;>try simp only[Qo1,Qo0,eE,seval])
   all_goals(cases a4:((b:Int)==0)<;>try simp only[a4,n4,g1,g2,Qok,QoX,QX,eE,seval])
   all_goals exact zP
  ·have g1:decide (k>=10)=false:=Qo8 q1;simp only[b7,b8,eU,fZ,gU,dN,fN,dS,QoW,Qpg,QoY,Qoq,Qok,eE,seval];cases a1:decide ((l.length:Int) > 0)<;>try simp only[dS,Qo1,Qo0,eE,seval]
   all_goals(cases a2:decide ((p.length:Int) > 0)<;>try simp only[dN,Qo1,Qo0,w,eE,seval])
   all_goals(cases a3:decide (((s.length+r.length:Nat):Int) > 0)<;>try simp only[Qo1,Qo0,eE,seval])
   all_goals(cases a4:((b:Int)==0)<;>try simp only[a4,n4,g1,Qok,QoX,QX,eE,seval])
   all_goals exact zP
end
section
variable (k:Int)(b:Nat)(t:List UInt8)(l p s r:List AV)(hs:s.length<=140737488351232)(hr:r.length<=140737488351232)
end
def IK {α:Type}(p:α->Bool){l:List α}{i:Nat}{x:α}(hx:l[i]? = some x):(l.drop i).find? p=if p x=true then some x else(l.drop (i+1)).find? p:=by
 have aa:i<l.length:=(Qna.1 hx).1;rw[QnU aa,show l[i]=x from(Qna.1 hx).2,Qo7];cases p x<;>rfl
def zc:List AV:=[.int .i64 0,.str [],.str [],.int .i64 0,.int .i64 0,.int .i64 0,.int .i64 0,.int .i64 0]
def OpI (g:PG)(n:Int)(k:Nat)(st:St):Prop :=
 ∃f fr i,st=⟨f,[fr],[]⟩/\k=g.ops.length-i/\g.ops.find? (λo=>o.num==n)=(g.ops.drop i).find? (λo=>o.num==n)/\f 1=.int .i64 n/\f 2=.ptr 0 2 0/\f 4=.ptr 0 4 0/\f 6=.int .i64 (i:Nat)/\fr 2=.cells g.cells/\fr 4=.cells zc
def y11 (g:PG)(hl:g.ops.length<=maxLen)(n:Int):Qi prog 11 [Qm g,.int .i64 n] (NA (λo=>o.num==n) g.ops):=by
 refine wF func11 ?_;simp only[eK,Tryz.f11,seval];simp only[Qm,PG.cells,eE,seval];refine Qj (OpI g n) _ ⟨_,_,0,rfl,rfl,rfl,ω,ω,ω,ω,ω,ω⟩ ?_;rintro _ st ⟨f,fr,i,rfl,rfl,hx,h1,h2,h4,h6,m2,m4⟩;simp only[PG.cells,zc]at m2 m4;simp only[Qn6,h2,h6,m2,eE,seval];by_cases aa:i<g.ops.length
 ·obtain⟨x,hi⟩:∃x,g.ops[i]? = some x:=⟨g.ops[i],Qnb aa⟩;have hg:(g.ops.map λo=>AV.agg o.cells)[i]? = some (.agg x.cells):=ĭ
  have e1:=Qv i _ aa hl;rw[IK _ hi]at hx;simp only[PO.cells]at hg m2;simp only[QE aa,Qs,QoF,Qg,hg,PO.cells,h1,h2,h6,m2,eE,seval];cases hp:(x.num==n)
  ·rw[hp]at hx;simp only[Qnu,if_false]at hx;simp only[h6,e1,Qa,seval];exact⟨g.ops.length-(i+1),ψ,_,_,i+1,rfl,rfl,hx,ϕ,Υ,Ϡ,ω,m2,m4⟩
  ·rw[hp]at hx;simp only[if_true]at hx;simp only[Qs,QoF,Qg,hg,NA,hx,Qon,Qo9,Qw,PO.cells,h2,h4,h6,m2,m4,splice,Qol,Qny,QnN,QnT,Qor,Qof,Qnq,Qn7,Qoo,Qop,AV.leaf,eE,seval]
 ·have dG:g.ops.find? (λo=>o.num==n)=none:=ğ
  simp only[QM aa,h4,m4,NA,dG,QoS,Qn1,HR,Qw,PO.cells,splice,Qol,Qny,QnN,QnT,Qor,Qof,Qnq,Qn7,Qoo,Qop,AV.leaf,eE,seval]
section progs
variable (L:List PG)(hl:L.length<=maxLen)(p:PG->Bool)(c:Nat)(cap:AV)(m:Qk)
include hl in
theorem y47 (hc:∀o∈L,Qf prog c [Qm o,cap.sh] (Qb :: m) λy m1=>y=.bool (p o)/\m1=Qb :: m) :
  Qf prog 47 [.list (L.map Qm),.fn (.func c) [] [cap]] m λy m1=>y=.int .i64 (Zn p L 0)/\m1=m:=by
 refine wG func47 ?_;simp only[eK,Tryz.f47,seval];exact Dy hl (av:=Qm) (n:=3) (s:=some 3) (cs:=[cap]) (λ_=>⟨rfl,rfl⟩) hc
end progs
section items
variable (L:List PI)(hl:L.length<=maxLen)(p:PI->Bool)(c:Nat)(cap:AV)(m:Qk)
include hl in
theorem Qj8 (hc:∀o∈L,Qf prog c [XQ o,cap.sh] (Qb :: m) λy m1=>y=.bool (p o)/\m1=Qb :: m) :
  Qf prog 304 [.list (L.map XQ),.fn (.func c) [] [cap]] m λy m1=>y=.int .i64 (Zn p L 0)/\m1=m:=by
 refine wG func304 ?_;simp only[eK,f304,seval];exact Dy hl (av:=XQ) (n:=3) (s:=some 3) (cs:=[cap]) (λ_=>⟨rfl,rfl⟩) hc
theorem VI {α:Type}(p:α->Bool)(l:List α):decide (Zn p l 0>=0)=l.any p:=by
 exact zQ
include hl in
theorem Qj9 (hc:∀o∈L,Qf prog c [XQ o,cap.sh.sh] (Qb :: Qb :: m) λy m1=>y=.bool (p o)/\m1=Qb :: Qb :: m) :
  Qf prog 242 [.list (L.map XQ),.fn (.func c) [] [cap]] m λy m1=>y=.bool (L.any p)/\m1=m:=by
 refine wG func242 ?_;simp only[eK,f242,seval];simp only[Qa,seval];refine Qh (Qj8 L hl p c cap.sh _ hc) ϑ ?_;simp only[VI,Qa,seval]
end items
def IM (b:Nat)(x:PI):Bool:=IntKind.u64.wrap x.num==(b:Int)
def y48 (g:PG)(eZ:Nat->Ob)(s:List UInt8)(hf:eZ 3=.cells [.str s]):Qf prog 48 [Qm g,.ptr 1 3 0] [Qb,eZ] λy m1=>y=.bool (g.name==s)/\m1=[Qb,eZ]:=by
 refine wG func48 ?_;simp only[eK,Tryz.f48,seval];simp only[hf,Qm,PG.cells,QX,eE,seval]
def Qka (x:PI)(b:Nat)(eZ:Nat->Ob)(hf:eZ 5=.cells [.int .u64 (b:Nat)]):Qf prog 243 [XQ x,.ptr 2 5 0] [Qb,Qb,eZ] λy m1=>y=.bool (IM b x)/\m1=[Qb,Qb,eZ]:=by
 refine wG func243 ?_;simp only[eK,f243,seval];simp only[hf,XQ,PI.cells,IM,eE,seval]
def F3 (s:List UInt8)(L:List PG):AV:=.tup [.int .i64 (if Zn (λg:PG=>g.name==s) L 0<0 then 0 else Zn (λg:PG=>g.name==s) L 0),.bool (decide (Zn (λg:PG=>g.name==s) L 0>=0))]
def SL (P:PL)(hl:P.progs.length<=maxLen)(s:List UInt8):Qi prog 22 [P.av,.str s] (F3 s P.progs):=by
 refine wF func22 ?_;simp only[eK,Tryz.f22,seval];simp only[PL.av,eE,seval];refine Qh (y47 P.progs hl (λg=>g.name==s) 48 (.ptr 0 3 0) _ λg _=>y48 g _ s ω) ύ ?_;unfold F3;by_cases h:Zn (λg:PG=>g.name==s) P.progs 0<0
 ·have d:decide (Zn (λg:PG=>g.name==s) P.progs 0<0)=true:=Qpe h;simp only[Qnj h,Qa,seval]
 ·have d:decide (Zn (λg:PG=>g.name==s) P.progs 0<0)=false:=Qo8 h;simp only[Qni h,Qa,seval]
def FdI (P:PL)(s:List UInt8)(k:Nat)(st:St):Prop :=
 ∃f fr i,st=⟨f,[fr],[]⟩/\k=P.progs.length-i/\Zn (λg:PG=>g.name==s) P.progs 0=Zn (λg:PG=>g.name==s) (P.progs.drop i) i/\f 1=.str s/\f 2=.ptr 0 2 0/\f 6=.int .i64 (i:Nat)/\fr 2=.cells [.list (P.progs.map Qm),.list (P.enums.map QH)]
def y8 (P:PL)(hl:P.progs.length<=maxLen)(s:List UInt8):Qi prog 8 [P.av,.str s] (F3 s P.progs):=by
 have e0:P.av=.agg [.list (P.progs.map Qm),.list (P.enums.map QH)]:=rfl;refine wF func8 ?_;simp only[eK,Tryz.f8,seval];simp only[e0,eE,seval];refine Qj (FdI P s) _ ⟨_,_,0,rfl,rfl,rfl,ω,ω,ω,ω⟩ ?_;rintro _ st ⟨f,fr,i,rfl,rfl,hx,h1,h2,h6,m2⟩;simp only[Qn6,h2,h6,m2,eE,seval];by_cases aa:i<P.progs.length
 ·obtain⟨x,hi⟩:∃x,P.progs[i]? = some x:=⟨P.progs[i],Qnb aa⟩;have hg:(P.progs.map Qm)[i]? = some (.agg x.cells):=by simp[hi,Qm]
  have e1:=Qv i _ aa hl;simp only[PG.cells]at hg;rw[Bm _ hi]at hx;simp only[QE aa,Qs,QoF,Qg,hg,h1,h2,h6,m2,QX,eE,seval];cases hp:(x.name==s)
  ·rw[hp]at hx;simp only[Qnu,if_false]at hx;simp only[h6,e1,Qa,seval];exact⟨P.progs.length-(i+1),ψ,_,_,i+1,rfl,rfl,hx,ϕ,Υ,ω,m2⟩
  ·rw[hp]at hx;simp only[if_true]at hx;have d1:¬((i:Int)<0):=ψ
   have d2:decide ((i:Int)>=0)=true:=Qpe ψ;simp only[F3,hx,Qni d1,d2,h6,Qa,seval]
 ·have dG:Zn (λg:PG=>g.name==s) P.progs 0 = -1:=ğ
  have d1:((-1:Int)<0):=ψ
  have d2:decide ((-1:Int)>=0)=false:=Qo8 ψ;simp only[QM aa,F3,dG,Qa,seval]
def Yo (E:List PE)(t:Int)(b:Nat):Bool :=
 if 0<=t/\t<E.length/\b<=2147483647 then
  match E[t.toNat]? with
  |some x=>x.opn||x.items.any (IM b)
  |none=>false
 else false
def QaP {M:Nat}(P:PL)(hP:P.ok M)(t:Int)(b:Nat):Qi prog 148 [P.av,.int .i64 t,.int .u64 (b:Nat)] (.bool (Yo P.enums t b)):=by
 have e0:P.av=.agg [.list (P.progs.map Qm),.list (P.enums.map QH)]:=rfl;refine wF func148 ?_;simp only[eK,f148,seval];simp only[e0,eE,seval];by_cases h1:0<=t
 ·have d1:decide (t<0)=false:=Qo8 ψ;by_cases h2:t<P.enums.length
  ·have d2:decide (t>=(P.enums.length:Int))=false:=Qo8 ψ;by_cases h3:b<=2147483647
   ·have d3:decide ((b:Int) > 2147483647)=false:=Qo8 ψ;obtain⟨n,rfl⟩:=QoZ h1;have hn:n<P.enums.length:=ψ
    obtain⟨x,hi⟩:∃x,P.enums[n]? = some x:=⟨P.enums[n],Qnb hn⟩;have hx:=hP.enums x (Qnp hi);have hg:(P.enums.map QH)[n]? = some (.agg x.cells):=by simp[hi,QH]
    simp only[PE.cells]at hg;have ha:Yo P.enums (n:Int) b=(x.opn||x.items.any (IM b)):=by
     unfold Yo;rw[Qnj ⟨h1,h2,h3⟩,QoF,hi]
    simp only[d1,d2,Qn6,d3,Qs,QoF,Qg,hg,ha,eE,seval];cases ho:x.opn
    ·simp only[Qo1,eE,seval];refine Qh (Qj9 x.items hx.len1 (IM b) 243 (.ptr 0 5 0) _ λy _=>Qka y b _ ω) ύ ?_;simp only[Qa,seval]
    ·exact O_
   ·have d3:decide ((b:Int) > 2147483647)=true:=Qpe ψ;have ha:Yo P.enums t b=false:=by
     unfold Yo;rw[Qni ψ]
    simp only[d1,d2,Qn6,d3,ha,eE,seval]
  ·have d2:decide (t>=(P.enums.length:Int))=true:=Qpe ψ;have ha:Yo P.enums t b=false:=by
    unfold Yo;rw[Qni ψ]
   simp only[d1,d2,Qn6,ha,eE,seval]
 ·have d1:decide (t<0)=true:=Qpe ψ;have ha:Yo P.enums t b=false:=by
   unfold Yo;rw[Qni ψ]
  simp only[d1,ha,Qa,seval]
def GD (P:PL)(k tg kd:Int)(b:Nat)(t:List UInt8)(l p s r:List AV):Int :=
 if (kd != k||oth kd b t l p s r)=true then 12 else if decide ((t.length:Int) > 4096)=true then 3 else if (k==7 && !Hm t)=true then 7
 else if (!Ze k kd b t l p s r)=true then 12 else if (k==9 && !Yo P.enums tg b)=true then 16 else 0
section
variable {M:Nat}(P:PL)(hP:P.ok M)(k tg kd:Int)(b:Nat)(t:List UInt8)(l p s r:List AV)(hl:l.length<=140737488351232)(hp:p.length<=140737488351232)(hs:s.length<=140737488351232)(hr:r.length<=140737488351232)
include hP hl hp hs hr in
theorem Qkb:Qi prog 302 [P.av,.int .i64 k,.int .i64 tg,vo kd b t l p s r] (.int .i64 (GD P k tg kd b t l p s r)):=by
 have e0:P.av=.agg [.list (P.progs.map Qm),.list (P.enums.map QH)]:=rfl;have ho:=z89 kd b t l p s r hs hr;have hf:=QaN k kd b t l p s r hl hp hs hr;have ha:=QaP P hP tg b;simp only[vo]at ho hf;simp only[e0]at ha;refine wF func302 ?_;simp only[eK,f302,seval];simp only[e0,vo,GD,eE,seval];cases a1:(kd != k)
 ·simp only[Qo1,eE,seval];refine aC ho ?_;cases oth kd b t l p s r
  ·simp only[Qnu,eE,seval];cases a2:decide ((t.length:Int) > 4096)
   ·simp only[Qnu,Qa,seval];have fin:∀c:Bool,True:=λ_=>trivial
    cases a3:(k==7)
    ·simp only[QoJ,Qnu,eE,seval];refine aC hf ?_;cases Ze k kd b t l p s r
     ·exact zO
     ·simp only[QoX,Qnu,Qa,seval];cases a4:(k==9)
      ·simp only[QoJ,Qnu,Qa,seval]
      ·simp only[QoW,eE,seval];refine aC ha ?_;cases Yo P.enums tg b<;>simp only[Qok,QoX,Qnu,Qa,seval]
    ·simp only[QoW,eE,seval];refine aC (AF t) ?_;cases Hm t
     ·exact zO
     ·have a4:(k==9)=false:=by
       rw[Qng]at a3;subst a3;rfl
      simp only[QoX,Qnu,eE,seval];refine aC hf ?_;cases Ze k kd b t l p s r
      ·exact zO
      ·simp only[QoX,a4,QoJ,Qnu,Qa,seval]
   ·simp only[Qa,seval]
  ·simp only[Qa,seval]
 ·exact O_
end
open Up
def Z2 (f:Nat->Int):Nat->Nat->Int
 |0,_=>0
 |k+1,i=>if f i=0 then Z2 f k (i+1)else f i
def IN {f:Nat->Int}{n i:Nat}(h:i<n):Z2 f (n-i) i=if f i=0 then Z2 f (n-(i+1)) (i+1)else f i:=by
 rw[show n-i=(n-(i+1))+1 by omega];rfl
def NI {f:Nat->Int}{n i:Nat}(h:i<n)(e:f i=0):Z2 f (n-i) i=Z2 f (n-(i+1)) (i+1):=by
 rw[IN h,Qnj e]
def HT {f:Nat->Int}{n i:Nat}{v:Int}(h:i<n)(e:f i=v)(hv:v≠0):Z2 f (n-i) i=v:=by
 rw[IN h,Qni (by rw[e];exact hv),e]
def Fv {f:Nat->Int}{n i:Nat}(h:¬i<n):Z2 f (n-i) i=0:=by
 rw[show n-i=0 by omega];rfl
def Wc {f:Nat->Int}:∀ {k i:Nat},Z2 f k i=0->∀j,i<=j->j<i+k->f j=0
 |0,_,_,_,h1,h2=>ψ
 |k+1,i,h,j,h1,h2=>by
  rw[Z2]at h;split at h
  ·rename_i h0;by_cases e:j=i
   ·rw[e];exact h0
   ·exact Wc h j ψ ψ
  ·rename_i h0;exact absurd h h0
def _root_.Go.Proofs.YtmlohboeoeoamaaGreatDoor.Br.V.oth (v:V):Bool:=Va.oth v.kd v.bits v.text (v.list.map V.av) (v.pairs.map V.pav) (v.slots.map V.sav) (v.raws.map R.av)
def _root_.Go.Proofs.YtmlohboeoeoamaaGreatDoor.Br.V.one (P:PL)(k tg:Int)(v:V):Int:=GD P k tg v.kd v.bits v.text (v.list.map V.av) (v.pairs.map V.pav) (v.slots.map V.sav) (v.raws.map R.av)
def Fw (v:V):v.av=vo v.kd v.bits v.text (v.list.map V.av) (v.pairs.map V.pav) (v.slots.map V.sav) (v.raws.map R.av):=by
 rw[V.av,V.eta];rfl
def Qe (P:PL)(t:Int):PG:=P.progs[t.toNat]?.getD ⟨[],[],0⟩
def XJ (a b:V):Bool:=a.bits==b.bits&&a.text==b.text
def Xd (g:PG)(n:Int):Option PO:=g.ops.find? λo=>o.num==n
section
variable (m:PG->V->Int)(P:PL)
def QS (o:PO)(v:V):Int:=if o.kind=10 then m (Qe P o.target) v else v.one P o.kind o.target
def HF (o:PO)(ps:List (V×V))(i:Nat):Int:=match ps[i]? with
 |none=>0
 |some x=>if x.1.one P o.key (-1)=0 then(if (ps.take i).any (λq=>XJ q.1 x.1)=true then 9 else QS m P o x.2)else x.1.one P o.key (-1)
def Bs (o:PO)(l:List V)(i:Nat):Int:=match l[i]? with
 |none=>0
 |some x=>QS m P o x
def XC (o:PO)(v:V):Int :=
 if o.card=5 then(if (v.kd != 12||v.oth)=true then 12 else Z2 (HF m P o v.pairs) v.pairs.length 0)
 else if o.card=4 then(if (v.kd != 11||v.oth)=true then 12 else Z2 (Bs m P o v.list) v.list.length 0)
 else QS m P o v
def We (g:PG)(o:PO)(y:Int×V):Bool:=o.union != -1&&(((Xd g y.1).getD HR).union==o.union)
def JU (g:PG)(sl:List (Int×V))(i:Nat):Int:=match sl[i]? with
 |none=>0
 |some x=>match Xd g x.1 with
  |none=>8
  |some o=>if (sl.take i).any (λy=>y.1==x.1)=true then 9 else if (sl.take i).any (We g o)=true then 15 else XC m P o x.2
def Fx (g:PG)(f:R):Bool:=match Xd g f.num with
 |none=>true
 |some o=>o.kind==9&&o.card != 5&&f.wire==0&&decide ((f.bits:Int)<=2147483647) && !Yo P.enums o.target f.bits
def Kk (g:PG)(f:R):Int :=
 if (decide (f.num<1)||decide (f.num > 65535)||decide (f.wire<0)||decide (f.wire > 6))=true then 1
 else if (decide (f.wire<=2) && !(f.data==[])||decide (f.wire > 2) && !((f.bits:Int)==0))=true then 1
 else if (!Fx P g f)=true then 1
 else if (f.wire==3&&decide ((f.data.length:Int) > 4096)||decide ((f.data.length:Int) > 65536))=true then 3 else 0
def Um (g:PG)(l:List R)(i:Nat):Int:=match l[i]? with
 |none=>0
 |some f=>Kk P g f
def GE (g:PG)(sl:List (Int×V)):Bool:=g.ops.any λo=>o.card==1 && !sl.any λy=>y.1==o.num
def Ho (g:PG)(v:V):Int :=
 if Z2 (JU m P g v.slots) v.slots.length 0=0 then
  (if GE g v.slots=true then 14 else Z2 (Um P g v.raws) v.raws.length 0)
 else Z2 (JU m P g v.slots) v.slots.length 0
end
def Fy {m:PG->V->Int}{P:PL}{o:PO}{ps:List (V×V)}{i:Nat}{x:V×V}(h:ps[i]? = some x) :
  HF m P o ps i=if x.1.one P o.key (-1)=0 then(if (ps.take i).any (λq=>XJ q.1 x.1)=true then 9 else QS m P o x.2)else x.1.one P o.key (-1):=by
 unfold HF;rw[h]
def Fz {m:PG->V->Int}{P:PL}{o:PO}{l:List V}{i:Nat}{x:V}(h:l[i]? = some x):Bs m P o l i=QS m P o x:=by
 unfold Bs;rw[h]
def GF {P:PL}{g:PG}{l:List R}{i:Nat}{x:R}(h:l[i]? = some x):Um P g l i=Kk P g x:=by
 unfold Um;rw[h]
def XK (P:PL):Nat->PG->V->Int
 |0,_,v=>if (v.kd != 10||v.oth)=true then 12 else 17
 |n+1,g,v=>if (v.kd != 10||v.oth)=true then 12 else Ho (XK P n) P g v
mutual
def _root_.Go.Proofs.YtmlohboeoeoamaaGreatDoor.Br.V.cnt:V->Nat
 |.mk _ _ _ l p s r=>1+r.length+Q9 l+Xo p+Xk s
def Q9:List V->Nat
 | []=>0
 |x :: l=>x.cnt+Q9 l
def Xo:List (V×V)->Nat
 | []=>0
 |(a,b) :: l=>a.cnt+b.cnt+Xo l
def Xk:List (Int×V)->Nat
 | []=>0
 |(_,a) :: l=>a.cnt+Xk l
end
def Q8:∀v:V,v.cnt=1+v.raws.length+Q9 v.list+Xo v.pairs+Xk v.slots
 |.mk k b t l p s r=>by rw[V.cnt];rfl
def Ct {l:List V}{i:Nat}{x:V}(h:l[i]? = some x):Q9 (l.take (i+1))=Q9 (l.take i)+x.cnt:=by
 induction l generalizing i with
 |nil=>simp at h
 |cons y l ih=>
  cases i with
  |zero=>simp at h;subst h;simp[Q9]
  |succ i=>
   simp only[QnK,Q9];exact O4
def IP {l:List (V×V)}{i:Nat}{x:V×V}(h:l[i]? = some x):Xo (l.take (i+1))=Xo (l.take i)+(x.1.cnt+x.2.cnt):=by
 induction l generalizing i with
 |nil=>simp at h
 |cons y l ih=>
  obtain⟨y1,y2⟩:=y;cases i with
  |zero=>simp at h;subst h;simp[Xo]
  |succ i=>
   simp only[QnK,Xo];exact O4
def IQ {l:List (Int×V)}{i:Nat}{x:Int×V}(h:l[i]? = some x):Xk (l.take (i+1))=Xk (l.take i)+x.2.cnt:=by
 induction l generalizing i with
 |nil=>simp at h
 |cons y l ih=>
  obtain⟨y1,y2⟩:=y;cases i with
  |zero=>simp at h;subst h;simp[Xk]
  |succ i=>
   simp only[QnK,Xk];exact O4
inductive Thin:V->Prop
 |mk {v:V} (n:v.list.length+2*v.pairs.length+v.slots.length<=1099511627776) (list:∀x∈v.list,Thin x) (keys:∀x∈v.pairs,Thin x.1) (vals:∀x∈v.pairs,Thin x.2) (slots:∀x∈v.slots,Thin x.2):Thin v
def FA {v:V}(h:v.oth=false):(v.kd≠11->v.list=[])/\(v.kd≠12->v.pairs=[])/\(v.kd≠10->v.slots=[]):=by
 unfold V.oth Va.oth at h;simp only[Qn4,Qpj,bne_eq_false_iff_eq,Qpf,Qn6]at h;obtain⟨⟨⟨⟨h1,h2⟩,h3⟩,_⟩,_⟩:=h;refine⟨λh=>?_,λh=>?_,λh=>?_⟩
 ·rcases h1 with h1|h1
  ·exact absurd h1 h
  ·exact Qpo.1 ψ
 ·rcases h2 with h2|h2
  ·exact absurd h2 h
  ·exact Qpo.1 ψ
 ·rcases h3 with h3|h3
  ·exact absurd h3 h
  ·exact Qpo.1 ψ
def HU {P:PL}{k tg:Int}{v:V}(h:v.one P k tg=0):v.kd=k/\v.oth=false/\Ze k v.kd v.bits v.text (v.list.map V.av) (v.pairs.map V.pav) (v.slots.map V.sav) (v.raws.map R.av)=true:=by
 unfold V.one GD at h;split at h
 ·omega
 ·rename_i h1;split at h
  ·omega
  ·split at h
   ·omega
   ·split at h
    ·omega
    ·rename_i h2;simp only[Qpl,Qn4,bne_eq_false_iff_eq]at h1;exact⟨h1.1,h1.2,ϭ⟩
def Po {k kd:Int}{b:Nat}{t:List UInt8}{l p s r:List AV}(h:Ze k kd b t l p s r=true):isk k=true:=by
 unfold Ze at h;simp only[Qnz]at h;exact h.1.1.1.1.1.1
def QfN {k:Int}(h:isk k=true):k≠10/\k≠11/\k≠12:=by
 unfold isk at h;simp only[Qnz,Qnf]at h;omega
def Pp {P:PL}{k tg:Int}{v:V}(h:v.one P k tg=0):Thin v:=by
 obtain⟨h1,h2,h3⟩:=HU h;obtain⟨i1,i2,i3⟩:=QfN (Po h3);obtain⟨o1,o2,o3⟩:=FA h2;rw[<-h1]at i1 i2 i3;refine .mk ?_ ?_ ?_ ?_ ?_
 ·rw[o1 i2,o2 i3,o3 i1];simp
 ·rw[o1 i2];simp
 ·rw[o2 i3];simp
 ·rw[o2 i3];simp
 ·rw[o3 i1];simp
def QaQ {P:PL}{M:Nat}:∀(n:Nat) (g:PG) (v:V),v.ok M->XK P n g v=0->Thin v:=by
 intro n
 induction n with
 |zero=>
  intro g v _ h;unfold XK at h;split at h<;>omega
 |succ n ih=>
  intro g v hv h;unfold XK at h;split at h
  ·omega
  rename_i h0;simp only[Qpl,Qn4,bne_eq_false_iff_eq]at h0;obtain⟨o1,o2,o3⟩:=FA h0.2;have e1:=o1 ψ;have e2:=o2 ψ;unfold Ho at h;have hs:Z2 (JU (XK P n) P g v.slots) v.slots.length 0=0:=by
   split at h
   ·assumption
   ·exact h
  refine .mk ?_ (by rw[e1];simp) Ō Ō ?_
  ·rw[e1,e2];have:=hv.ns;simp;omega
  ·intro x hx;obtain⟨i,hi⟩:=Qnn.1 hx;have aa:=(Qna.1 hi).1;have h1:=Wc hs i (Qnk _) ψ;unfold JU at h1;rw[hi]at h1;dsimp only at h1;split at h1
   ·omega
   rename_i o _;split at h1
   ·omega
   split at h1
   ·omega
   have fT:=hv.slots x hx;have jS:∀y:V,y.ok M->QS (XK P n) P o y=0->Thin y:=by
    intro y hy he;unfold QS at he;split at he
    ·exact ih _ _ hy he
    ·exact Pp he
   unfold XC at h1;split at h1
   ·split at h1
    ·omega
    rename_i h2;simp only[Qpl,Qn4,bne_eq_false_iff_eq]at h2;obtain⟨o1,o2,o3⟩:=FA h2.2;have e1:=o1 ψ;have e3:=o3 ψ;have hp:∀y∈x.2.pairs,Thin y.1/\Thin y.2:=by
     intro y hy;obtain⟨j,hj⟩:=Qnn.1 hy;have aa:=(Qna.1 hj).1;have h3:=Wc h1 j (Qnk _) ψ;unfold HF at h3;rw[hj]at h3;dsimp only at h3;split at h3
     ·rename_i hk;split at h3
      ·omega
      ·exact⟨Pp hk,jS _ (fT.vals y hy) h3⟩
     ·rename_i hk;exact absurd h3 hk
    refine .mk ?_ (by rw[e1];simp) (λy hy=>(hp y hy).1) (λy hy=>(hp y hy).2) (by rw[e3];simp);rw[e1,e3];have:=fT.np;simp;omega
   ·split at h1
    ·split at h1
     ·omega
     rename_i h2;simp only[Qpl,Qn4,bne_eq_false_iff_eq]at h2;obtain⟨o1,o2,o3⟩:=FA h2.2;have e2:=o2 ψ;have e3:=o3 ψ;refine .mk ?_ ?_ Ō Ō (by rw[e3];simp)
     ·rw[e2,e3];have:=fT.nl;simp;omega
     ·intro y hy;obtain⟨j,hj⟩:=Qnn.1 hy;have aa:=(Qna.1 hj).1;have h3:=Wc h1 j (Qnk _) ψ;unfold Bs at h3;rw[hj]at h3;exact jS _ (fT.list y hy) h3
    ·exact jS _ fT h1
end Va
namespace So
section
variable {α:Type}
def Z3 (lt:α->α->Bool)(a:α):List α->List α
 | []=>[a]
 |x :: l=>bif lt x a then x :: Z3 lt a l else a :: x :: l
def QJ (lt:α->α->Bool):List α->List α
 | []=>[]
 |a :: l=>Z3 lt a (QJ lt l)
def mg (lt:α->α->Bool):List α->List α->List α
 | [],Y=>Y
 |x :: X,[]=>x :: X
 |x :: X,y :: Y=>bif lt y x then y :: mg lt (x :: X) Y else x :: mg lt X (y :: Y)
termination_by X Y=>X.length+Y.length
structure SW (lt:α->α->Bool):Prop where
 irr:∀x,lt x x=false
 tr:∀x y z,lt x y=true->lt y z=true->lt x z=true
 nt:∀x y z,lt x y=false->lt y z=false->lt x z=false
variable {lt:α->α->Bool}
theorem SW.as (h:SW lt){x y:α}(hx:lt x y=true):lt y x=false:=by
 cases hy:lt y x with
 |false=>rfl
 |true=>
  have:=h.tr x y x hx hy;rw[h.irr]at this;cases this
theorem Wf (X:List α):mg lt X []=X:=by cases X<;>simp[mg]
theorem KL (Y:List α):mg lt [] Y=Y:=by simp[mg]
theorem UP {x y:α}{X Y:List α}(h:lt y x=true):mg lt (x :: X) (y :: Y)=y :: mg lt (x :: X) Y:=by rw[mg,h];rfl
theorem HG {x y:α}{X Y:List α}(h:lt y x=false):mg lt (x :: X) (y :: Y)=x :: mg lt X (y :: Y):=by rw[mg,h];rfl
theorem Hp {a x:α}{l:List α}(h:lt x a=true):Z3 lt a (x :: l)=x :: Z3 lt a l:=by rw[Z3,h];rfl
theorem Hq {a x:α}{l:List α}(h:lt x a=false):Z3 lt a (x :: l)=a :: x :: l:=by rw[Z3,h];rfl
theorem IR (a:α):∀Y:List α,mg lt [a] Y=Z3 lt a Y
 | []=>by rw[Wf];rfl
 |y :: Y=>by
  cases h:lt y a with
  |true=>rw[UP h,Hp h,IR a Y]
  |false=>rw[HG h,Hq h,KL]
theorem QfO (h:SW lt)(a:α):∀(n:Nat) (X Y:List α),X.length+Y.length=n->mg lt (Z3 lt a X) Y=Z3 lt a (mg lt X Y):=by
 intro n
 induction n using Nat.strongRecOn with
 |_ n ih=>
 intro X Y hn;cases X with
 |nil=>
  show mg lt [a] Y=Z3 lt a (mg lt [] Y);rw[KL,IR]
 |cons x X=>
  cases Y with
  |nil=>rw[Wf,Wf]
  |cons y Y=>
   simp only[Qnq]at hn;cases fp:lt x a with
   |false=>
    have hi:Z3 lt a (x :: X)=a :: x :: X:=Hq fp;cases k8:lt y a with
    |true=>
     cases fj:lt y x with
     |true=>
      have i:=ih (n-1) ψ (x :: X) Y Ϟ;rw[hi]at i |-;rw[UP k8,UP fj,Hp k8,i]
     |false=>
      have:=h.nt y x a fj fp;rw[k8]at this;cases this
    |false=>
     rw[hi,HG k8];cases fj:lt y x with
     |true=>rw[UP fj,Hq k8]
     |false=>rw[HG fj,Hq fp]
   |true=>
    have hi:Z3 lt a (x :: X)=x :: Z3 lt a X:=Hp fp;cases fj:lt y x with
    |true=>
     have i:=ih (n-1) ψ (x :: X) Y Ϟ;rw[hi]at i |-;rw[UP fj,UP fj,Hp (h.tr y x a fj fp),i]
    |false=>
     have i:=ih (n-1) ψ X (y :: Y) Ϟ;rw[hi,HG fj,HG fj,Hp fp,i]
theorem YJ (h:SW lt):∀A B:List α,mg lt (QJ lt A) (QJ lt B)=QJ lt (A++B)
 | [],B=>KL _
 |a :: A,B=>by
  show mg lt (Z3 lt a (QJ lt A)) (QJ lt B)=Z3 lt a (QJ lt (A++B));rw[QfO h a _ _ _ rfl,YJ h A B]
theorem UQ:∀(n:Nat) (X1 Y1 X2 Y2:List α),X1.length+Y1.length=n->(∀y∈Y1,∀x∈X2,lt y x=true)->(∀x∈X1,∀y∈Y2,lt y x=false)->
  mg lt (X1++X2) (Y1++Y2)=mg lt X1 Y1++mg lt X2 Y2:=by
 intro n
 induction n using Nat.strongRecOn with
 |_ n ih=>
 intro X1 Y1 X2 Y2 hn h1 h2;cases X1 with
 |nil=>
  cases Y1 with
  |nil=>rw[KL];rfl
  |cons y Y1=>
   cases X2 with
   |nil=>simp[KL]
   |cons x X2=>
    simp only[Qnq,Qn7]at hn;have i:=ih (n-1) ψ [] Y1 (x :: X2) Y2 (by simp only[Qn7];omega) (λz hz=>h1 z (Qnr _ hz)) h2;simp only[Qny,Qnx,KL]at i |-;rw[UP (h1 y ό x ό),i]
 |cons x X1=>
  simp only[Qnq]at hn;cases Y1 with
  |nil=>
   cases Y2 with
   |nil=>simp[Wf]
   |cons y Y2=>
    have i:=ih (n-1) ψ X1 [] X2 (y :: Y2) (by simp only[Qn7]at hn |-;omega) h1 (λz hz=>h2 z (Qnr _ hz));simp only[Qny,Qnx,Wf]at i |-;rw[HG (h2 x ό y ό),i]
  |cons y Y1=>
   simp only[Qnq]at hn;simp only[Qnx];cases fj:lt y x with
   |true=>
    have i:=ih (n-1) ψ (x :: X1) Y1 X2 Y2 Ϟ (λz hz=>h1 z (Qnr _ hz)) h2;simp only[Qnx]at i;rw[UP fj,UP fj,i];rfl
   |false=>
    have i:=ih (n-1) ψ X1 (y :: Y1) X2 Y2 Ϟ h1 (λz hz=>h2 z (Qnr _ hz));simp only[Qnx]at i;rw[HG fj,HG fj,i];rfl
theorem QdX {x:α}{Y1 Y2:List α}(h1:∀y∈Y1,lt y x=true)(h2:∀y∈Y2,lt y x=false):mg lt [x] (Y1++Y2)=Y1++x :: Y2:=by
 have a:=UQ (lt:=lt) _ [] Y1 [x] Y2 rfl (λy hy z hz=>by rw[Qpp.1 hz];exact h1 y hy) ό;have b:=UQ (lt:=lt) _ [x] [] [] Y2 rfl ό (λz hz y hy=>by rw[Qpp.1 hz];exact h2 y hy);simp only[Qny,Qof,KL,Wf]at a b;rw[a,b];rfl
theorem UR {y:α}{X1 X2:List α}(h1:∀x∈X1,lt y x=false)(h2:∀x∈X2,lt y x=true):mg lt (X1++X2) [y]=X1++y :: X2:=by
 have a:=UQ (lt:=lt) _ X1 [y] X2 [] rfl (λz hz x hx=>by rw[Qpp.1 hz];exact h2 x hx) ό;have b:=UQ (lt:=lt) _ X1 [] [] [y] rfl ό (λx hx z hz=>by rw[Qpp.1 hz];exact h1 x hx);simp only[Qny,Qof,KL,Wf]at a b;rw[a,b];simp
def Zt (lt:α->α->Bool)(l:List α):Prop:=l.Pairwise λx y=>lt y x=false
theorem VJ {a z:α}:∀ {l:List α},z∈Z3 lt a l->z=a\/z∈l
 | [],h=>.inl (Qpp.1 h)
 |x :: l,h=>by
  cases hx:lt x a with
  |true=>
   rw[Hp hx]at h;rcases Qoz.1 h with rfl|h
   ·exact .inr Qnt
   ·rcases VJ h with h|h
    ·exact .inl h
    ·exact .inr (Qnr _ h)
  |false=>
   rw[Hq hx]at h;rcases Qoz.1 h with rfl|h
   ·exact .inl rfl
   ·exact .inr h
theorem DN {z:α}:∀ {l:List α},z∈QJ lt l->z∈l
 | [],h=>h
 |a :: l,h=>by
  rcases VJ (l:=QJ lt l) h with rfl|h
  ·exact Qnt
  ·exact Qnr _ (DN h)
theorem SM (h:SW lt)(a:α):∀ {l:List α},Zt lt l->Zt lt (Z3 lt a l)
 | [],_=>Qpq _ _
 |x :: l,hs=>by
  obtain⟨h1,h2⟩:=QoN.1 hs;cases hx:lt x a with
  |true=>
   rw[Hp hx];refine QoN.2 ⟨λz hz=>?_,SM h a h2⟩;rcases VJ hz with rfl|hz
   ·exact h.as hx
   ·exact h1 z hz
  |false=>
   rw[Hq hx];refine QoN.2 ⟨λz hz=>?_,hs⟩;rcases Qoz.1 hz with rfl|hz
   ·exact hx
   ·exact h.nt z x a (h1 z hz) hx
theorem X5 (h:SW lt):∀l:List α,Zt lt (QJ lt l)
 | []=>List.Pairwise.nil
 |a :: l=>SM h a (X5 h l)
theorem SN (a:α):∀l:List α,(Z3 lt a l).length=l.length+1
 | []=>rfl
 |x :: l=>by
  cases hx:lt x a with
  |true=>rw[Hp hx,Qnq,SN a l,Qnq]
  |false=>rw[Hq hx];rfl
theorem Wg:∀l:List α,(QJ lt l).length=l.length
 | []=>rfl
 |a :: l=>by show(Z3 lt a (QJ lt l)).length=_;rw[SN,Wg l];rfl
theorem QfP:∀(n:Nat) (X Y:List α),X.length+Y.length=n->(mg lt X Y).length=n:=by
 intro n
 induction n using Nat.strongRecOn with
 |_ n ih=>
 intro X Y hn;cases X with
 |nil=>rw[KL];simpa using hn
 |cons x X=>
  cases Y with
  |nil=>rw[Wf];simpa using hn
  |cons y Y=>
   simp only[Qnq]at hn;cases fj:lt y x with
   |true=>
    rw[UP fj,Qnq,ih (n-1) ψ (x :: X) Y Ϟ];omega
   |false=>
    rw[HG fj,Qnq,ih (n-1) ψ X (y :: Y) Ϟ];omega
theorem QfQ {z:α}:∀(n:Nat) (X Y:List α),X.length+Y.length=n->z∈mg lt X Y->z∈X\/z∈Y:=by
 intro n
 induction n using Nat.strongRecOn with
 |_ n ih=>
 intro X Y hn hz;cases X with
 |nil=>rw[KL]at hz;exact .inr hz
 |cons x X=>
  cases Y with
  |nil=>rw[Wf]at hz;exact .inl hz
  |cons y Y=>
   simp only[Qnq]at hn;cases fj:lt y x with
   |true=>
    rw[UP fj]at hz;rcases Qoz.1 hz with rfl|hz
    ·exact .inr Qnt
    ·exact(ih (n-1) ψ (x :: X) Y Ϟ hz).imp id (Qnr _)
   |false=>
    rw[HG fj]at hz;rcases Qoz.1 hz with rfl|hz
    ·exact .inl Qnt
    ·exact(ih (n-1) ψ X (y :: Y) Ϟ hz).imp (Qnr _) id
theorem YK (h:SW lt){l:List α}(hs:Zt lt l){i j:Nat}{u v x:α}(d_:i<=j)(hi:l[i]? = some u)(hj:l[j]? = some v)(hv:lt v x=true):lt u x=true:=by
 rcases Nat.lt_or_eq_of_le d_ with aa|rfl
 ·obtain⟨h1,rfl⟩:=Qna.1 hi;obtain⟨h2,rfl⟩:=Qna.1 hj;have:=Qpr.1 hs i j h1 h2 aa;cases hu:lt l[i] x with
  |true=>rfl
  |false=>
   have:=h.nt _ _ _ this hu;rw[hv]at this;cases this
 ·rw[hi]at hj;cases hj;exact hv
theorem YY {l:List α}(hs:Zt lt l)(h:SW lt){i j:Nat}{u v:α}(d_:i<=j)(hi:l[i]? = some u)(hj:l[j]? = some v):lt v u=false:=by
 rcases Nat.lt_or_eq_of_le d_ with aa|rfl
 ·obtain⟨h1,rfl⟩:=Qna.1 hi;obtain⟨h2,rfl⟩:=Qna.1 hj;exact Qpr.1 hs i j h1 h2 aa
 ·rw[hi]at hj;cases hj;exact h.irr _
def XM (lt:α->α->Bool)(s:Nat):Nat->List α->List α
 |0,_=>[]
 |n+1,l=>QJ lt (l.take s)++XM lt s n (l.drop s)
theorem VK (s:Nat):∀k,XM lt s k []=[]
 |0=>rfl
 |k+1=>by rw[XM,List.take_nil,Qor,VK s k];rfl
theorem FB (s:Nat):∀(k:Nat) (l:List α),(XM lt s k l).length=min (s*k) l.length
 |0,l=>by simp[XM]
 |k+1,l=>by
  rw[XM,QnP,Wg,FB s k,Qn8,QnS,Nat.mul_succ];omega
theorem Uy {s:Nat}{z:α}:∀ {k:Nat} {l:List α},z∈XM lt s k l->z∈l
 |0,l,h=>by cases h
 |k+1,l,h=>by
  rw[XM]at h;rcases Qow.1 h with h|h
  ·exact QnZ (DN h)
  ·exact QnY (Uy h)
theorem GG (s:Nat):∀(k:Nat) (l:List α),XM lt s (k+1) l=XM lt s k l++QJ lt ((l.drop (s*k)).take s)
 |0,l=>by simp[XM]
 |k+1,l=>by
  rw[XM,GG s k (l.drop s),XM,Qnw,QnG,Nat.mul_succ,Nat.add_comm s (s*k)]
theorem SO {s k:Nat}{l:List α}(h:l.length<=s)(hk:l.length<=s*k):XM lt s k l=QJ lt l:=by
 cases k with
 |zero=>
  have:l=[]:=Qoh ψ;subst this;rfl
 |succ k=>rw[XM,QnL h,QnO h,VK,Qof]
theorem QaR (s:Nat)(l:List α):l.take s++(l.drop s).take s=l.take (2*s):=by
 rw[show 2*s=s+s by omega,List.take_add]
end
end So
namespace Va
open Go Am Rc Bt
def US (b:Nat):Nat :=
 let z:=b % 9223372036854775808
 if z > 9218868437227405312 then 0 else if z=9218868437227405312 then 1 else if z=0 then 2 else if z<4503599627370496 then 3 else 4
def IS (b:Nat):b &&& 4503599627370495=b % 4503599627370496:=Nat.and_two_pow_sub_one_eq_mod b 52
def IU (b:Nat):b &&& 9218868437227405312=(b / 4503599627370496 % 2048)*4503599627370496:=by
 have h1:(9218868437227405312:Nat)=2047 <<< 52:=ϊ
 have h2:(b / 4503599627370496 % 2048)*4503599627370496=(b >>> 52 % 2 ^ 11) <<< 52:=by
  rw[Nat.shiftLeft_eq,Nat.shiftRight_eq_div_pow]
 rw[h1,h2]
 apply Nat.eq_of_testBit_eq
 intro i;rw[Nat.testBit_and,Nat.testBit_shiftLeft,Nat.testBit_shiftLeft,Nat.testBit_mod_two_pow,Nat.testBit_shiftRight,show(2047:Nat)=2 ^ 11-1 by decide,Nat.testBit_two_pow_sub_one];by_cases h:i>=52
 ·rw[show 52+(i-52)=i by omega];simp[h,Bool.and_comm]
 ·simp[h]
def Qkc (b:Nat)(hb:b<18446744073709551616):Qi prog 157 [.int .u64 (b:Nat)] (.int .i64 (US b:Nat)):=by
 refine wF func157 ?_;simp only[eK,f157,seval];have a1:bits .and .u64 (b:Int) 9218868437227405312=(((b / 4503599627370496 % 2048)*4503599627370496:Nat):Int):=by
  have:=HN b 9218868437227405312 hb ϊ;rw[IU]at this;exact this
 have a2:bits .and .u64 (b:Int) 4503599627370495=((b % 4503599627370496:Nat):Int):=by
  have:=HN b 4503599627370495 hb ϊ;rw[IS]at this;exact this
 simp only[a1,a2,Qa,seval];unfold US
 repeat' (first|(refine Q4 (λh=>?_) (λh=>?_)<;>simp only[h,Qa,seval])|(refine Zb (λh=>?_) (λh=>?_)<;>simp only[h,Ql,Qa,seval])|(refine Zc (λh=>?_) (λh=>?_)<;>simp only[h,Ql,eE,seval]))
 all_goals exact OJ
def Xw (k:Int)(b:Nat):Nat:=if k=6/\US b=0 then 9221120237041090560 else b
def QaS (b:Nat):((US b:Int)==0)=decide (US b=0):=by
 rw[Qn5,Qng,Qnf];omega
end Va
end Go.Proofs.YtmlohboeoeoamaaGreatDoor

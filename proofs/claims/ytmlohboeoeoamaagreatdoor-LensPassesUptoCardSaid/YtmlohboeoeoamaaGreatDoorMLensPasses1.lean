import Derived.Laws.MakeOwn
import Derived.Lib.UnsafeStr
import Derived.Laws.RangeString
import Derived.Lib.Bytealg
import Derived.Deep.LoopGhost
import Derived.Scope
import Derived.Orders
import Derived.ScopeJumps
import Derived.Defers
import Derived.Below
import Derived.ChangeSame
import Derived.ProofKit
import Derived.OpenShut
import Derived.ChangeArms
import Derived.Test.YtmlohboeoeoamaaGreatDoorProg
import Derived.WalkKit
import Derived.Lib.SmallJoins
import Derived.Deep.Slices
import Derived.DataShut
import Derived.Test.YtmlohboeoeoamaaGreatDoorMLensPasses0
set_option linter.defProp false
namespace Go.Proofs.YtmlohboeoeoamaaGreatDoor
open Tryz
namespace Am
open Go
def Jc (sz:Nat)(z:List AV):AV:=if sz=1 then z.headD .top else .agg z
def FU {sz:Nat}{z:List AV}(hz:z.length=sz)(hl:z.all AV.leaf=true):(Jc sz z).cells=z:=by
 unfold Jc;split
 ·rename_i h;subst h
  match z,hz with
  | [x],_=>
   show x.cells=[x];exact AV.leaf_cells Ä
 ·rfl
def Kd {sz:Nat}{z:List AV}(hz:z.length=sz)(hl:z.all AV.leaf=true):∀(n:Nat),QU (List.replicate n (Jc sz z))=(List.replicate n z).flatten
 |0=>rfl
 |n+1=>by
  rw[List.replicate_succ,Zq,FU hz hl,Kd hz hl n];rfl
def Gl {z:List AV}(hz:z.length≠0):∀(n j:Nat),j<n*z.length->(List.replicate n z).flatten[j]? = z[j % z.length]?
 |0,j,h=>ψ
 |n+1,j,h=>by
  rw[List.replicate_succ,List.flatten_cons];by_cases hj:j<z.length
  ·rw[QoD hj,Nat.mod_eq_of_lt hj]
  ·rw[QoE ψ,Gl hz n (j-z.length) (by rw[Nat.succ_mul]at h;omega)];rw[<-Nat.mod_eq_sub_mod ψ]
def Yw {sz:Nat}{z:List AV}(hz:z.length=sz)(hf:AV.rfL z=true)(hl:z.all AV.leaf=true)(n:Nat):Elems sz (List.replicate n (Jc sz z)):=by
 refine⟨λx hx=>?_,?_,?_⟩
 ·rw[(List.mem_replicate.1 hx).2,FU hz hl,hz]
 ·rw[Kd hz hl];rw[Sk]at hf |-;rw[Qno]at hf |-;intro x hx;obtain⟨l,h1,h2⟩:=List.mem_flatten.1 hx;rw[(List.mem_replicate.1 h1).2]at h2;exact hf x h2
 ·rw[Kd hz hl];rw[Qno]at hl |-;intro x hx;obtain⟨l,h1,h2⟩:=List.mem_flatten.1 hx;rw[(List.mem_replicate.1 h1).2]at h2;exact hl x h2
section
variable {P:Program}{N:Nat}{st:St}{Q:St->Prop}
theorem Qah {G:Gh}{z:List AV}{zs:Array Value}{sz:Nat}(rz:RepL G z zs.toList)(hz:z.length=sz)(h0:sz≠0)(c_:z.all AV.leaf=true)(n:Nat):RepL G (QU (List.replicate n (Jc sz z))) (Builtin.zeroCells zs n).toList:=by
 have fO:zs.size=sz:=by
  have:=rz.length;simp only[QnH]at this;omega
 rw[Kd hz c_];have dR:((List.replicate n z).flatten).length=n*sz:=ŋ
 refine RepL.of_all (by rw[dR,QnH,size_zeroCells,fO]) λj u v mZ gA=>?_
 have hj:j<n*sz:=by
  rw[<-dR];exact(Qna.1 mZ).1
 rw[Gl (by rw[hz];exact h0) n j (by rw[hz];exact hj),hz]at mZ;obtain⟨v',bQ,aj⟩:=rz.at_ mZ;have:v=v':=by
  simp only[Builtin.zeroCells,Array.toList_map,Array.toList_range,QoA]at gA;rw[List.getElem?_range (by rw[fO];exact hj)]at gA;exact Ol
 rw[this];exact aj
theorem QA.clr {d:Option Nat}{sz:Nat}{z:List AV}{r:RA}{its:List Item}{l s g o n:Nat}{q:Bool}{xs:List AV}(kA:r.ev st.f=.vec l s g o n q)(ar:Qc st.m l s=.vec g sz xs)(cH:o+n<=xs.length)(hn:0<n)
  (h:QA P N its { st with m:=Am.put st.m l s (.vec g sz (xs.take o++List.replicate n (Jc sz z)++xs.drop (o+n))),f:=Ql st.f d (.tup []) } Q):QA P N (⟨d,.clr sz z r,none⟩ :: its) st Q:=by
 refine QA.step rfl λG B a w op hr hd aW hc K QQ hK=>?_
 cases ho:op.op<;>rw[ho]at hc<;>simp only[Zi,Qnu]at hc;rename_i cl;split at hc
 case h_2=>cases hc
 rename_i o1 x t o2;cases o2;simp only[Qnz]at hc;obtain⟨aD,lu⟩:=hc;cases hu:P.underlying t with
 |none=>simp[hu]at aD
 |some dd=>
  cases dd with
  |slice e=>
   simp only[hu,Qnz,Qob,QnE,Qng]at aD;obtain⟨⟨⟨⟨i,hi,⟨rfl,hz⟩⟩,e_⟩,gN⟩,c_⟩:=aD;cases cm:i.zero with
   |none=>rw[cm]at hz;cases hz
   |some zv=>
    rw[cm]at hz;simp only[Qnz,Qng]at hz;have rx:=Qx hr lu;rw[kA]at rx;obtain⟨e1,e2,e3,e4⟩:=hr.mr.vec l s g i.size xs ar;have rz:RepL G z zv.cells.toList:=isCL_ok hz.1;have fO:zv.cells.size=i.size:=by
     have:=rz.length;simp only[QnH]at this;omega
    generalize hv:a.eval x=v at rx;cases rx with
    |vec pG hg hh=>
     rcases hh e1.symm with⟨_,_,kP,_⟩|⟨b,A,c,hb,lY,rfl,rn,dI,_,hA⟩
     ·omega
     have hA:=hA ⟨ψ,.inr hn⟩;subst hA;rw[e2]at hv;rcases e4 with⟨e4,_⟩|⟨b',e4,ae⟩
     ·rw[hb]at e4;cases e4
     ·rw[hb]at e4;cases e4;obtain⟨⟨cur,aE,fg,aj⟩,hle,bP⟩:=ae;have pL:=Qah rz hz.2 e_ c_ n;have kN:=Yw hz.2 gN c_ n;have fS:(Builtin.zeroCells zv.cells n).toList.length=n*i.size:=by rw[QnH,size_zeroCells,fO]
      have nf:o*i.size+n*i.size<=xs.length*i.size:=by rw[<-QnM];exact Qoi _ cH
      have pH:xs.length*i.size<=cur.size:=by rw[fg];exact Qoi _ hle
      obtain⟨w',ay,dz,eD⟩:=ZT P s b (o*i.size) (Builtin.zeroCells zv.cells n).toList 0 w cur aE ψ (pL.leaves kN.leaf);have af:(Builtin.clear_ #[t] op.type #[a.eval x]).run P w=.ok (.tuple #[]) w':=by
       cases n with
       |zero=>omega
       |succ n=>simp only[Builtin.clear_,hv,List.getElem?_toArray,Qoe,Sem.run_bind,run_underlying hu,Result.andThen_ok,Sem.run_pure,zeroValue,typeInfo,run_program,hi,cm,ay]
      have az:(execOp a.eval op).run P w=.ok (.value (.tuple #[])) w':=by
       exact OC
      have dR:QU (xs.take o++List.replicate n (Jc i.size z)++xs.drop (o+n))=(QU xs).take (o*i.size)++QU (List.replicate n (Jc i.size z))++(QU xs).drop (o*i.size+n*i.size):=by
       rw[Js,Js,Kn e3.size,<-QnM,JS e3.size]
      have iE:(xs.take o++List.replicate n (Jc i.size z)++xs.drop (o+n)).length=xs.length:=Ϗ
      have eh:Elems i.size (xs.take o++List.replicate n (Jc i.size z)++xs.drop (o+n)):=by
       refine⟨λy hy=>?_,?_,?_⟩
       ·rcases Qow.1 hy with hy|hy
        ·rcases Qow.1 hy with hy|hy
         ·exact e3.size y (QnZ hy)
         ·exact kN.size y hy
        ·exact e3.size y (QnY hy)
       ·rw[dR];simp only[Wl,Qnz];exact⟨⟨JO e3.rf λy hy=>QnZ hy,kN.rf⟩,JO e3.rf λy hy=>QnY hy⟩
       ·rw[dR];simp only[Qov,Qnz];exact⟨⟨ZA e3.leaf λy hy=>QnZ hy,kN.leaf⟩,ZA e3.leaf λy hy=>QnY hy⟩
      have aH:Rel G B N { st with m:=Am.put st.m l s (.vec g i.size (xs.take o++List.replicate n (Jc i.size z)++xs.drop (o+n))) } a w':=by
       refine⟨?_,hr.size,hr.slots,hr.ds,hr.base,Ý,WA hr.ne⟩;refine hr.mr.rowset ar hb eD eh ⟨⟨_,dz,?_,?_⟩,by rw[iE];exact hle,bP⟩
       ·simp only[Qog,QnP,Qn8,QnS,QnH,fS];rw[QnH]at fS;omega
       ·rw[dR,iE];have h6:(cur.toList.take (o*i.size+0)++(Builtin.zeroCells zv.cells n).toList++cur.toList.drop (o*i.size+0+(Builtin.zeroCells zv.cells n).toList.length)).toArray.toList.take (xs.length*i.size)=(cur.toList.take (xs.length*i.size)).take (o*i.size)++(Builtin.zeroCells zv.cells n).toList++(cur.toList.take (xs.length*i.size)).drop (o*i.size+(Builtin.zeroCells zv.cells n).toList.length):=by
         simp only[QnI];exact FR _ _ _ _ ψ Λ
        rw[h6,fS];exact((aj.take _).append pL).append (aj.drop _)
      unfold Oper.wp;rw[az];have aY:op.dst=d:=hd;show K (a.put op.dst _) _;rw[aY];exact hK _ _ _ _ h (aH.put aW (.tup .nil)) (Ext.turned eD (.inr ⟨l,s,hb⟩))
  |_=>simp[hu]at aD
theorem QA.mk {d:Option Nat}{site el sz bytes:Nat}{z:List AV}{l c:RA}{its:List Item}{kl kc:IntKind}{n m:Nat}(hl:l.ev st.f=.int kl (n:Int))(hcv:c.ev st.f=.int kc (m:Int))(cr:n<=m)(hm:m<=9223372036854775807)(hb:bytes*m<=281474976710656)
  (ak:Qn (Qc st.m 0 site)=true)
  (h:QA P N its { st with m:=Am.put st.m 0 site (.vec (QB st.m 0 site) sz (List.replicate n (Jc sz z))),f:=Ql st.f d (.vec 0 site (QB st.m 0 site) 0 n false) } Q):QA P N (⟨d,.mk site el sz bytes z l c,none⟩ :: its) st Q:=by
 refine QA.step rfl λG B a w o hr hd aW hc K QQ hK=>?_
 cases ho:o.op<;>rw[ho]at hc<;>simp only[Zi,Qnu]at hc;rename_i t x y;simp only[Qnz]at hc;obtain⟨⟨aD,aM⟩,bN⟩:=hc;cases hu:P.underlying t with
 |none=>simp[hu]at aD
 |some dd=>
  cases dd with
  |slice e=>
   simp only[hu,Qnz,Qob,QnE,Qng]at aD;obtain⟨⟨⟨⟨⟨⟨i,hi,⟨rfl,rfl⟩,hz⟩,e_⟩,rfl⟩,dY⟩,gN⟩,c_⟩:=aD;cases cm:i.zero with
   |none=>rw[cm]at hz;cases hz
   |some zv=>
    rw[cm]at hz;simp only[Qnz,Qng]at hz;have rl:=Qx hr aM;have rc:=Qx hr bN;rw[hl]at rl;rw[hcv]at rc;have iD:a.eval x=.int kl (n:Int):=by
     revert rl
     generalize a.eval x=v;intro rl;cases rl;rfl
    have h_:a.eval y=.int kc (m:Int):=by
     revert rc
     generalize a.eval y=v;intro rc;cases rc;rfl
    have qY:(i.bytes:Int)*(m:Int)<=281474976710656:=by
     have h:((i.bytes*m:Nat):Int)<=281474976710656:=ψ
     rwa [Int.natCast_mul]at h
    have af:=run_make (P:=P) w t e i zv hu hi cm kl kc (n:Int) (m:Int) ψ ψ qY ψ;simp only[QoF]at af;have rz:RepL G z zv.cells.toList:=isCL_ok hz.1;have fO:zv.cells.size=i.size:=by
     have:=rz.length;simp only[QnH]at this;omega
    have dk:(madeCells zv.cells (m*i.size)).size=m*i.size:=size_madeCells _ _;have ae:RowIs G site (w.alloc (.cells (madeCells zv.cells (m*i.size)) e)) w.heap.size m i.size (List.replicate n (Jc i.size z)):=by
     refine⟨⟨_,Zh.new w _ e dY,dk,?_⟩,by simpa using cr,ώ⟩;rw[Kd hz.2 c_,List.length_replicate];have dR:((List.replicate n z).flatten).length=n*i.size:=by simp[hz.2]
     have hle:n*i.size<=m*i.size:=Qoi _ cr;refine RepL.of_all (by rw[dR,Qn8,QnH,dk];exact Qot hle) λj u v mZ gA=>?_
     have hj:j<n*i.size:=by
      rw[<-dR];exact(Qna.1 mZ).1
     rw[Gl (by rw[hz.2];exact e_) n j (by rw[hz.2];exact hj),hz.2]at mZ;have xg:j % i.size<i.size:=Nat.mod_lt _ ψ;obtain⟨v',bQ,aj⟩:=rz.at_ mZ;rw[List.getElem?_take_of_lt hj]at gA;have:v=v':=by
      simp only[madeCells,Array.toList_map,Array.toList_range,QoA]at gA;rw[List.getElem?_range ψ]at gA;exact Ol
     rw[this];exact aj
    have fC:=Ko hr.mr ak;have fF:0<st.m.length:=Qoy.2 hr.ne;obtain⟨aH,he⟩:=hr.vecput (w':=w.alloc (.cells (madeCells zv.cells (m*i.size)) e)) (cap:=m) (b:=some w.heap.size) fF ak fC rfl rfl rfl ό (λk hk _=>RowKit.Below.heap_alloc w _ k hk) (λk e=>Ô) (Yw hz.2 gN c_ n) (.inr ⟨_,rfl,ae⟩);have az:(execOp a.eval o).run P w=.ok (.value (.slice (some ⟨w.heap.size,0,none⟩) n m)) (w.alloc (.cells (madeCells zv.cells (m*i.size)) e)):=by
     simp only[execOp,ho,Sem.run_bind,iD,h_,af,Result.andThen_ok];rfl
    unfold Oper.wp;rw[az];have aY:o.dst=d:=hd;show K (a.put o.dst _) _;rw[aY];refine hK _ _ _ _ h (aH.put aW (.vec rfl (QnV Ϧ) λ_=>.inr ⟨w.heap.size,⟨w.heap.size,0,none⟩,m,Ϧ,by simp[Gh.row];exact cr,rfl,cr,ώ,λ_=>Ϧ,λ_=>ό⟩)) he
  |_=>simp[hu]at aD
theorem QA.s2b {d:Option Nat}{site el:Nat}{r:RA}{its:List Item}{s:List UInt8}(hs:r.ev st.f=.str s)(hm:s.length<=9223372036854775807)(ak:Qn (Qc st.m 0 site)=true)
  (h:QA P N its { st with m:=Am.put st.m 0 site (.vec (QB st.m 0 site) 1 (Qy s)),f:=Ql st.f d (.vec 0 site (QB st.m 0 site) 0 s.length false) } Q):QA P N (⟨d,.s2b site el r,none⟩ :: its) st Q:=by
 refine QA.step rfl λG B a w o hr hd aW hc K QQ hK=>?_
 cases ho:o.op<;>rw[ho]at hc<;>simp only[Zi,Qnu]at hc;rename_i src dst x;simp only[Qnz]at hc;obtain⟨⟨ay,aD⟩,dg⟩:=hc;cases hu:P.underlying dst with
 |none=>simp[hu]at aD
 |some dd=>
  cases dd with
  |slice e=>
   simp only[hu,Qnz,Qng]at aD;obtain⟨⟨hint,rfl⟩,dY⟩:=aD;have wW:P.underlying e=some (.int .u8):=by
    unfold Ui at hint;split at hint
    ·rename_i k hk;simp only[Qng]at hint;rw[hk,<-hint]
    ·cases hint
   have rx:=Qx hr dg;rw[hs]at rx;have iD:a.eval x=.string ⟨⟨s⟩⟩:=by
    revert rx
    generalize a.eval x=v;intro rx;cases rx;rfl
   have af:=run_bytes_of_string (P:=P) w src dst e ⟨⟨s⟩⟩ (K4 ay) hu wW;have aX:(⟨⟨s⟩⟩:ByteArray).size=s.length:=rfl;rw[aX]at af;have fU:=grownCap_ge w s.length 0 e;have dI:=grownCap_le_maxLen w s.length 0 e ώ;generalize bm:grownCap w s.length 0 e=cap at af fU dI;have rC:(bytesRow ⟨⟨s⟩⟩ cap).size=cap*1:=by
    simp only[bytesRow,Array.size_append,Array.size_map,Array.size_replicate,aX,Qog];omega
   have ae:RowIs G site (w.drew.alloc (.cells (bytesRow ⟨⟨s⟩⟩ cap) e ((bytesRow ⟨⟨s⟩⟩ cap).size,(bytesRow ⟨⟨s⟩⟩ cap).size+1))) w.heap.size cap 1 (Qy s):=by
    refine⟨⟨bytesRow ⟨⟨s⟩⟩ cap,⟨e,_,_,heap_alloc_new w.drew _,dY,λo ho=>ψ⟩,rC,?_⟩,by simpa [Qy]using fU,dI⟩;rw[K5];have:(bytesRow ⟨⟨s⟩⟩ cap).toList.take ((Qy s).length*1)=s.map λb=>Value.int .u8 (b.toNat:Int):=by
     have hl:(Qy s).length*1=(s.map λb=>Value.int .u8 (b.toNat:Int)).length:=ĺ
     rw[hl];simp only[bytesRow,Array.toList_append,Array.toList_map];exact List.take_left
    rw[this];exact FT s
   have fC:=Ko hr.mr ak;have fF:0<st.m.length:=Qoy.2 hr.ne;obtain⟨aH,he⟩:=hr.vecput (w':=w.drew.alloc (.cells (bytesRow ⟨⟨s⟩⟩ cap) e ((bytesRow ⟨⟨s⟩⟩ cap).size,(bytesRow ⟨⟨s⟩⟩ cap).size+1))) (cap:=cap) (b:=some w.heap.size) fF ak fC rfl rfl rfl ό (λk hk _=>RowKit.Below.heap_alloc w.drew _ k hk) (λk e=>Ô) (Dc s) (.inr ⟨_,rfl,ae⟩);have az:(execOp a.eval o).run P w=.ok (.value (.slice (some ⟨w.heap.size,0,none⟩) s.length cap)) (w.drew.alloc (.cells (bytesRow ⟨⟨s⟩⟩ cap) e ((bytesRow ⟨⟨s⟩⟩ cap).size,(bytesRow ⟨⟨s⟩⟩ cap).size+1))):=by
    simp only[execOp,ho,Sem.run_bind,iD,af,Result.andThen_ok];rfl
   unfold Oper.wp;rw[az];have aY:o.dst=d:=hd;show K (a.put o.dst _) _;rw[aY];refine hK _ _ _ _ h (aH.put aW (.vec rfl (QnV Ϧ) λ_=>.inr ⟨w.heap.size,⟨w.heap.size,0,none⟩,cap,Ϧ,by simp[Gh.row];exact fU,rfl,fU,dI,λ_=>Ϧ,λ_=>ό⟩)) he
  |_=>simp[hu]at aD
theorem Rel.other {G:Gh}{B:Nat}{a:Act}{w:World}(hr:Rel G B N st a w)(o:Obj):Rel G B N st a (w.alloc o)/\Ext 1 G w G (w.alloc o):=by
 have hold:∀b,b<w.heap.size->(w.alloc o).heap[b]? = w.heap[b]?:=λb hb=>RowKit.Below.heap_alloc w _ b hb
 have hs:∀b k v,G.stab b k=some v->rd (w.alloc o) b k v:=λb k v e=>K2 (hold b (Ge (hr.mr.stab b k v e))) (hr.mr.stab b k v e)
 have bV:MR G st.m (w.alloc o):=hr.mr.kept (stab:=G.stab) hold hs (λ_ _ _ h=>h) λb hb=>(hr.mr.mine hb).2
 refine⟨⟨bV,hr.size,hr.slots,hr.ds,hr.base,Qm9 hr.top ό,hr.ne⟩,rfl,rfl,rfl,ό,λ_ _ _ h=>h,λ_ _ _=>rfl,λ_ _=>Qm8 _,λ_ _ _=>⟨rfl,rfl,rfl⟩,λb hb _=>⟨hold b hb,λ_=>rfl⟩,λ_ h=>.inl h,λl s _ h=>.inl ⟨l,s,Qm8 _,h⟩⟩
theorem QA.usd {d:Option Nat}{r:RA}{its:List Item}{l s g n:Nat}{sz:Nat}{xs:List AV}(gY:2000<=s)(hx:r.ev st.f=.vec l s g 0 n false)(ar:Qc st.m l s=.vec g sz xs)
  (h:QA P N its { st with f:=Ql st.f d (if n=0 then .anyp else .vptr l s g 0 0) } Q):QA P N (⟨d,.usd r,none⟩ :: its) st Q:=by
 refine QA.stepT rfl λG B a w o hr hd aW hc hT K QQ hK=>?_
 cases ho:o.op<;>rw[ho]at hc<;>simp only[Zi,Qnu]at hc;rename_i cl;split at hc
 case h_2=>cases hc
 rename_i o1 x ts o2;cases o2;simp only[TW]at hT;split at hT
 case h_2=>cases hT
 rename_i pe oD;have rx:=Qx hr hc;rw[hx]at rx;have aY:o.dst=d:=hd;have fin:∀(v:Value) (w':World),(Builtin.unsafeSliceData_ ts o.type #[a.eval x]).run P w=.ok v w'->(Rel G B N st a w'/\Ext 1 G w G w')->Rep G (if n=0 then .anyp else .vptr l s g 0 0) v->o.wp P a w K QQ:=by
  intro v w' af oE aj;have az:(execOp a.eval o).run P w=.ok (.value v) w':=by
   exact OC
  unfold Oper.wp;rw[az];show K (a.put o.dst v) w';rw[aY];exact hK _ _ _ _ h (oE.1.put aW aj) oE.2
 obtain⟨e1,e2,e3,e4⟩:=hr.mr.vec l s g sz xs ar;generalize a.eval x=v at rx fin;cases rx with
 |vec dv hg hh=>
  rcases hh e1.symm with⟨ap,_,rfl,A0,rfl,gh⟩|⟨b,A,c,ap,bz,rfl,i6,dI,hq,hA⟩
  ·rw[gh gY]at fin;exact fin _ w (Lib.run_unsafeSliceData_nil w _ _ 0 0) ⟨hr,Ext.refl 1 G w⟩ (by rw[Qnj rfl];exact .anyp none)
  ·have ff:=hA ⟨.inr rfl,.inl rfl⟩;simp only[Nat.zero_mul]at ff;subst ff;by_cases mL:c=0
   ·subst mL;have hn:n=0:=ψ
    subst hn;rcases e4 with⟨e,_⟩|⟨b',e,ae⟩
    ·rw[ap]at e;cases e
    ·rw[ap]at e;cases e;obtain⟨cur,⟨t',lo,hi,dX,_⟩,_⟩:=ae.cur;have ko:w.shape? b=some (t',cur.size):=by unfold World.shape?;rw[dX]
     exact fin _ _ (Lib.run_unsafeSliceData_zero w _ _ pe oD ⟨b,0,none⟩ 0 _ ko) (hr.other _) (by rw[Qnj rfl];exact .anyp _)
   ·refine fin _ w (Lib.run_unsafeSliceData_row w _ _ _ _ _ mL) ⟨hr,Ext.refl 1 G w⟩ ?_;by_cases hn:n=0
    ·rw[Qnj hn];exact .anyp _
    ·rw[Qni hn];exact .vptr rfl hg λ_=>⟨b,ap,ό⟩
theorem QA.ustr0 {d:Option Nat}{el:Nat}{p r:RA}{its:List Item}(hp:p.ev st.f=.anyp)(hx:r.ev st.f=.int .i64 0)
  (h:QA P N its { st with f:=Ql st.f d (.str []) } Q):QA P N (⟨d,.ustr el p r,none⟩ :: its) st Q:=by
 refine QA.step rfl λG B a w o hr hd aW hc K QQ hK=>?_
 cases ho:o.op<;>rw[ho]at hc<;>simp only[Zi,Qnu]at hc;rename_i cl;split at hc
 case h_2=>cases hc
 rename_i o1 x y pt it o2;cases o2;simp only[Qnz]at hc;obtain⟨⟨h1,h2⟩,h3⟩:=hc;have r1:=Qx hr h2;have r2:=Qx hr h3;rw[hp]at r1;rw[hx]at r2;have h_:a.eval y=.int .i64 0:=by
  revert r2
  generalize a.eval y=v;intro r2;cases r2;rfl
 obtain⟨q,iD⟩:∃q,a.eval x=.pointer q:=by
  revert r1
  generalize a.eval x=v;intro r1;cases r1;exact⟨_,rfl⟩
 have af:=Lib.run_unsafeString_none (P:=P) w pt it o.type q;have az:(execOp a.eval o).run P w=.ok (.value (.string .empty)) w:=by
  exact Oz
 unfold Oper.wp;rw[az];have aY:o.dst=d:=hd;show K (a.put o.dst _) _;rw[aY];exact hK _ _ _ _ h (hr.put aW (.str [])) (Ext.refl 1 G w)
theorem QA.ustr {d:Option Nat}{el:Nat}{p r:RA}{its:List Item}{l g n:Nat}{xs:List AV}{s:List UInt8}(hp:p.ev st.f=.vptr l (el+2000) g 0 0)(hx:r.ev st.f=.int .i64 (n:Int))(ar:Qc st.m l (el+2000)=.vec g 1 xs)(hn:n<=xs.length)(kP:n≠0)(hs:xs.take n=Qy s)
  (h:QA P N its { st with m:=Am.put st.m l (el+2000) (.vec (g+1) 1 []),f:=Ql st.f d (.str s) } Q):QA P N (⟨d,.ustr el p r,none⟩ :: its) st Q:=by
 refine QA.step rfl λG B a w o hr hd aW hc K QQ hK=>?_
 cases ho:o.op<;>rw[ho]at hc<;>simp only[Zi,Qnu]at hc;rename_i cl;split at hc
 case h_2=>cases hc
 rename_i o1 x y pt it o2;cases o2;simp only[Qnz]at hc;obtain⟨⟨h1,h2⟩,h3⟩:=hc;split at h1
 case h_2=>cases h1
 rename_i e u7;simp only[Qnz,Qng]at h1;obtain⟨rfl,wT⟩:=h1;have r1:=Qx hr h2;have r2:=Qx hr h3;rw[hp]at r1;rw[hx]at r2;have h_:a.eval y=.int .i64 (n:Int):=by
  revert r2
  generalize a.eval y=v;intro r2;cases r2;rfl
 obtain⟨e1,e2,e3,e4⟩:=hr.mr.vec l (e+2000) g 1 xs ar;have bH:s.length=n:=by
  have:=congrArg List.length hs;simp only[Qn8,Qy,Qn6]at this;omega
 obtain⟨b,ap,ae⟩:∃b,G.vm l (e+2000)=some b/\RowIs G (e+2000) w b (G.vc l (e+2000)) 1 xs:=by
  rcases e4 with⟨_,e⟩|h'
  ·subst e;simp at hn;exact absurd hn kP
  ·exact h'
 have iD:a.eval x=.pointer (some ⟨b,0,none⟩):=by
  revert r1
  generalize a.eval x=v;intro r1;cases r1 with
  |vptr _ _ hh=>
   obtain⟨b',e',rfl⟩:=hh e1.symm;rw[ap]at e';cases e';simp
 obtain⟨⟨cur,⟨t',lo,hi,dX,aD,nJ⟩,iA,aj⟩,hle,kS⟩:=ae;have ht:t'=e:=Si (s:=e+2000) aD (by simp[Zv]) ψ;subst ht;have ko:w.shape? b=some (t',cur.size):=by unfold World.shape?;rw[dX]
 have aq:s≠[]:=by rintro rfl;simp at bH;exact kP bH.symm
 have aR:∀j u,s[j]? = some u->w.cell? ((⟨b,0,none⟩:Addr).add j)=some (.int .u8 u.toNat):=by
  intro j u hj;rw[Za,QnA,cell_of_row w b j cur t' (lo,hi) dX,<-QnF];have rS:j<s.length:=(Qna.1 hj).1;have fA:=aj.take n;rw[Nat.mul_one,Qos,Qot hn]at fA;have nN:(QU xs).take n=Qy s:=by
   have:=Kn e3.size n;rw[Nat.mul_one]at this;rw[this,hs,K5]
  rw[nN]at fA;have hb:(Qy s)[j]? = some (.int .u8 (u.toNat:Int)):=by simp[Qy,hj]
  obtain⟨v,hv,bj⟩:=fA.at_ hb;cases bj;rw[QnQ]at hv;split at hv
  ·exact hv
  ·cases hv
 have uy:s.length<=cur.size:=by rw[iA,bH];omega
 have af:=Lib.run_unsafeString_row (P:=P) w pt it o.type t' u7 wT b cur.size ko s aq uy (by simp only[maxLen]at kS;omega) aR;rw[bH]at af;have az:(execOp a.eval o).run P w=.ok (.value (.string ⟨s.toArray⟩)) (w.freeze ⟨b,0,none⟩ n):=by
  exact Oz
 have nX:(w.freeze ⟨b,0,none⟩ n).os=w.os/\(w.freeze ⟨b,0,none⟩ n).tape=w.tape/\(w.freeze ⟨b,0,none⟩ n).output=w.output/\(w.freeze ⟨b,0,none⟩ n).heap.size=w.heap.size/\∀k,k≠b->(w.freeze ⟨b,0,none⟩ n).heap[k]? = w.heap[k]?:=by
  unfold World.freeze;split
  ·exact⟨rfl,rfl,rfl,rfl,λ_ _=>rfl⟩
  ·refine⟨rfl,rfl,rfl,ό,λk hk=>?_⟩;simp only[Array.getElem?_modify];rw[Qni (λe=>hk e.symm)]
 have mN:l<st.m.length:=Xy đ;obtain⟨aH,he⟩:=hr.vecput (w':=w.freeze ⟨b,0,none⟩ n) (l:=l) (s:=t'+2000) (g:=g+1) (sz:=1) (cap:=0) (b:=none) (ys:=[]) mN Ĵ ψ nX.1 nX.2.1 nX.2.2.1 (by rw[nX.2.2.2.1];exact Qm8 _) (λk _ hk=>nX.2.2.2.2 k (λe=>hk (by rw[e,ap]))) (λk e=>Ú) ⟨ό,rfl,rfl⟩ (.inl ⟨rfl,rfl⟩);unfold Oper.wp;rw[az];have aY:o.dst=d:=hd;show K (a.put o.dst _) _;rw[aY];exact hK _ _ _ _ h (aH.put aW (.str s)) he
end
def Qai {G G':Gh}{m:Qk}{w:World}(h:MR G m w){s g sz o n:Nat}{q:Bool}{xs:List AV}{v:Value}(ar:Qc m 0 s=.vec g sz xs)(hle:o+n<=xs.length)(hr:Rep G (.vec 0 s g o n q) v)
  (ay:G.sameStab G') (sa:∀b o v,G.vm 0 s=some b->w.cell? ⟨b,o,none⟩=some v->G'.stab b o=some (.cell v)):Rep G' (.list ((xs.drop o).take n)) v:=by
 obtain⟨e1,e2,e3,e4⟩:=h.vec 0 s g sz xs ar;have aN:∀x∈(xs.drop o).take n,x∈xs:=λx hx=>QnY (QnZ hx)
 cases hr with
 |vec dv hg iS=>
  rcases iS e1.symm with⟨ap,rfl,rfl,A0,rfl,gh⟩|⟨b,A,c,ap,bz,rfl,i6,dI,hq,hA⟩
  ·simp only[Qol];exact zF
  ·rcases e4 with⟨e,_⟩|⟨b',e,ae⟩
   ·rw[ap]at e;cases e
   ·rw[ap]at e;cases e;obtain⟨cur,aE,fg,aj⟩:=ae.cur;have hr:=(RepL.rfd ay e3.rf aj).takeDrop (o*sz) (n*sz);rw[JS e3.size,Kn (λx hx=>e3.size x (QnY hx))]at hr;refine .list (sz:=sz) hr (λx hx=>e3.size x (aN x hx)) (JO e3.rf (J1 aN)) (ZA e3.leaf (J1 aN)) (λj u hu=>?_) Ϗ i6 ψ;rw[QnQ]at hu;split at hu
    ·rename_i hj;rw[QnR,QnQ]at hu;split at hu
     ·have hk:0<n:=by
       rcases Qn0 n with h0|h0
       ·subst h0;simp at hj
       ·exact h0
      have j7:o<G.vc 0 s:=Nat.lt_of_lt_of_le (Nat.lt_add_of_pos_right hk) bz;have ff:=hA ⟨.inl j7,.inr hk⟩;rw[e2]at ff;refine⟨b,o*sz,by rw[ff],sa b (o*sz+j) u ap ?_⟩;rw[aE.cell]
      simpa using hu
     ·cases hu
    ·cases hu
def Rel.pub0 {G:Gh}{B N:Nat}{st:St}{a:Act}{w:World}(h:Rel G B N st a w){site g sz:Nat}{xs:List AV}(ar:Qc st.m 0 site=.vec g sz xs) :
  ∃G',Rel G' B N { st with m:=Am.put st.m 0 site (.vec (g+1) sz []) } a w/\Ext 1 G w G' w/\(∀o n q v,o+n<=xs.length->Rep G (.vec 0 site g o n q) v->Rep G' (.list ((xs.drop o).take n)) v)/\G'.nm=G.nm:=by
 have hl:0<st.m.length:=Qoy.2 h.ne;have ak:Qn (Qc st.m 0 site)=true:=Ĵ
 have hvg:=(h.mr.vec 0 site g sz xs ar).1;obtain⟨h1,h2⟩:=h.vecput (w':=w) (sz:=sz) (cap:=0) (b:=none) (g:=g+1) (ys:=[]) hl ak ψ rfl rfl rfl (Qm8 _) (λ_ _ _=>rfl) (λk e=>Ú) ⟨ό,rfl,rfl⟩ (.inl ⟨rfl,rfl⟩);generalize tX:G.row 0 site none 0 (g+1) sz=G1 at h1 h2;have nj:G1.stab=G.stab:=by rw[<-tX];rfl
 have nc:G1.nm=G.nm:=by rw[<-tX];rfl
 have ll:∀l s,G1.vm l s=if l=0/\s=site then none else G.vm l s:=by rw[<-tX];exactλ_ _=>rfl
 have gp:Gle G1 (G1.pub w λb=>G.vm 0 site=some b):=Gh.pub_gle h1.mr.stab;have nS:∀l s b,G1.nm l s=some b->¬G.vm 0 site=some b:=λl s b e=>by rw[nc]at e;exact h.mr.inj3 _ _ _ _ _ e
 have vS:∀l s b,G1.vm l s=some b->¬G.vm 0 site=some b:=λl s b e e'=>by
  rw[ll]at e;split at e
  ·cases e
  ·rename_i hh;exact hh (h.mr.inj2 _ _ _ _ _ e e')
 refine⟨G1.pub w λb=>G.vm 0 site=some b,⟨⟨?_,?_,?_,?_,?_,h1.mr.gone,h1.mr.inj1,h1.mr.inj2,h1.mr.inj3,h1.mr.iter⟩,h.size,?_,h1.ds.mono gp,h1.base,h1.top,h1.ne⟩,?_,?_,nc⟩
 ·intro b o v e;by_cases hS:G.vm 0 site=some b/\∀o,J9 b o=none
  ·rw[Gh.pub_c hS]at e;exact C2 e
  ·rw[Gh.pub_n hS]at e;exact h1.mr.stab b o v e
 ·intro l s zs e;obtain⟨b,cs,e',hc,hr⟩:=h1.mr.cells l s zs e;exact⟨b,cs,e',hc,hr.mono (gp.dn l)⟩
 ·intro l s b e;obtain⟨g1,g2⟩:=h1.mr.nm l s b e;exact⟨g1,λo=>by rw[Gh.pub_out (nS l s b e)];exact g2 o⟩
 ·intro l s g' z zs e;obtain⟨a1,a2,a3,a4⟩:=h1.mr.vec l s g' z zs e;exact⟨a1,a2,a3,a4.imp id λ⟨b,e',r⟩=>⟨b,e',r.of rfl λvs hv=>RepL.rfd gp.stab a3.rf hv⟩⟩
 ·intro l s b e;obtain⟨g1,g2⟩:=h1.mr.vm l s b e;exact⟨g1,λo=>by rw[Gh.pub_out (vS l s b e)];exact g2 o⟩
 ·exactλi=>(h1.slots i).mono gp
 ·refine⟨rfl,rfl,rfl,Qm8 _,λb o v e=>gp.stab b o v (by rw[nj];exact e),λl s _=>by show G1.nm l s=_;rw[nc],h2.vg,h2.vs,λb hb hm=>⟨rfl,λo=>?_⟩,h2.mine,h2.mv⟩;rw[Gh.pub_out (λe=>hm (.inr ⟨0,site,e⟩)),nj]
 ·intro o n q v hle hr;refine Qai h.mr ar hle hr (λb o v e=>?_) (λb o v e hv=>?_)
  ·exact gp.stab b o v (by rw[nj];exact e)
  ·rw[Gh.pub_in e (Gh.notab (h.mr.vm 0 site b e).2)];exact Fg hv
def Rel.publish {G:Gh}{B N:Nat}{st:St}{a:Act}{w:World}(h:Rel G B N st a w){slot site g sz o n:Nat}{q:Bool}{xs:List AV}(hs:st.f slot=.vec 0 site g o n q)(ar:Qc st.m 0 site=.vec g sz xs)(hle:o+n<=xs.length) :
  ∃G',Rel G' B N { st with m:=Am.put st.m 0 site (.vec (g+1) sz []),f:=QL st.f slot (.list ((xs.drop o).take n)) } a w/\Ext 1 G w G' w:=by
 obtain⟨G',h1,h2,h3,h4⟩:=h.pub0 ar;refine⟨G',⟨h1.mr,h1.size,λi=>?_,h1.ds,h1.base,h1.top,h1.ne⟩,h2⟩;by_cases hi:i=slot
 ·subst hi;show Rep _ (QL st.f i _ i) _;rw[Q6];have hr:=h.slots i;rw[hs]at hr;exact h3 _ _ _ _ hle hr
 ·show Rep _ (QL st.f slot _ i) _;rw[Xe _ _ hi];exact h1.slots i
def Rel.give {G:Gh}{B N:Nat}{st:St}{a:Act}{w:World}(h:Rel G B N st a w){slot site g sz o n l S:Nat}{q:Bool}{xs:List AV}(hs:st.f slot=.vec 0 site g o n q)(ar:Qc st.m 0 site=.vec g sz xs)(hl:l<st.m.length)(fF:l≠0)(ak:Qn (Qc st.m l S)=true)(hS:S<2000) :
  ∃G',Rel G' B N { st with m:=Am.put (Am.put st.m 0 site (.vec (g+1) sz [])) l S (.vec (QB st.m l S) sz xs),f:=QL st.f slot (.vec l S (QB st.m l S) o n q) } a w/\Ext 1 G w G' w:=by
 have yu:0<st.m.length:=Qoy.2 h.ne;have tJ:Qn (Qc st.m 0 site)=true:=Ĵ
 obtain⟨e1,e2,e3,e4⟩:=h.mr.vec 0 site g sz xs ar;obtain⟨h1,h2⟩:=h.vecput (w':=w) (sz:=sz) (cap:=0) (b:=none) (g:=g+1) (ys:=[]) yu tJ ψ rfl rfl rfl (Qm8 _) (λ_ _ _=>rfl) (λk e=>Ú) ⟨ό,rfl,rfl⟩ (.inl ⟨rfl,rfl⟩);have hlen:(Am.put st.m 0 site (.vec (g+1) sz [])).length=st.m.length:=by
  cases st.m<;>rfl
 have ni:Qc (Am.put st.m 0 site (.vec (g+1) sz [])) l S=Qc st.m l S:=QG (.inl fF);have eH:QB (Am.put st.m 0 site (.vec (g+1) sz [])) l S=QB st.m l S:=by unfold QB;rw[ni]
 have fC:(G.row 0 site none 0 (g+1) sz).vg l S<QB st.m l S:=by
  rw[<-eH];exact Ko h1.mr (by rw[ni];exact ak)
 have ll:∀i t,(G.row 0 site none 0 (g+1) sz).vm i t=if i=0/\t=site then none else G.vm i t:=λ_ _=>rfl
 have oC:∀k,G.vm 0 site=some k->¬(G.row 0 site none 0 (g+1) sz).mine k/\∀o,(G.row 0 site none 0 (g+1) sz).stab k o=none:=by
  intro k e;refine⟨?_,(h.mr.vm 0 site k e).2⟩;rintro(⟨i,t,e'⟩|⟨i,t,e'⟩)
  ·exact h.mr.inj3 _ _ _ _ _ e' e
  ·rw[ll]at e';split at e'
   ·cases e'
   ·rename_i hh;exact hh (h.mr.inj2 _ _ _ _ _ e' e)
 have ae:(G.vm 0 site=none/\xs=[])\/∃k,G.vm 0 site=some k/\RowIs (G.row 0 site none 0 (g+1) sz) S w k (G.vc 0 site) sz xs:=by
  rcases e4 with e|⟨b,e,hr⟩
  ·exact .inl e
  ·refine .inr ⟨b,e,⟨?_,hr.le,hr.max⟩⟩;obtain⟨cs,⟨t,lo,hi,hh,_,hb⟩,aX,aj⟩:=hr.cur;exact⟨cs,⟨t,lo,hi,hh,by simp[Zv,hS],hb⟩,aX,RepL.rfd (G:=G) (G':=G.row 0 site none 0 (g+1) sz) (λ_ _ _ h=>h) e3.rf aj⟩
 have bV:=h1.mr.vecput' (l:=l) (s:=S) (g:=QB st.m l S) (sz:=sz) (cap:=G.vc 0 site) (b:=G.vm 0 site) (ys:=xs) (w':=w) (by rw[hlen];exact hl) (by rw[ni];exact ak) fC (λ_ _ _=>rfl) (λk e=>.inr (oC k e)) e3 ae;have cY:=Gh.row_gle (G:=G.row 0 site none 0 (g+1) sz) (l:=l) (s:=S) (cap:=G.vc 0 site) (sz:=sz) (b:=G.vm 0 site) fC;have rF:((G.row 0 site none 0 (g+1) sz).row l S (G.vm 0 site) (G.vc 0 site) (QB st.m l S) sz).nm=G.nm:=rfl;have j8:∀i t,((G.row 0 site none 0 (g+1) sz).row l S (G.vm 0 site) (G.vc 0 site) (QB st.m l S) sz).vm i t=if i=l/\t=S then G.vm 0 site else if i=0/\t=site then none else G.vm i t:=λ_ _=>rfl
 have nh:((G.row 0 site none 0 (g+1) sz).row l S (G.vm 0 site) (G.vc 0 site) (QB st.m l S) sz).vc l S=G.vc 0 site:=Ϧ
 have sO:((G.row 0 site none 0 (g+1) sz).row l S (G.vm 0 site) (G.vc 0 site) (QB st.m l S) sz).vz l S=sz:=Ϧ
 have tF:((G.row 0 site none 0 (g+1) sz).row l S (G.vm 0 site) (G.vc 0 site) (QB st.m l S) sz).vg l S=QB st.m l S:=Ϧ
 refine⟨(G.row 0 site none 0 (g+1) sz).row l S (G.vm 0 site) (G.vc 0 site) (QB st.m l S) sz,⟨bV,h1.size,λi=>?_,h1.ds.mono cY,λs' b' e=>?_,h1.top,WA h1.ne⟩,⟨rfl,rfl,rfl,Qm8 _,h2.stab,λ_ _ _=>rfl,λi t=>Qm9 (h2.vg i t) (cY.vg i t),?_,h2.old,λb e=>?_,λi t b e=>?_⟩⟩
 ·by_cases hi:i=slot
  ·subst hi;show Rep _ (QL st.f i _ i) _;rw[Q6];have hr:=h.slots i;rw[hs]at hr;generalize a.tmps.getD i undef=v at hr;cases hr with
   |vec dv hg hh=>
    refine .vec dv (by rw[tF];exact Qm8 _) λ_=>?_
    rcases hh e1.symm with⟨ap,ho,hn,A,hv,_⟩|⟨b,A,c,ap,bz,hv,i6,dI,hq,hA⟩
    ·exact .inl ⟨by rw[j8,Qnj ⟨rfl,rfl⟩];exact ap,ho,hn,A,hv,λh=>ψ⟩
    ·refine .inr ⟨b,A,c,by rw[j8,Qnj ⟨rfl,rfl⟩];exact ap,by rw[nh];exact bz,hv,i6,dI,by rw[nh];exact hq,?_⟩;rw[nh,sO,<-e2];exact hA
  ·show Rep _ (QL st.f slot _ i) _;rw[Xe _ _ hi];exact(h1.slots i).mono cY
 ·rw[rF,j8]at e;rw[Qni ψ]at e;exact h1.base s' b' (by rw[ll];exact e)
 ·intro i t e;have fW:=h2.vg i t;have iF:=cY.vg i t;obtain⟨a1,a2,a3⟩:=h2.vs i t ψ;obtain⟨b1,b2,b3⟩:=cY.vs i t ψ;exact⟨b1.trans a1,b2.trans a2,b3.trans a3⟩
 ·refine .inl ?_;rcases e with⟨i,t,e⟩|⟨i,t,e⟩
  ·exact .inl ⟨i,t,e⟩
  ·rw[j8]at e;split at e
   ·exact .inr ⟨0,site,e⟩
   ·split at e
    ·cases e
    ·exact .inr ⟨i,t,e⟩
 ·refine .inl ?_;rw[j8]at e;split at e
  ·exact⟨0,site,Qnk _,e⟩
  ·split at e
   ·cases e
   ·exact⟨i,t,Qm8 _,e⟩
def Zk (t:List UInt8)(p:Nat):Nat×Nat:=Utf8.decode ⟨⟨t⟩⟩ p
def MR.moved {G:Gh}{m:Qk}{w w':World}(h:MR G m w){l s b q:Nat}{p:Nat}{t u:IT}(hx:Qc m l s=.iter t p)(hb:G.nm l s=some b)(ht:Turned b w w')(hs:w'.heap[b]? = some (u.obj q)) :
  MR G (Am.put m l s (.iter u q)) w' where
 stab k o v e:=by
  exact OB
 cells l' s' zs e:=by
  by_cases hh:l'=l/\s'=s
  ·obtain⟨rfl,rfl⟩:=hh;rw[Qt (Xy Ο)]at e;cases e
  ·exact S_
 nm l' s' b' e:=by
  obtain⟨hz,h2⟩:=h.nm l' s' b' e;refine⟨?_,h2⟩;by_cases hh:l'=l/\s'=s
  ·obtain⟨rfl,rfl⟩:=hh;rw[Qt (Xy Ο)];rfl
  ·rw[QG ψ];exact hz
 vec l' s' g sz zs e:=by
  exact zI
 vm l' s' b' e:=by
  obtain⟨⟨g,sz,zs,hz⟩,h2⟩:=h.vm l' s' b' e;refine⟨?_,h2⟩;by_cases hh:l'=l/\s'=s
  ·obtain⟨rfl,rfl⟩:=hh;rw[hx]at hz;cases hz
  ·exact⟨g,sz,zs,ë⟩
 gone l' s' e:=by
  exact Oh
 inj1:=h.inj1
 inj2:=h.inj2
 inj3:=h.inj3
 iter l' s' t' p' e:=by
  by_cases hh:l'=l/\s'=s
  ·obtain⟨rfl,rfl⟩:=hh;rw[Qt (Xy Ο)]at e;cases e;exact⟨b,hb,hs⟩
  ·rw[QG ψ]at e;obtain⟨b',e',hc⟩:=h.iter l' s' t' p' e;exact OO
def CY {P:Program}{w:World}{b p:Nat}{s:ByteArray}(hh:w.heap[b]? = some (.stringIter s p))(h:p<s.size)(ty:TypeId) :
  (Instr.next (.pointer (some ⟨b,0,none⟩)) true ty).run P w=.ok (.tuple #[.bool true,.int .i64 p,.int .i32 (Utf8.decode s p).1]) { w with heap:=w.heap.setIfInBounds b (.stringIter s (p+(Utf8.decode s p).2)) }:=by
 simp only[Instr.next,getObj,setObj,Sem.run_bind,Sem.run,hh,Result.andThen,h,if_true];simp[goInt]
def CZ {P:Program}{w:World}{b p:Nat}{s:ByteArray}(hh:w.heap[b]? = some (.stringIter s p))(h:¬p<s.size)(ty:TypeId) :
  (Instr.next (.pointer (some ⟨b,0,none⟩)) true ty).run P w=.ok (.tuple #[.bool false]) w:=by
 simp[Instr.next,getObj,Sem.run,hh,h]
section
variable {P:Program}{N:Nat}{st:St}{Q:St->Prop}
theorem QA.rngs {d:Option Nat}{s:Nat}{r:RA}{its:List Item}{t:List UInt8}(ht:r.ev st.f=.str t)(hn:ZB st.m s=true)(h:QA P N its { st with m:=Am.put st.m 0 s (.iter (.str t) 0),f:=Ql st.f d (.ptr 0 s 0) } Q) :
  QA P N (⟨d,.rngs s r,none⟩ :: its) st Q:=by
 refine QA.step rfl λG B a w o hr hd aW hc K QQ hK=>?_
 cases ho:o.op<;>rw[ho]at hc<;>simp only[Zi,Qnu,Qnz]at hc;rename_i ty x;have hx:=Qx hr hc.2;rw[ht]at hx;have hv:a.eval x=.string ⟨⟨t⟩⟩:=by
  generalize a.eval x=v at hx;cases hx;rfl
 obtain⟨aH,he⟩:=hr.freshO s hn (ob:=.iter (.str t) 0) (x:=.stringIter ⟨⟨t⟩⟩ 0) rfl (λ_ e=>Ú) (λ_ _ e=>by cases e;rfl);have af:(execOp a.eval o).run P w=.ok (.value (.pointer (some ⟨w.heap.size,0,none⟩))) (w.alloc (.stringIter ⟨⟨t⟩⟩ 0)):=by
  simp only[execOp,ho,hv,Sem.run_bind,run_range_string w ty _ (K4 hc.1),Result.andThen_ok,Sem.run_pure];rfl
 exact zw
theorem QA.nxts {d:Option Nat}{r:RA}{its:List Item}{l s p:Nat}{t:List UInt8}(hp:r.ev st.f=.ptr l s 0)(hl:Qc st.m l s=.iter (.str t) p)
  (h1:p<t.length->QA P N its { st with m:=Am.put st.m l s (.iter (.str t) (p+(Zk t p).2)),f:=Ql st.f d (.tup [.bool true,.int .i64 (p:Nat),.int .i32 ((Zk t p).1:Nat)]) } Q)
  (h2:t.length<=p->QA P N its { st with f:=Ql st.f d (.tup [.bool false]) } Q) :
  QA P N (⟨d,.nxts r,none⟩ :: its) st Q:=by
 refine QA.step rfl λG B a w o hr hd aW hc K QQ hK=>?_
 cases ho:o.op<;>rw[ho]at hc<;>simp only[Zi,Qnu]at hc;rename_i x str;cases str with
 |false=>cases hc
 |true=>
 have hx:=Qx hr hc;rw[hp]at hx;obtain⟨b,hb,hh⟩:=hr.mr.iter l s (.str t) p hl;have hv:a.eval x=.pointer (some ⟨b,0,none⟩):=by
  generalize a.eval x=v at hx;cases hx;rename_i b' eN;rw[hb]at eN;cases eN;rfl
 have aY:o.dst=d:=hd;unfold Oper.wp;by_cases aa:p<t.length
 ·have af:(execOp a.eval o).run P w=.ok (.value (.tuple #[.bool true,.int .i64 p,.int .i32 (Zk t p).1])) { w with heap:=w.heap.setIfInBounds b (.stringIter ⟨⟨t⟩⟩ (p+(Zk t p).2)) }:=by
   simp only[execOp,ho,hv,Sem.run_bind,CY hh (show p<ByteArray.size ⟨⟨t⟩⟩from aa),Result.andThen_ok,Sem.run_pure];rfl
  rw[af];show K (a.put o.dst _) _;rw[aY];have hlen:b<w.heap.size:=(Qnh.1 hh).1;have eD:Turned b w { w with heap:=w.heap.setIfInBounds b (.stringIter ⟨⟨t⟩⟩ (p+(Zk t p).2)) } :=
   ⟨rfl,rfl,rfl,ό,λk hk=>by
    show(w.heap.setIfInBounds b _)[k]? = _;rw[Array.getElem?_setIfInBounds_ne (λe=>hk e.symm)]⟩
  have bO:(w.heap.setIfInBounds b (.stringIter ⟨⟨t⟩⟩ (p+(Zk t p).2)))[b]? = some (.stringIter ⟨⟨t⟩⟩ (p+(Zk t p).2)):=by
   rw[Qnm,Qnj hlen]
  have hm:=hr.mr.moved (u:=.str t) hl hb eD bO;have aH:Rel G B N { st with m:=Am.put st.m l s (.iter (.str t) (p+(Zk t p).2)) } a { w with heap:=w.heap.setIfInBounds b (.stringIter ⟨⟨t⟩⟩ (p+(Zk t p).2)) } :=
   ⟨hm,hr.size,hr.slots,hr.ds,hr.base,Ý,WA hr.ne⟩
  exact hK _ _ _ _ (h1 aa) (aH.put aW (.tup (.cons (.bool _) (.cons (.int _ _) (.cons (.int _ _) .nil))))) (Ext.turned eD (.inl ⟨l,s,hb⟩))
 ·have af:(execOp a.eval o).run P w=.ok (.value (.tuple #[.bool false])) w:=by
   simp only[execOp,ho,hv,Sem.run_bind,CZ hh (show ¬p<ByteArray.size ⟨⟨t⟩⟩from aa),Result.andThen_ok,Sem.run_pure]
  rw[af];show K (a.put o.dst _) _;rw[aY];exact hK _ _ _ _ (h2 ψ) (hr.put aW (.tup (.cons (.bool _) .nil))) (Ext.refl 1 G w)
def Na (cnt:Bool)(t:List UInt8)(b:Int):Int:=if cnt then(Lib.countByte t b.toNat.toUInt8:Nat)else Lib.indexByte t b.toNat.toUInt8
theorem Qdk {fn:Func} (h1:fn.name = "internal/bytealg.CountString") (h2:fn.origin = ""):Extern.findNext fn=none/\Extern.find fn=some Extern.BytealgCount.count := by
 exact J_
theorem Qdl {fn:Func} (h1:fn.name = "internal/bytealg.IndexByteString") (h2:fn.origin = ""):Extern.findNext fn=none/\Extern.find fn=some Extern.BytealgIndexByte.indexByte := by
 exact J_
theorem QA.xb {d:Option Nat}{cnt:Bool}{k:Nat}{s c:RA}{its:List Item}{t:List UInt8}{b:Int}(hs:s.ev st.f=.str t)(hb:c.ev st.f=.int .u8 b)(h:QA P N its { st with f:=Ql st.f d (.int .i64 (Na cnt t b)) } Q) :
  QA P N (⟨d,.xb cnt k s c,none⟩ :: its) st Q:=by
 refine QA.step rfl λG B a w o hr hd aW hc K QQ hK=>?_
 cases ho:o.op<;>rw[ho]at hc<;>simp only[Zi,Qnu]at hc;rename_i cl;split at hc
 case h_2=>cases hc
 rename_i o1 k' x y ts o2;cases o2;simp only[Qnz,Qng]at hc;obtain⟨⟨⟨hk,hf⟩,hx⟩,hy⟩:=hc;subst hk;cases lM:P.funcs[k]? with
 |none=>rw[lM]at hf;cases hf
 |some fn=>
 rw[lM]at hf;simp only[Qnz,Qng]at hf;obtain⟨⟨ee,ku⟩,cT⟩:=hf;have rs:=Qx hr hx;have rc:=Qx hr hy;rw[hs]at rs;rw[hb]at rc;have ev:a.eval x=.string ⟨⟨t⟩⟩:=by
  generalize a.eval x=v at rs;cases rs;rfl
 have ec:a.eval y=.int .u8 b:=by
  generalize a.eval y=v at rc;cases rc;rfl
 have af:(execOp a.eval o).run P w=.ok (.value (.int .i64 (Na cnt t b))) w:=by
  cases cnt with
  |true=>
   have ee:fn.name = "internal/bytealg.CountString" := ee
   obtain⟨e1,e2⟩:=Qdk ee ku;have pj:=run_callFunc_extern (P:=P) lM (by rw[ee];decide) cT e1 e2 #[.string ⟨⟨t⟩⟩,.int .u8 b] w;rw[Lib.run_countString]at pj;simp only[execOp,ho,resolve,Act.eval,Deferred.ofValue,Sem.run_bind,Sem.run_pure,Result.andThen_ok,invoke];simp[ev,ec,pj,Na,Result.andThen]
  |false=>
   have ee:fn.name = "internal/bytealg.IndexByteString" := ee
   obtain⟨e1,e2⟩:=Qdl ee ku;have pj:=run_callFunc_extern (P:=P) lM (by rw[ee];decide) cT e1 e2 #[.string ⟨⟨t⟩⟩,.int .u8 b] w;rw[Lib.run_indexByteString]at pj;simp only[execOp,ho,resolve,Act.eval,Deferred.ofValue,Sem.run_bind,Sem.run_pure,Result.andThen_ok,invoke];simp[ev,ec,pj,Na,Result.andThen]
 unfold Oper.wp;rw[af];have aY:o.dst=d:=hd;show K (a.put o.dst _) _;rw[aY];exact hK _ _ _ _ h (hr.put aW (.int _ _)) (Ext.refl 1 G w)
theorem QA.mkm {d:Option Nat}{s:Nat}{its:List Item}(hn:ZB st.m s=true)(h:QA P N its { st with m:=Am.put st.m 0 s (.iter (.mp [] []) 0),f:=Ql st.f d (.mptr 0 s) } Q) :
  QA P N (⟨d,.mkm s,none⟩ :: its) st Q:=by
 refine QA.step rfl λG B a w o hr hd aW hc K QQ hK=>?_
 cases ho:o.op<;>rw[ho]at hc<;>simp only[Zi,Qnu]at hc;rename_i ty hint;cases hint with
 |some _=>cases hc
 |none=>
 obtain⟨aH,he⟩:=hr.freshO s hn (ob:=.iter (.mp [] []) 0) (x:=.map #[] 0) rfl (λ_ e=>Ú) (λ_ _ e=>by cases e;rfl);have af:(execOp a.eval o).run P w=.ok (.value (.map (some w.heap.size))) (w.alloc (.map #[] 0)):=by
  simp only[execOp,ho,Sem.run_bind,Option.map_none,show(Instr.makeMap ty none).run P w=.ok (.map (some w.heap.size)) (w.alloc (.map #[] 0))from rfl,Result.andThen_ok,Sem.run_pure]
 unfold Oper.wp;rw[af];have aY:o.dst=d:=hd;show K (a.put o.dst _) _;rw[aY];refine hK _ _ _ _ h (aH.put aW (.mptr ?_)) he;show(if (0:Nat)=0/\s=s then some w.heap.size else G.nm 0 s)=some w.heap.size;simp
theorem QA.mput {d:Option Nat}{tx:Bool}{x i v:RA}{its:List Item}{l s p:Nat}{ks:List MK}{vs:List AV}{k:MK}(hx:x.ev st.f=.mptr l s)(hl:Qc st.m l s=.iter (.mp ks vs) p)(hi:Wk tx (i.ev st.f)=some k)(iR:keys tx ks=true)(hg:(v.ev st.f).gr=true)(_hgs:AV.grL vs=true)(hlen:ks.length=vs.length)
  (h:QA P N its { st with m:=Am.put st.m l s (.iter (.mp (Am.Zy k (v.ev st.f) ks vs).1 (Am.Zy k (v.ev st.f) ks vs).2) p),f:=Ql st.f d (.tup []) } Q) :
  QA P N (⟨d,.mput tx x i v,none⟩ :: its) st Q:=by
 refine QA.step rfl λG B a w o hr hd aW hc K QQ hK=>?_
 obtain⟨ty,ox,oi,ov,hc,hex⟩:∃ty ox oi ov,((((match P.underlying ty with|some (.map kt _)=>Me P tx kt|_=>false)&&QO ox x)&&QO oi i)&&QO ov v)=true/\
   ∀w',(Instr.mapUpdate ty (a.eval ox) (a.eval oi) (a.eval ov)).run P w=.ok () w'->(execOp a.eval o).run P w=.ok .skip w':=by
  cases ho:o.op<;>rw[ho]at hc<;>simp only[Zi,Qnu]at hc
  ·exact OF
  ·exact OF
 simp only[Qnz]at hc;obtain⟨⟨⟨aD,h1⟩,h2⟩,h3⟩:=hc;split at aD
 case h_2=>cases aD
 rename_i kt et hu;have r1:=Qx hr h1;have r2:=Qx hr h2;have r3:=Qx hr h3;rw[hx]at r1;obtain⟨iH,ei⟩:=Bc hi r2;obtain⟨b,hb,hh⟩:=hr.mr.iter l s (.mp ks vs) p hl;have ex:a.eval ox=.map (some b):=by
  generalize a.eval ox=u at r1;cases r1;rename_i b' eN;rw[hb]at eN;cases eN;rfl
 have ev:a.eval ov=(v.ev st.f).gv:=QbN hg r3;have af:(execOp a.eval o).run P w=.ok .skip { w with heap:=w.heap.setIfInBounds b (IT.obj (.mp (Am.Zy k (v.ev st.f) ks vs).1 (Am.Zy k (v.ev st.f) ks vs).2) p) }:=by
  refine hex _ ?_;rw[ex,ei,ev];exact Bd iH iR hlen hu (Vm aD) hh
 unfold Oper.wp;rw[af];have aY:o.dst=d:=hd;show K (a.put o.dst undef) _;rw[aY];have aa:b<w.heap.size:=(Qnh.1 hh).1;generalize gX:IT.mp (Am.Zy k (v.ev st.f) ks vs).1 (Am.Zy k (v.ev st.f) ks vs).2=u at *;have eD:Turned b w { w with heap:=w.heap.setIfInBounds b (u.obj p) } :=
  ⟨rfl,rfl,rfl,ό,λk hk=>by
   show(w.heap.setIfInBounds b _)[k]? = _;rw[Array.getElem?_setIfInBounds_ne (λe=>hk e.symm)]⟩
 have bO:(w.heap.setIfInBounds b (u.obj p))[b]? = some (u.obj p):=by
  rw[Qnm,Qnj aa]
 have hm:=hr.mr.moved (u:=u) hl hb eD bO;have aH:Rel G B N { st with m:=Am.put st.m l s (.iter u p) } a { w with heap:=w.heap.setIfInBounds b (u.obj p) } :=
  ⟨hm,hr.size,hr.slots,hr.ds,hr.base,Ý,WA hr.ne⟩
 exact hK _ _ _ _ h (aH.put aW (v:=undef) (.tup .nil)) (Ext.turned eD (.inl ⟨l,s,hb⟩))
end
def Qi (P:Program)(k:FuncId)(args:List AV)(v:AV):Prop:=Fn? P k args (· = v)
def De (P:Program)(d:Option Nat)(op:RO)(st:St)(K:St->Prop):Prop :=
 match op with
 |.val vo=>∃x,Qz st.f st.m vo=some x/\K { st with f:=Ql st.f d x }
 |.allocN s z=>ZB st.m s=true/\K { st with m:=Am.put st.m 0 s (.cells z),f:=Ql st.f d (.ptr 0 s 0) }
 |.boxN s r=>ZB st.m s=true/\(r.ev st.f).cells.all AV.leaf=true/\K { st with m:=Am.put st.m 0 s (.cells (r.ev st.f).cells),f:=Ql st.f d (.ptr 0 s 0) }
 |.store n p r=>(r.ev st.f).cells.length=n/\(r.ev st.f).cells.all AV.leaf=true/\∃m',XA st.m (p.ev st.f) (r.ev st.f).cells=some m'/\K { st with m:=m',f:=Ql st.f d (.tup []) }
 |.app sz bytes el s r=>∃l site g n xs ys,s.ev st.f=.vec l site g 0 n false/\Qc st.m l site=.vec g sz xs/\Zv site el=true/\n<=xs.length/\Xc st.m (r.ev st.f)=some ys/\ys.all (λe=>e.cells.length==sz)=true/\n+ys.length<=maxLen/\(n+ys.length)*bytes<=140737488355328/\
   K { st with m:=Am.put st.m l site (.vec (g+1) sz (xs.take n++ys)),f:=Ql st.f d (.vec l site (g+1) 0 (n+ys.length) false) }
 |.storev l s n p r=>(∃o,p.ev st.f=.ptr l s o)/\(r.ev st.f).cells.length=n/\(r.ev st.f).cells.all AV.leaf=true/\∃m',XA st.m (p.ev st.f) (r.ev st.f).cells=some m'/\K { st with m:=m',f:=Ql st.f d (.tup []) }
 |.call f args=>∃k fa fb ys v,f.ev st.f=.fn (.func k) fa fb/\AV.stillL false st.m (fa++args.map (RA.ev st.f)++fb)=some ys/\AV.rfL ys=true/\Qi P k ys v/\v.rf=true/\(AV.rfL (fa++args.map (RA.ev st.f)++fb)=true\/v.nl=true)/\K { st with f:=Ql st.f d v }
 |.callF f args=>∃k fa fb v m',f.ev st.f=.fn (.func k) fa fb/\Qf P k (fa++args.map (RA.ev st.f)++fb) st.m (λx m=>x=v/\m=m')/\K { st with m:=m',f:=Ql st.f d v }
 |.callG f args=>∃k fa fb R,f.ev st.f=.fn (.func k) fa fb/\Qf P k (fa++args.map (RA.ev st.f)++fb) st.m R/\∀x m',R x m'->m'.length=st.m.length->K { st with m:=m',f:=Ql st.f d x }
 |.bsl sz len z ps=>∃y,fill st.f ps (Zj z sz len)=some y/\AV.rfL y=true/\y.all AV.leaf=true/\K { st with f:=Ql st.f d (.list (ZG sz len (y.map nn0))) }
 |.bslv site sz len z ps=>∃y,fill st.f ps (Zj z sz len)=some y/\AV.rfL y=true/\y.all AV.leaf=true/\Qn (Qc st.m 0 site)=true/\
   K { st with m:=Am.put st.m 0 site (.vec (QB st.m 0 site) sz (ZG sz len (y.map nn0))),f:=Ql st.f d (.vec 0 site (QB st.m 0 site) 0 len false) }
 |.bsl0 site sz=>Qn (Qc st.m 0 site)=true/\K { st with m:=Am.put st.m 0 site (.vec (QB st.m 0 site) sz []),f:=Ql st.f d (.vec 0 site (QB st.m 0 site) 0 0 false) }
 |.appc site sz bytes _ s r=>∃xs ys,s.ev st.f=.lcap xs/\Xc st.m (r.ev st.f)=some ys/\ys≠[]/\xs.all (λe=>e.cells.length==sz)=true/\ys.all (λe=>e.cells.length==sz)=true/\xs.length+ys.length<=maxLen/\(xs.length+ys.length)*bytes<=140737488355328/\Qn (Qc st.m 0 site)=true/\
   K { st with m:=Am.put st.m 0 site (.vec (QB st.m 0 site) sz (xs++ys)),f:=Ql st.f d (.vec 0 site (QB st.m 0 site) 0 (xs.length+ys.length) false) }
 |.clr sz z r=>∃l s g o n q xs,r.ev st.f=.vec l s g o n q/\Qc st.m l s=.vec g sz xs/\o+n<=xs.length/\0<n/\K { st with m:=Am.put st.m l s (.vec g sz (xs.take o++List.replicate n (Jc sz z)++xs.drop (o+n))),f:=Ql st.f d (.tup []) }
 |.isnil neg r=>∃ys,Xc st.m (r.ev st.f)=some ys/\(r.ev st.f≠.nils->K { st with f:=Ql st.f d (.bool neg) })/\((r.ev st.f=.nils\/QU ys=[])->K { st with f:=Ql st.f d (.bool (!neg)) })
 |.callK l s f args=>∃k fa fb v m',f.ev st.f=.fn (.func k) fa fb/\Qf P k (fa++args.map (RA.ev st.f)++fb) st.m (λx m=>x=v/\m=m')/\Qc m' l s=Qc st.m l s/\K { st with m:=m',f:=Ql st.f d v }
 |.callO l s f args=>∃k fa fb g z xs v,f.ev st.f=.fn (.func k) fa fb/\Qc st.m l s=.vec g z xs/\(∀m',Qc m' l s=.vec g z xs->Qf P k (fa++args.map (RA.ev st.f)++fb) m' (λx m=>x=v/\m=m'))/\K { st with f:=Ql st.f d v }
 |.xb cnt _ s c=>∃t b,s.ev st.f=.str t/\c.ev st.f=.int .u8 b/\K { st with f:=Ql st.f d (.int .i64 (Na cnt t b)) }
 |.rngs s r=>∃t,r.ev st.f=.str t/\ZB st.m s=true/\K { st with m:=Am.put st.m 0 s (.iter (.str t) 0),f:=Ql st.f d (.ptr 0 s 0) }
 |.mkm s=>ZB st.m s=true/\K { st with m:=Am.put st.m 0 s (.iter (.mp [] []) 0),f:=Ql st.f d (.mptr 0 s) }
 |.mput tx x i v=>∃l s ks vs p k,x.ev st.f=.mptr l s/\Qc st.m l s=.iter (.mp ks vs) p/\Wk tx (i.ev st.f)=some k/\keys tx ks=true/\(v.ev st.f).gr=true/\AV.grL vs=true/\ks.length=vs.length/\K { st with m:=Am.put st.m l s (.iter (.mp (Zy k (v.ev st.f) ks vs).1 (Zy k (v.ev st.f) ks vs).2) p),f:=Ql st.f d (.tup []) }
 |.nxts r=>∃l s t p,r.ev st.f=.ptr l s 0/\Qc st.m l s=.iter (.str t) p/\
   (p<t.length->K { st with m:=Am.put st.m l s (.iter (.str t) (p+(Zk t p).2)),f:=Ql st.f d (.tup [.bool true,.int .i64 (p:Nat),.int .i32 ((Zk t p).1:Nat)]) })/\(t.length<=p->K { st with f:=Ql st.f d (.tup [.bool false]) })
 |.appS el s r=>∃l site g n xs t,s.ev st.f=.vec l site g 0 n false/\Qc st.m l site=.vec g 1 xs/\Zv site el=true/\n<=xs.length/\r.ev st.f=.str t/\n+t.length<=140737488355328/\
   K { st with m:=Am.put st.m l site (.vec (g+1) 1 (xs.take n++Qy t)),f:=Ql st.f d (.vec l site (g+1) 0 (n+t.length) false) }
 |.mk site _ sz bytes z l c=>∃(kl kc:IntKind) (n k:Nat),l.ev st.f=.int kl (n:Int)/\c.ev st.f=.int kc (k:Int)/\n<=k/\k<=9223372036854775807/\bytes*k<=281474976710656/\Qn (Qc st.m 0 site)=true/\
   K { st with m:=Am.put st.m 0 site (.vec (QB st.m 0 site) sz (List.replicate n (Jc sz z))),f:=Ql st.f d (.vec 0 site (QB st.m 0 site) 0 n false) }
 |.s2b site _ r=>∃s,r.ev st.f=.str s/\s.length<=9223372036854775807/\Qn (Qc st.m 0 site)=true/\
   K { st with m:=Am.put st.m 0 site (.vec (QB st.m 0 site) 1 (Qy s)),f:=Ql st.f d (.vec 0 site (QB st.m 0 site) 0 s.length false) }
 |.usd r=>∃l s g n sz xs,2000<=s/\r.ev st.f=.vec l s g 0 n false/\Qc st.m l s=.vec g sz xs/\K { st with f:=Ql st.f d (if n=0 then .anyp else .vptr l s g 0 0) }
 |.ustr el p r=>(p.ev st.f=.anyp/\r.ev st.f=.int .i64 0/\K { st with f:=Ql st.f d (.str []) })\/
   ∃l g n xs s,p.ev st.f=.vptr l (el+2000) g 0 0/\r.ev st.f=.int .i64 ((n:Nat):Int)/\Qc st.m l (el+2000)=.vec g 1 xs/\n<=xs.length/\n≠0/\xs.take n=Qy s/\K { st with m:=Am.put st.m l (el+2000) (.vec (g+1) 1 []),f:=Ql st.f d (.str s) }
def Z5 (P:Program)(it:Item)(st:St)(K:St->Prop):Prop :=
 match it.g with
 |none=>De P it.dst it.op st K
 |some (j,want)=>match st.f j with
  |.bool b=>(b=want->De P it.dst it.op st K)/\(b=(!want)->K { st with f:=Ql st.f it.dst (.tup []) })
  |.tup l=>l=[]/\K { st with f:=Ql st.f it.dst (.tup []) }
  |_=>False
def QF (P:Program):List Item->St->(St->Prop)->Prop
 | [],st,K=>K st
 |it :: its,st,K=>Z5 P it st λai=>QF P its ai K
section
variable {P:Program}{N:Nat}
theorem Eu {d:Option Nat}{op:RO}{its:List Item}{st:St}{Q:St->Prop}(h:De P d op st λai=>QA P N its ai Q):QA P N (⟨d,op,none⟩ :: its) st Q:=by
 cases op with
 |val vo=>obtain⟨x,hx,h⟩:=h;exact .val hx h
 |allocN s z=>exact .allocN h.1 h.2
 |boxN s r=>exact .boxN h.1 h.2.1 h.2.2
 |store n p r=>obtain⟨h1,h2,m',h3,h⟩:=h;exact .store h1 h2 h3 h
 |app sz bytes el s r=>obtain⟨l,site,g,n,xs,ys,h1,h2,ht,h3,h4,h5,h6,h7,h⟩:=h;exact .app h1 h2 ht h3 h4 h5 h6 h7 h
 |appS el s r=>obtain⟨l,site,g,n,xs,t,h1,h2,ht,h3,h4,h5,h⟩:=h;exact .appS h1 h2 ht h3 h4 h5 h
 |mk site el sz bytes z l c=>obtain⟨kl,kc,n,k,h1,h2,h3,h4,h5,h6,h⟩:=h;exact .mk h1 h2 h3 h4 h5 h6 h
 |s2b site el r=>obtain⟨s,h1,h2,h3,h⟩:=h;exact .s2b h1 h2 h3 h
 |usd r=>obtain⟨l,s,g,n,sz,xs,h0,h1,h2,h⟩:=h;exact .usd h0 h1 h2 h
 |ustr el p r=>
  rcases h with⟨h1,h2,h⟩|⟨l,g,n,xs,s,h1,h2,h3,h4,h5,h6,h⟩
  ·exact .ustr0 h1 h2 h
  ·exact .ustr h1 h2 h3 h4 h5 h6 h
 |storev l s n p r=>obtain⟨_,h1,h2,m',h3,h⟩:=h;exact .same (ro:=.store n p r) (λ_=>rfl) (.store h1 h2 h3 h)
 |call f args=>
  obtain⟨k,fa,fb,ys,v,hf,h1,h2,h3,h4,h5,h⟩:=h;exact .callPure hf h1 h2 h3 (λx hx=>by subst hx;exact⟨h4,h5⟩) λx hx=>by subst hx;exact h
 |callF f args=>
  obtain⟨k,fa,fb,v,m',hf,h1,h⟩:=h;exact .same (ro:=.call f args) (λ_=>rfl) (.callFull hf h1 λx m hx _=>Ē)
 |callG f args=>
  obtain⟨k,fa,fb,R,hf,h1,h⟩:=h;exact .same (ro:=.call f args) (λ_=>rfl) (.callFull hf h1 h)
 |bsl sz len z ps=>obtain⟨y,h1,h2,h3,h⟩:=h;exact .bsl h1 h2 h3 h
 |bslv site sz len z ps=>obtain⟨y,h1,h2,h3,h4,h⟩:=h;exact .bslv h1 h2 h3 h4 h
 |bsl0 site sz=>exact .bsl0 h.1 h.2
 |clr sz z r=>obtain⟨l,s,g,o,n,q,xs,h1,h2,h3,h4,h⟩:=h;exact .clr h1 h2 h3 h4 h
 |isnil neg r=>obtain⟨ys,h1,h2,h3⟩:=h;exact .isnil h1 h2 h3
 |appc site sz bytes el s r=>obtain⟨xs,ys,h1,h2,h3,h4,h5,h6,h7,h8,h⟩:=h;exact .appc h1 h2 h3 h4 h5 h6 h7 h8 h
 |callK l s f args=>
  obtain⟨k,fa,fb,v,m',hf,h1,_,h⟩:=h;exact .same (ro:=.call f args) (λ_=>rfl) (.callFull hf h1 λx m hx _=>Ē)
 |callO l s f args=>
  obtain⟨k,fa,fb,g,z,xs,v,hf,hl,h1,h⟩:=h;exact .same (ro:=.call f args) (λ_=>rfl) (.callFull hf (h1 _ hl) λx m hx _=>Ē)
 |xb cnt k s c=>obtain⟨t,b,h1,h2,h⟩:=h;exact .xb h1 h2 h
 |rngs s r=>obtain⟨t,h1,h2,h⟩:=h;exact .rngs h1 h2 h
 |nxts r=>obtain⟨l,s,t,p,h1,h2,h3,h4⟩:=h;exact .nxts h1 h2 h3 h4
 |mkm s=>obtain⟨h1,h⟩:=h;exact .mkm h1 h
 |mput tx x i v=>obtain⟨l,s,ks,vs,p,k,h1,h2,h3,h7,h4,h5,h6,h⟩:=h;exact .mput h1 h2 h3 h7 h4 h5 h6 h
theorem Mq {it:Item}{its:List Item}{st:St}{Q:St->Prop}(h:Z5 P it st λai=>QA P N its ai Q):QA P N (it :: its) st Q:=by
 obtain⟨d,op,g⟩:=it;cases g with
 |none=>exact Eu h
 |some p=>
  obtain⟨j,want⟩:=p;simp only[Z5]at h;split at h
  ·rename_i b hj;by_cases hb:b=want
   ·subst hb;exact .yes hj (Eu (h.1 rfl))
   ·have eN:b=!want:=by cases b<;>cases want<;>first|rfl|exact absurd rfl hb
    subst eN;exact .no (.inl hj) (h.2 rfl)
  ·rename_i l hj;obtain⟨rfl,h⟩:=h;exact .no (.inr hj) h
  ·exact h.elim
theorem Mr {d:Option Nat}{op:RO}{st:St}{K K':St->Prop}(hk:∀s,K s->K' s)(h:De P d op st K):De P d op st K':=by
 cases op<;>simp only[De]at h |-
 case val=>obtain⟨x,a,b⟩:=h;exact⟨x,a,hk _ b⟩
 case allocN=>exact⟨h.1,hk _ h.2⟩
 case boxN=>exact⟨h.1,h.2.1,hk _ h.2.2⟩
 case store=>obtain⟨h1,h2,m',h3,h⟩:=h;exact⟨h1,h2,m',h3,hk _ h⟩
 case app=>obtain⟨l,site,g,n,xs,ys,h1,h2,ht,h3,h4,h5,h6,h7,h⟩:=h;exact⟨l,site,g,n,xs,ys,h1,h2,ht,h3,h4,h5,h6,h7,hk _ h⟩
 case appS=>obtain⟨l,site,g,n,xs,t,h1,h2,ht,h3,h4,h5,h⟩:=h;exact⟨l,site,g,n,xs,t,h1,h2,ht,h3,h4,h5,hk _ h⟩
 case mk=>obtain⟨kl,kc,n,k,h1,h2,h3,h4,h5,h6,h⟩:=h;exact⟨kl,kc,n,k,h1,h2,h3,h4,h5,h6,hk _ h⟩
 case s2b=>obtain⟨s,h1,h2,h3,h⟩:=h;exact⟨s,h1,h2,h3,hk _ h⟩
 case usd=>obtain⟨l,s,g,n,sz,xs,h0,h1,h2,h⟩:=h;exact⟨l,s,g,n,sz,xs,h0,h1,h2,hk _ h⟩
 case ustr=>
  rcases h with⟨h1,h2,h⟩|⟨l,g,n,xs,s,h1,h2,h3,h4,h5,h6,h⟩
  ·exact .inl ⟨h1,h2,hk _ h⟩
  ·exact .inr ⟨l,g,n,xs,s,h1,h2,h3,h4,h5,h6,hk _ h⟩
 case bsl=>obtain⟨y,h1,h2,h3,h⟩:=h;exact⟨y,h1,h2,h3,hk _ h⟩
 case bslv=>obtain⟨y,h1,h2,h3,h4,h⟩:=h;exact⟨y,h1,h2,h3,h4,hk _ h⟩
 case bsl0=>exact⟨h.1,hk _ h.2⟩
 case clr=>obtain⟨l,s,g,o,n,q,xs,h1,h2,h3,h4,h⟩:=h;exact⟨l,s,g,o,n,q,xs,h1,h2,h3,h4,hk _ h⟩
 case appc=>obtain⟨xs,ys,h1,h2,h3,h4,h5,h6,h7,h8,h⟩:=h;exact⟨xs,ys,h1,h2,h3,h4,h5,h6,h7,h8,hk _ h⟩
 case isnil=>obtain⟨ys,h1,h2,h3⟩:=h;exact⟨ys,h1,λe=>hk _ (h2 e),λe=>hk _ (h3 e)⟩
 case callK=>obtain⟨k,fa,fb,v,m',hf,h1,h2,h⟩:=h;exact⟨k,fa,fb,v,m',hf,h1,h2,hk _ h⟩
 case callO=>obtain⟨k,fa,fb,g,z,xs,v,hf,hl,h1,h⟩:=h;exact⟨k,fa,fb,g,z,xs,v,hf,hl,h1,hk _ h⟩
 case xb=>obtain⟨t,b,h1,h2,h⟩:=h;exact⟨t,b,h1,h2,hk _ h⟩
 case rngs=>obtain⟨t,h1,h2,h⟩:=h;exact⟨t,h1,h2,hk _ h⟩
 case mkm=>obtain⟨h1,h⟩:=h;exact⟨h1,hk _ h⟩
 case mput=>obtain⟨l,s,ks,vs,p,k,h1,h2,h3,h7,h4,h5,h6,h⟩:=h;exact⟨l,s,ks,vs,p,k,h1,h2,h3,h7,h4,h5,h6,hk _ h⟩
 case nxts=>obtain⟨l,s,t,p,h1,h2,h3,h4⟩:=h;exact⟨l,s,t,p,h1,h2,λe=>hk _ (h3 e),λe=>hk _ (h4 e)⟩
 case storev=>obtain⟨h0,h1,h2,m',h3,h⟩:=h;exact⟨h0,h1,h2,m',h3,hk _ h⟩
 case call=>obtain⟨k,fa,fb,ys,v,hf,h1,h2,h3,h4,h5,h⟩:=h;exact⟨k,fa,fb,ys,v,hf,h1,h2,h3,h4,h5,hk _ h⟩
 case callF=>obtain⟨k,fa,fb,v,m',hf,h1,h⟩:=h;exact⟨k,fa,fb,v,m',hf,h1,hk _ h⟩
 case callG=>obtain⟨k,fa,fb,R,hf,h1,h⟩:=h;exact⟨k,fa,fb,R,hf,h1,λx m' hr hl=>hk _ (h x m' hr hl)⟩
theorem Gm {it:Item}{st:St}{K K':St->Prop}(hk:∀s,K s->K' s)(h:Z5 P it st K):Z5 P it st K':=by
 unfold Z5 at h |-;split at h
 ·exact Mr hk h
 ·split at h
  ·exact⟨λe=>Mr hk (h.1 e),λe=>hk _ (h.2 e)⟩
  ·exact⟨h.1,hk _ h.2⟩
  ·exact h.elim
theorem Sq:∀ {its:List Item} {st:St} {Q:St->Prop},QF P its st Q->QA P N its st Q
 | [],_,_,h=>.nil h
 |_ :: _,_,_,h=>Mq (Gm (λ_ hs=>Sq hs) h)
end
inductive GO where
 |vec (slot site sz:Nat)
 |drop (s:Nat)
 |vecc (s idx site sz:Nat)
 |pub (slot site:Nat)
 |give (slot site l S:Nat)
 |lst (slot:Nat)
def J6 (g:GO)(st:St):Option St :=
 match g with
 |.vec slot site sz=>match st.f slot with
  |.nils=>bif Qn (Qc st.m 0 site)then some { st with m:=Am.put st.m 0 site (.vec (QB st.m 0 site) sz []),f:=QL st.f slot (.vec 0 site (QB st.m 0 site) 0 0 false) } else none
  |_=>none
 |.drop s=>bif Gg st.m s then some (st.drop s)else none
 |.vecc s idx site sz=>match Qc st.m 0 s with
  |.cells xs=>match xs[idx]? with
   |some .nils=>bif Qn (Qc st.m 0 site) && !(Nat.beq site s)then some { st with m:=Am.put (Am.put st.m 0 site (.vec (QB st.m 0 site) sz [])) 0 s (.cells (xs.set idx (.vec 0 site (QB st.m 0 site) 0 0 false))) } else none
   |some _=>some st
   |none=>none
  |_=>none
 |.pub slot site=>match st.f slot with
  |.vec 0 s' g o n _=>match Qc st.m 0 site with
   |.vec g' sz xs=>bif Nat.beq s' site&&Nat.beq g g'&&Nat.ble (o+n) xs.length then some { st with m:=Am.put st.m 0 site (.vec (g+1) sz []),f:=QL st.f slot (.list ((xs.drop o).take n)) } else none
   |_=>none
  |.list _=>some st
  |_=>none
 |.give slot site l S=>match st.f slot with
  |.vec 0 s' g o n q=>match Qc st.m 0 site with
   |.vec g' sz xs=>bif Nat.beq s' site&&Nat.beq g g'&&Nat.blt l st.m.length && !(Nat.beq l 0)&&Qn (Qc st.m l S)&&Nat.blt S 2000 then some { st with m:=Am.put (Am.put st.m 0 site (.vec (g+1) sz [])) l S (.vec (QB st.m l S) sz xs),f:=QL st.f slot (.vec l S (QB st.m l S) o n q) } else none
   |_=>none
  |_=>none
 |.lst slot=>match st.f slot with
  |.nils=>some { st with f:=QL st.f slot (.list []) }
  |.list l=>some { st with f:=QL st.f slot (.list l) }
  |_=>none
inductive RC where
 |skip
 |reg (its:List Item)
 |draw (its:List Item)
 |seq (a b:RC)
 |cond (c:RA) (a b:RC)
 |block (id:Nat) (a:RC)
 |loop (a:RC)
 |exit (id:Nat)
 |scope (a:RC)
 |lab
 |ret
 |gho (g:GO) (a:RC)
 |no
 |goto (l:Nat)
 |jump (l:Nat) (a b:RC)
def Ks (f:St->Prop)(Q:Exit->St->Prop):Exit->St->Prop
 |.normal,st=>f st
 |e,st=>Q e st
def Kb (id:Nat)(Q:Exit->St->Prop):Exit->St->Prop
 |.exit i,st=>if i=id then Q .normal st else Q (.exit i) st
 |e,st=>Q e st
def Kg (Q:Exit->St->Prop):Exit->St->Prop
 |.goto _,_=>False
 |e,st=>Q e st
def Kj (l:Nat)(J:St->Prop)(Q:Exit->St->Prop):Exit->St->Prop
 |.goto i,st=>i=l/\J st
 |e,st=>Q e st
def Q1 (P:Program):RC->St->(Exit->St->Prop)->Prop
 |.skip,st,Q=>Q .normal st
 |.reg its,st,Q=>QF P its st (Q .normal)
 |.draw its,st,Q=>QF P its st (Q .normal)
 |.seq a b,st,Q=>Q1 P a st (Ks (λai=>Q1 P b ai Q) Q)
 |.cond c a b,st,Q=>∃t,c.ev st.f=.bool t/\(t=true->Q1 P a st Q)/\(t=false->Q1 P b st Q)
 |.block id a,st,Q=>Q1 P a st (Kb id Q)
 |.loop a,st,Q=>∃(I:Nat->St->Prop) (n:Nat),I n st/\∀n ai,I n ai->Q1 P a ai (Ks (λs=>∃k,k<n/\I k s) Q)
 |.exit id,st,Q=>Q (.exit id) st
 |.scope a,st,Q=>Q1 P a st (Kg Q)
 |.lab,st,Q=>Q .normal st
 |.ret,st,Q=>Q .ret st
 |.gho g a,st,Q=>∃ai,J6 g st=some ai/\Q1 P a ai Q
 |.no,_,_=>False
 |.goto l,st,Q=>Q (.goto l) st
 |.jump l a b,st,Q=>∃I:Nat->St->Prop,Q1 P a st (Kj l (λs=>∃n,I n s) Q)/\∀n ai,I n ai->Q1 P b ai (Kj l (λs=>∃k,k<n/\I k s) Q)
def Dp {G:Gh}{f:Fr}{a:Act}(hs:∀i,Rep G (f i) (a.tmps.getD i undef)){d:Nat}{x:AV}(hx:Rep G x (a.tmps.getD d undef)):∀i,Rep G (QL f d x i) (a.tmps.getD i undef):=by
 intro i;by_cases hi:i=d
 ·subst hi;rw[Q6];exact hx
 ·rw[Xe _ _ hi];exact hs i
def Qaj {G:Gh}{B N:Nat}{st ai:St}{a:Act}{w:World}(h:Rel G B N st a w){g:GO}(hg:J6 g st=some ai):∃G',Rel G' B N ai a w/\Ext 1 G w G' w:=by
 cases g with
 |vec slot site sz=>
  simp only[J6]at hg;split at hg
  ·rename_i hn;cases ak:Qn (Qc st.m 0 site)with
   |false=>rw[ak]at hg;cases hg
   |true=>
    rw[ak]at hg;simp only[cond_true,QnC]at hg;subst hg;have hl:0<st.m.length:=Qoy.2 h.ne;obtain⟨h1,h2⟩:=h.vecput (w':=w) (sz:=sz) (cap:=0) (b:=none) (ys:=[]) hl ak (Ko h.mr ak) rfl rfl rfl (Qm8 _) (λ_ _ _=>rfl) (λk e=>Ú) ⟨ό,rfl,rfl⟩ (.inl ⟨rfl,rfl⟩);refine⟨_,⟨h1.mr,h1.size,Dp h1.slots ?_,h1.ds,h1.base,h1.top,h1.ne⟩,h2⟩;have hs:=h.slots slot;rw[hn]at hs;generalize a.tmps.getD slot undef=v at hs;cases hs;exact .vec rfl (QnV Ϧ) λ_=>.inl ⟨Ϧ,rfl,rfl,none,rfl,λ_=>rfl⟩
  ·cases hg
 |drop s=>
  simp only[J6]at hg;cases ak:Gg st.m s with
  |false=>rw[ak]at hg;cases hg
  |true=>
   rw[ak]at hg;simp only[cond_true,QnC]at hg;subst hg;exact⟨_,h.drop s ak⟩
 |vecc s idx site sz=>
  simp only[J6]at hg;split at hg
  ·rename_i xs ar;split at hg
   ·rename_i hn;cases ak:(Qn (Qc st.m 0 site) && !(Nat.beq site s))with
    |false=>rw[ak]at hg;cases hg
    |true=>
     rw[ak]at hg;simp only[cond_true,QnC]at hg;subst hg;rw[Qnz]at ak;have aq:s≠site:=λe=>by
      have h2:=ak.2;rw[e]at h2;simp at h2
     have hl:0<st.m.length:=Qoy.2 h.ne;obtain⟨h1,h2⟩:=h.vecput (w':=w) (sz:=sz) (cap:=0) (b:=none) (ys:=[]) hl ak.1 (Ko h.mr ak.1) rfl rfl rfl (Qm8 _) (λ_ _ _=>rfl) (λk e=>Ú) ⟨ό,rfl,rfl⟩ (.inl ⟨rfl,rfl⟩);have pz:Qc (Am.put st.m 0 site (.vec (QB st.m 0 site) sz [])) 0 s=.cells xs:=by
      rw[QG (.inr aq)];exact ar
     obtain⟨b,cs,hb,aE,aj⟩:=h1.mr.cells 0 s xs pz;obtain⟨v,hv,hr⟩:=aj.at_ hn;have uI:v=.slice none 0 0:=by cases hr;rfl
     subst uI;have aw:cs.toList.set idx (.slice none 0 0)=cs.toList:=by
      obtain⟨hi,he⟩:=Qna.1 hv;rw[<-he,List.set_getElem_self]
     have fA:=aj.set idx (x:=.vec 0 site (QB st.m 0 site) 0 0 false) (v:=.slice none 0 0) (.vec rfl (QnV (by simp[Gh.row,Gh.dn])) λ_=>.inl ⟨by simp[Gh.row,Gh.dn],rfl,rfl,none,rfl,λ_=>rfl⟩);rw[aw]at fA;exact⟨_,⟨h1.mr.stored pz hb (Turned.refl b w) aE fA,h1.size,h1.slots,h1.ds,h1.base,h1.top,WA h1.ne⟩,h2⟩
   ·cases hg;exact⟨G,h,Ext.refl 1 G w⟩
   ·cases hg
  ·cases hg
 |pub slot site=>
  simp only[J6]at hg;split at hg
  ·rename_i s' g o n q hs;split at hg
   ·rename_i g' sz xs ar;cases hb:(Nat.beq s' site&&Nat.beq g g'&&Nat.ble (o+n) xs.length)with
    |false=>rw[hb]at hg;cases hg
    |true=>
     rw[hb]at hg;simp only[cond_true,QnC]at hg;subst hg;simp only[Qnz]at hb;obtain⟨⟨b1,b2⟩,b3⟩:=hb;have e1:=Qm6 b1;have e2:=Qm6 b2;subst e1 e2;exact h.publish hs ar (QoG b3)
   ·cases hg
  ·cases hg;exact⟨G,h,Ext.refl 1 G w⟩
  ·cases hg
 |give slot site l S=>
  simp only[J6]at hg;split at hg
  ·rename_i s' g o n q hs;split at hg
   ·rename_i g' sz xs ar;cases hb:(Nat.beq s' site&&Nat.beq g g'&&Nat.blt l st.m.length && !(Nat.beq l 0)&&Qn (Qc st.m l S)&&Nat.blt S 2000)with
    |false=>rw[hb]at hg;cases hg
    |true=>
     rw[hb]at hg;simp only[cond_true,QnC]at hg;subst hg;simp only[Qnz]at hb;obtain⟨⟨⟨⟨⟨b1,b2⟩,b3⟩,b4⟩,b5⟩,b6⟩:=hb;have e1:=Qm6 b1;have e2:=Qm6 b2;subst e1 e2;have jT:l≠0:=λe=>by rw[e]at b4;simp at b4
     exact h.give hs ar (QoG b3) jT b5 (QoG b6)
   ·cases hg
  ·cases hg
 |lst slot=>
  simp only[J6]at hg;split at hg
  ·rename_i hs;cases hg;refine⟨G,⟨h.mr,h.size,Dp h.slots ?_,h.ds,h.base,h.top,h.ne⟩,Ext.refl 1 G w⟩;have hr:=h.slots slot;rw[hs]at hr;exact hr.nn0
  ·rename_i l hs;cases hg;refine⟨G,⟨h.mr,h.size,Dp h.slots ?_,h.ds,h.base,h.top,h.ne⟩,Ext.refl 1 G w⟩;have hr:=h.slots slot;rw[hs]at hr;exact hr
  ·cases hg
def RA.sl:RA->List Nat
 |.t n=>[n]
 |_=>[]
def Ms:Option RA->List Nat
 |some r=>r.sl
 |none=>[]
def VO.sl:VO->List Nat
 |.mov x=>x.sl
 |.pick c a b=>c.sl++(a.sl++b.sl)
 |.build _ ps=>ps.flatMap λp=>p.2.2.sl
 |.load _ x=>x.sl
 |.loadv _ _ _ x=>x.sl
 |.loado _ x=>x.sl
 |.loadr _ x=>x.sl
 |.nilck x=>x.sl
 |.un _ x=>x.sl
 |.cvi _ x=>x.sl
 |.b2s x=>x.sl
 |.faddr _ x=>x.sl
 |.fld _ _ x=>x.sl
 |.ext x _=>x.sl
 |.len _ x=>x.sl
 |.bin _ _ x y=>x.sl++y.sl
 |.eqs _ _ x y=>x.sl++y.sl
 |.iaddr _ _ x y=>x.sl++y.sl
 |.idx x y=>x.sl++y.sl
 |.mnx _ x y=>x.sl++y.sl
 |.slc _ x lo hi mx=>x.sl++(Ms lo++(Ms hi++Ms mx))
 |.slcl x hi mx=>x.sl++(hi.sl++mx.sl)
 |.slcp _ x lo hi mx=>x.sl++(Ms lo++(Ms hi++Ms mx))
 |.mkfn _ a b=>a.flatMap RA.sl++b.flatMap RA.sl
 |.toU x=>x.sl
 |.ofU _ _ x=>x.sl
 |.same x=>x.sl
 |.mget _ _ _ x y=>x.sl++y.sl
 |.mgetp _ _ _ x y=>x.sl++y.sl
 |.mki _ x=>x.sl
 |.tas _ _ _ x=>x.sl
def RO.sl:RO->List Nat
 |.val v=>v.sl
 |.allocN _ _=>[]
 |.boxN _ r=>r.sl
 |.store _ p r=>p.sl++r.sl
 |.storev _ _ _ p r=>p.sl++r.sl
 |.app _ _ _ s r=>s.sl++r.sl
 |.appS _ s r=>s.sl++r.sl
 |.mk _ _ _ _ _ l c=>l.sl++c.sl
 |.s2b _ _ r=>r.sl
 |.usd r=>r.sl
 |.ustr _ p r=>p.sl++r.sl
 |.bsl _ _ _ ps=>ps.flatMap λp=>p.2.2.sl
 |.call f rs=>f.sl++rs.flatMap RA.sl
 |.callF f rs=>f.sl++rs.flatMap RA.sl
 |.bslv _ _ _ _ ps=>ps.flatMap λp=>p.2.2.sl
 |.bsl0 _ _=>[]
 |.clr _ _ r=>r.sl
 |.isnil _ x=>x.sl
 |.appc _ _ _ _ s r=>s.sl++r.sl
 |.callG f rs=>f.sl++rs.flatMap RA.sl
 |.xb _ _ s c=>s.sl++c.sl
 |.callK _ _ f rs=>f.sl++rs.flatMap RA.sl
 |.callO _ _ f rs=>f.sl++rs.flatMap RA.sl
 |.rngs _ r=>r.sl
 |.nxts r=>r.sl
 |.mkm _=>[]
 |.mput _ x y z=>x.sl++(y.sl++z.sl)
def Item.sl (it:Item):List Nat:=it.op.sl++(match it.g with|some (j,_)=>[j]|none=>[])
def J2 (l:List Nat)(f f':Fr):Prop:=∀t,t∈l->f t=f' t
def J2.left {a b:List Nat}{f f':Fr}(h:J2 (a++b) f f'):J2 a f f':=λt ht=>h t (List.mem_append_left _ ht)
def J2.right {a b:List Nat}{f f':Fr}(h:J2 (a++b) f f'):J2 b f f':=λt ht=>h t (List.mem_append_right _ ht)
def RA.ev_same {r:RA}{f f':Fr}(h:J2 r.sl f f'):r.ev f=r.ev f':=by
 cases r with
 |t n=>exact h n (by simp[RA.sl])
 |c x=>rfl
 |f k=>rfl
 |g k l=>rfl
def WP:∀ {rs:List RA} {f f':Fr},J2 (rs.flatMap RA.sl) f f'->rs.map (RA.ev f)=rs.map (RA.ev f')
 | [],_,_,_=>rfl
 |r :: rs,f,f',h=>by
  rw[QoH]at h;rw[QnJ,QnJ,RA.ev_same h.left,WP h.right]
def Hc {f f':Fr}:∀ {ps:List (Nat×Nat×RA)} {z:List AV},J2 (ps.flatMap λp=>p.2.2.sl) f f'->fill f ps z=fill f' ps z
 | [],_,_=>rfl
 |(o,n,r) :: ps,z,h=>by
  rw[QoH]at h;simp only[fill,RA.ev_same h.left,Hc h.right]
def YE {f f':Fr}{d:Nat}{r:Option RA}(h:J2 (Ms r) f f'):JR f d r=JR f' d r:=by
 cases r with
 |none=>rfl
 |some r=>simp only[JR,RA.ev_same (r:=r) h]
def Qak {f f':Fr}{m:Qk}{vo:VO}(h:J2 vo.sl f f'):Qz f m vo=Qz f' m vo:=by
 cases vo with
 |mov x=>simp only[Qz,RA.ev_same (r:=x) h]
 |pick c a b=>simp only[Qz,RA.ev_same (r:=c) h.left,RA.ev_same (r:=a) h.right.left,RA.ev_same (r:=b) h.right.right]
 |build z ps=>simp only[Qz,Hc (ps:=ps) h]
 |load k x=>simp only[Qz,RA.ev_same (r:=x) h]
 |loadv l s k x=>simp only[Qz,RA.ev_same (r:=x) h]
 |loado k x=>simp only[Qz,RA.ev_same (r:=x) h]
 |loadr k x=>simp only[Qz,RA.ev_same (r:=x) h]
 |nilck x=>simp only[Qz,RA.ev_same (r:=x) h]
 |un o x=>simp only[Qz,RA.ev_same (r:=x) h]
 |cvi k x=>simp only[Qz,RA.ev_same (r:=x) h]
 |b2s x=>simp only[Qz,RA.ev_same (r:=x) h]
 |faddr o x=>simp only[Qz,RA.ev_same (r:=x) h]
 |fld o k x=>simp only[Qz,RA.ev_same (r:=x) h]
 |ext x i=>simp only[Qz,RA.ev_same (r:=x) h]
 |toU x=>simp only[Qz,RA.ev_same (r:=x) h]
 |ofU t n x=>simp only[Qz,RA.ev_same (r:=x) h]
 |same x=>simp only[Qz,RA.ev_same (r:=x) h]
 |len k x=>simp only[Qz,RA.ev_same (r:=x) h]
 |bin t o x y=>simp only[Qz,RA.ev_same (r:=x) h.left,RA.ev_same (r:=y) h.right]
 |eqs n ks x y=>simp only[Qz,RA.ev_same (r:=x) h.left,RA.ev_same (r:=y) h.right]
 |iaddr sz len x y=>simp only[Qz,RA.ev_same (r:=x) h.left,RA.ev_same (r:=y) h.right]
 |idx x y=>simp only[Qz,RA.ev_same (r:=x) h.left,RA.ev_same (r:=y) h.right]
 |mget tx ok z x y=>simp only[Qz,RA.ev_same (r:=x) h.left,RA.ev_same (r:=y) h.right]
 |mgetp tx ok z x y=>simp only[Qz,RA.ev_same (r:=x) h.left,RA.ev_same (r:=y) h.right]
 |mki t x=>simp only[Qz,RA.ev_same (r:=x) h]
 |tas t ok z x=>simp only[Qz,RA.ev_same (r:=x) h]
 |mnx b x y=>simp only[Qz,RA.ev_same (r:=x) h.left,RA.ev_same (r:=y) h.right]
 |slc sz x lo hi mx=>
  have h1:=h.right.left;have h2:=h.right.right.left;have h3:=h.right.right.right;simp only[Qz,RA.ev_same (r:=x) h.left,YE (r:=lo) h1,YE (r:=hi) h2];cases mx with
  |none=>rfl
  |some r=>simp only[YE (r:=some r) h3]
 |slcp sz x lo hi mx=>
  have h1:=h.right.left;have h2:=h.right.right.left;have h3:=h.right.right.right;simp only[Qz,RA.ev_same (r:=x) h.left,YE (r:=lo) h1,YE (r:=hi) h2];cases mx with
  |none=>rfl
  |some r=>simp only[YE (r:=some r) h3]
 |mkfn fn a b=>simp only[Qz,WP (rs:=a) h.left,WP (rs:=b) h.right]
 |slcl x hi mx=>simp only[Qz,RA.ev_same (r:=x) h.left,RA.ev_same (r:=hi) h.right.left,RA.ev_same (r:=mx) h.right.right]
inductive MC where
 |no
 |shape
 |rows
 |cell (l s:Nat)
 |outer
 |all
 deriving DecidableEq
def VO.mc:VO->MC
 |.load _ _=>.all
 |.loadv l s _ _=>.cell l s
 |.loado _ _=>.outer
 |.loadr _ _=>.rows
 |.b2s _=>.rows
 |.nilck _=>.shape
 |.faddr _ _=>.shape
 |.len _ _=>.shape
 |.slc .. => .shape
 |.iaddr .. => .shape
 |.toU _=>.all
 |.ofU .. => .all
 |.mget .. => .all
 |_=>.no
def Ob.sh:Ob->Option (Nat×Nat)
 |.vec g z _=>some (g,z)
 |_=>Option.none
def Ob.row:Ob->Option (Nat×Nat×List AV)
 |.vec g z xs=>some (g,z,xs)
 |_=>Option.none
def X9:MC->Qk->Qk->Prop
 |.no,_,_=>True
 |.shape,m,m'=>∀l s,(Qc m l s).sh=(Qc m' l s).sh
 |.rows,m,m'=>∀l s,(Qc m l s).row=(Qc m' l s).row
 |.cell l s,m,m'=>Qc m l s=Qc m' l s\/((Qc m l s).isRow=true/\(Qc m' l s).isRow=true)
 |.outer,m,m'=>∀l s,Qc m (l+1) s=Qc m' (l+1) s
 |.all,m,m'=>m=m'
def X9.refl (c:MC)(m:Qk):X9 c m m:=by
 cases c<;>simp[X9]
def Dq {m m':Qk}{l s:Nat}(h:(Qc m l s).sh=(Qc m' l s).sh):Y8 m l s=Y8 m' l s:=by
 unfold Y8;exact Oc
def TZ {m m':Qk}(h:X9 .rows m m')(x:AV):Xc m x=Xc m' x:=by
 cases x with
 |vec l s g o n q=>
  have h:=h l s;simp only[Xc];exact A_
 |_=>rfl
def Mt {m m':Qk}(h:X9 .shape m m')(sz:Option Nat)(x:AV)(lo hi:Nat)(mx:Option Nat):Xz m sz x lo hi mx=Xz m' sz x lo hi mx:=by
 cases sz with
 |none=>rfl
 |some z=>
  cases x with
  |vec l s g o n q=>
   have h:=h l s;simp only[Xz];exact Oc
  |_=>rfl
def Mu {m m':Qk}(h:X9 .shape m m')(sz:Nat)(len:Option Nat)(x:AV)(i:Int):Qg m sz len x i=Qg m' sz len x i:=by
 unfold Qg;cases len with
 |none=>
  cases x with
  |vec l s g o n q=>
   have h:=h l s;simp only;exact Oc
  |_=>rfl
 |some k=>rfl
def Qal (F:Nat->List AV->Option AV):Ob->Option AV
 |.vec g _ xs=>F g xs
 |_=>none
def Ex {o o':Ob}(h:o.row=o'.row)(F:Nat->List AV->Option AV):Qal F o=Qal F o':=by
  cases o<;>cases o'<;>simp only[Ob.row,QnC,QoI,reduceCtorEq]at h<;>first
    |rfl
    | (obtain⟨rfl,_,rfl⟩:=h
       rfl)
def Nb (m:Qk)(k:Option Nat)(l s g i o:Nat):XH m k (.vptr l s g i o)=Qal (λg' xs=>if g=g' then match xs[i]? with
  |some e=>part e.cells o k
  |none=>none
 else none) (Qc m l s):=by
 simp only[XH];cases Qc m l s<;>rfl
def Qdm {f:Fr}{m m':Qk}{vo:VO}(h:X9 vo.mc m m'):Qz f m vo=Qz f m' vo:=by
 cases vo<;>simp only[VO.mc]at h<;>try rfl
 case load k x=>have h:m=m':=h;subst h;rfl
 case toU x=>have h:m=m':=h;subst h;rfl
 case ofU t n x=>have h:m=m':=h;subst h;rfl
 case mget tx ok z x i=>have h:m=m':=h;subst h;rfl
 case loado k x=>
  have h:∀l s,Qc m (l+1) s=Qc m' (l+1) s:=h;simp only[Qz];split
  ·simp only[XH,h]
  ·rfl
 case loadv l s k x=>
  have h:Qc m l s=Qc m' l s\/((Qc m l s).isRow=true/\(Qc m' l s).isRow=true):=h;simp only[Qz];split
  ·split
   ·rename_i hh;obtain⟨rfl,rfl⟩:=hh;rcases h with h|⟨h1,h2⟩
    ·simp only[XH,h]
    ·simp only[XH];cases e1:Qc m _ _<;>cases e2:Qc m' _ _<;>rw[e1]at h1<;>rw[e2]at h2<;>first|rfl|(simp[Ob.isRow]at h1;done)|(simp[Ob.isRow]at h2;done)
   ·rfl
  ·rfl
 case b2s x=>simp only[Qz,TZ h]
 case loadr k x=>
  simp only[Qz];split
  ·rfl
  ·rename_i l s g i o e;have h4:(Qc m l s).row=(Qc m' l s).row:=h l s;rw[Nb,Nb,Ex h4]
  ·rfl
 case nilck x=>simp only[Qz,λl s=>Dq (h l s)]
 case faddr o x=>simp only[Qz,λl s=>Dq (h l s)]
 case len k x=>simp only[Qz,λl s=>Dq (h l s)]
 case slc sz x lo hi mx=>simp only[Qz,Mt h]
 case iaddr sz len x i=>simp only[Qz,Mu h]
mutual
theorem Nc {m m':Qk}(h:X9 .rows m m'):∀x:AV,x.still false m=x.still false m'
 |.vec l s g o n q=>by
   have h:=h l s;simp only[AV.still];exact A_
 |.agg l=>by simp only[AV.still,YR h l]
 |.tup l=>by simp only[AV.still,YR h l]
 |.iface t x=>by simp only[AV.still,Nc h x]
 |.top|.int .. | .bool _|.str _|.nils|.nilp|.nilf|.nili|.nilm|.anyp|.list _|.lcap _|.fn .. | .ptr .. | .vptr .. | .rptr _|.mp .. => rfl
 |.mptr l s=>by simp only[AV.still,QoJ,Qnu,if_false]
theorem YR {m m':Qk}(h:X9 .rows m m'):∀l:List AV,AV.stillL false m l=AV.stillL false m' l
 | []=>rfl
 |x :: l=>by simp only[AV.stillL,Nc h x,YR h l]
end
def RO.pure:RO->Bool
 |.val _=>true
 |.callO .. => true
 |.bsl .. => true
 |.call _ _=>true
 |.usd _=>true
 |_=>false
def RO.mc:RO->MC
 |.val v=>v.mc
 |.call _ _=>.rows
 |.callO .. => .rows
 |.usd _=>.rows
 |.bsl .. => .no
 |_=>.all
section
variable {P:Program}
def Nd (P:Program)(op:RO)(st:St)(x:AV):Prop :=
 match op with
 |.val vo=>Qz st.f st.m vo=some x
 |.call f args=>∃k fa fb ys,f.ev st.f=.fn (.func k) fa fb/\AV.stillL false st.m (fa++args.map (RA.ev st.f)++fb)=some ys/\AV.rfL ys=true/\Qi P k ys x/\x.rf=true/\(AV.rfL (fa++args.map (RA.ev st.f)++fb)=true\/x.nl=true)
 |.callO l s f args=>∃k fa fb g z xs,f.ev st.f=.fn (.func k) fa fb/\Qc st.m l s=.vec g z xs/\∀m',Qc m' l s=.vec g z xs->Qf P k (fa++args.map (RA.ev st.f)++fb) m' (λy m1=>y=x/\m1=m')
 |_=>False
def ZH (P:Program)(op:RO)(st:St)(x:AV)(m:Qk):Prop :=
 match op with
 |.val vo=>Qz st.f st.m vo=some x/\m=st.m
 |.call f args=>Nd P (.call f args) st x/\m=st.m
 |.callO l s f args=>Nd P (.callO l s f args) st x/\m=st.m
 |.allocN s z=>ZB st.m s=true/\x=.ptr 0 s 0/\m=Am.put st.m 0 s (.cells z)
 |.boxN s r=>ZB st.m s=true/\(r.ev st.f).cells.all AV.leaf=true/\x=.ptr 0 s 0/\m=Am.put st.m 0 s (.cells (r.ev st.f).cells)
 |.store n p r=>(r.ev st.f).cells.length=n/\(r.ev st.f).cells.all AV.leaf=true/\XA st.m (p.ev st.f) (r.ev st.f).cells=some m/\x=.tup []
 |.storev l s n p r=>(∃o,p.ev st.f=.ptr l s o)/\(r.ev st.f).cells.length=n/\(r.ev st.f).cells.all AV.leaf=true/\XA st.m (p.ev st.f) (r.ev st.f).cells=some m/\x=.tup []
 |.app sz bytes el s r=>∃l site g n xs ys,s.ev st.f=.vec l site g 0 n false/\Qc st.m l site=.vec g sz xs/\Zv site el=true/\n<=xs.length/\Xc st.m (r.ev st.f)=some ys/\ys.all (λe=>e.cells.length==sz)=true/\n+ys.length<=maxLen/\(n+ys.length)*bytes<=140737488355328/\
   x=.vec l site (g+1) 0 (n+ys.length) false/\m=Am.put st.m l site (.vec (g+1) sz (xs.take n++ys))
 |.bsl sz len z ps=>(∃y,fill st.f ps (Zj z sz len)=some y/\AV.rfL y=true/\y.all AV.leaf=true/\x=.list (ZG sz len (y.map nn0)))/\m=st.m
 |.bslv site sz len z ps=>∃y,fill st.f ps (Zj z sz len)=some y/\AV.rfL y=true/\y.all AV.leaf=true/\Qn (Qc st.m 0 site)=true/\x=.vec 0 site (QB st.m 0 site) 0 len false/\m=Am.put st.m 0 site (.vec (QB st.m 0 site) sz (ZG sz len (y.map nn0)))
 |.bsl0 site sz=>Qn (Qc st.m 0 site)=true/\x=.vec 0 site (QB st.m 0 site) 0 0 false/\m=Am.put st.m 0 site (.vec (QB st.m 0 site) sz [])
 |.appc site sz bytes _ s r=>∃xs ys,s.ev st.f=.lcap xs/\Xc st.m (r.ev st.f)=some ys/\ys≠[]/\xs.all (λe=>e.cells.length==sz)=true/\ys.all (λe=>e.cells.length==sz)=true/\xs.length+ys.length<=maxLen/\(xs.length+ys.length)*bytes<=140737488355328/\Qn (Qc st.m 0 site)=true/\
   x=.vec 0 site (QB st.m 0 site) 0 (xs.length+ys.length) false/\m=Am.put st.m 0 site (.vec (QB st.m 0 site) sz (xs++ys))
 |.callF f args=>∃k fa fb,f.ev st.f=.fn (.func k) fa fb/\Qf P k (fa++args.map (RA.ev st.f)++fb) st.m (λy m'=>y=x/\m'=m)
 |.callK l s f args=>∃k fa fb,f.ev st.f=.fn (.func k) fa fb/\Qf P k (fa++args.map (RA.ev st.f)++fb) st.m (λy m'=>y=x/\m'=m)/\Qc m l s=Qc st.m l s
 |.usd r=>(∃l s g n sz xs,2000<=s/\r.ev st.f=.vec l s g 0 n false/\Qc st.m l s=.vec g sz xs/\x=(if n=0 then .anyp else .vptr l s g 0 0))/\m=st.m
 |.ustr el p r=>(p.ev st.f=.anyp/\r.ev st.f=.int .i64 0/\x=.str []/\m=st.m)\/
   ∃l g n xs s,p.ev st.f=.vptr l (el+2000) g 0 0/\r.ev st.f=.int .i64 ((n:Nat):Int)/\Qc st.m l (el+2000)=.vec g 1 xs/\n<=xs.length/\n≠0/\xs.take n=Qy s/\x=.str s/\m=Am.put st.m l (el+2000) (.vec (g+1) 1 [])
 |_=>False
def RO.keeps:RO->Bool
 |.appS .. => false
 |.mk .. => false
 |.s2b .. => false
 |.isnil .. => false
 |.callG .. => false
 |.xb .. => false
 |.rngs .. => false
 |.nxts .. => false
 |.mkm .. => false
 |.mput .. => false
 |.clr .. => false
 |_=>true
theorem Mv {d:Option Nat}{op:RO}{st:St}{K:St->Prop}(hk:op.keeps=true):De P d op st K↔∃x m,ZH P op st x m/\K { st with m:=m,f:=Ql st.f d x }:=by
 cases op<;>simp only[RO.keeps,Qnu]at hk<;>simp only[De,ZH,Nd]
 case val=>exact⟨λ⟨x,h,k⟩=>⟨x,_,⟨h,rfl⟩,k⟩,λ⟨x,m,⟨h,e⟩,k⟩=>by subst e;exact⟨x,h,k⟩⟩
 case allocN=>exact⟨λ⟨h,k⟩=>⟨_,_,⟨h,rfl,rfl⟩,k⟩,λ⟨x,m,⟨h,e,e'⟩,k⟩=>by subst e e';exact⟨h,k⟩⟩
 case boxN=>exact⟨λ⟨h,h',k⟩=>⟨_,_,⟨h,h',rfl,rfl⟩,k⟩,λ⟨x,m,⟨h,h',e,e'⟩,k⟩=>by subst e e';exact⟨h,h',k⟩⟩
 case store=>exact⟨λ⟨h1,h2,m',h3,k⟩=>⟨_,m',⟨h1,h2,h3,rfl⟩,k⟩,λ⟨x,m,⟨h1,h2,h3,e⟩,k⟩=>by subst e;exact⟨h1,h2,m,h3,k⟩⟩
 case storev=>exact⟨λ⟨h0,h1,h2,m',h3,k⟩=>⟨_,m',⟨h0,h1,h2,h3,rfl⟩,k⟩,λ⟨x,m,⟨h0,h1,h2,h3,e⟩,k⟩=>by subst e;exact⟨h0,h1,h2,m,h3,k⟩⟩
 case app=>exact⟨λ⟨l,site,g,n,xs,ys,h1,h2,ht,h3,h4,h5,h6,h7,k⟩=>⟨_,_,⟨l,site,g,n,xs,ys,h1,h2,ht,h3,h4,h5,h6,h7,rfl,rfl⟩,k⟩,λ⟨x,m,⟨l,site,g,n,xs,ys,h1,h2,ht,h3,h4,h5,h6,h7,e,e'⟩,k⟩=>by subst e e';exact⟨l,site,g,n,xs,ys,h1,h2,ht,h3,h4,h5,h6,h7,k⟩⟩
 case call=>exact⟨λ⟨k,fa,fb,ys,v,h1,h2,h3,h4,h5,h6,kk⟩=>⟨v,_,⟨⟨k,fa,fb,ys,h1,h2,h3,h4,h5,h6⟩,rfl⟩,kk⟩,λ⟨x,m,⟨⟨k,fa,fb,ys,h1,h2,h3,h4,h5,h6⟩,e⟩,kk⟩=>by subst e;exact⟨k,fa,fb,ys,x,h1,h2,h3,h4,h5,h6,kk⟩⟩
 case usd=>exact⟨λ⟨l,s,g,n,sz,xs,h0,h1,h2,k⟩=>⟨_,_,⟨⟨l,s,g,n,sz,xs,h0,h1,h2,rfl⟩,rfl⟩,k⟩,λ⟨x,m,⟨⟨l,s,g,n,sz,xs,h0,h1,h2,e⟩,e'⟩,k⟩=>by subst e e';exact⟨l,s,g,n,sz,xs,h0,h1,h2,k⟩⟩
 case ustr=>
  constructor
  ·rintro(⟨h1,h2,k⟩|⟨l,g,n,xs,s,h1,h2,h3,h4,h5,h6,k⟩)
   ·exact⟨_,_,.inl ⟨h1,h2,rfl,rfl⟩,k⟩
   ·exact⟨_,_,.inr ⟨l,g,n,xs,s,h1,h2,h3,h4,h5,h6,rfl,rfl⟩,k⟩
  ·rintro⟨x,m,⟨h1,h2,e,e'⟩|⟨l,g,n,xs,s,h1,h2,h3,h4,h5,h6,e,e'⟩,k⟩
   ·subst e e';exact .inl ⟨h1,h2,k⟩
   ·subst e e';exact .inr ⟨l,g,n,xs,s,h1,h2,h3,h4,h5,h6,k⟩
 case bsl=>exact⟨λ⟨y,h1,h2,h3,k⟩=>⟨_,_,⟨⟨y,h1,h2,h3,rfl⟩,rfl⟩,k⟩,λ⟨x,m,⟨⟨y,h1,h2,h3,e⟩,e'⟩,k⟩=>by subst e e';exact⟨y,h1,h2,h3,k⟩⟩
 case bslv=>exact⟨λ⟨y,h1,h2,h3,h4,k⟩=>⟨_,_,⟨y,h1,h2,h3,h4,rfl,rfl⟩,k⟩,λ⟨x,m,⟨y,h1,h2,h3,h4,e,e'⟩,k⟩=>by subst e e';exact⟨y,h1,h2,h3,h4,k⟩⟩
 case bsl0=>exact⟨λ⟨h1,k⟩=>⟨_,_,⟨h1,rfl,rfl⟩,k⟩,λ⟨x,m,⟨h1,e,e'⟩,k⟩=>by subst e e';exact⟨h1,k⟩⟩
 case appc=>exact⟨λ⟨xs,ys,h1,h2,h3,h4,h5,h6,h7,h8,k⟩=>⟨_,_,⟨xs,ys,h1,h2,h3,h4,h5,h6,h7,h8,rfl,rfl⟩,k⟩,λ⟨x,m,⟨xs,ys,h1,h2,h3,h4,h5,h6,h7,h8,e,e'⟩,k⟩=>by subst e e';exact⟨xs,ys,h1,h2,h3,h4,h5,h6,h7,h8,k⟩⟩
 case callK=>exact⟨λ⟨k,fa,fb,v,m',h1,h2,h3,kk⟩=>⟨v,m',⟨k,fa,fb,h1,h2,h3⟩,kk⟩,λ⟨x,m,⟨k,fa,fb,h1,h2,h3⟩,kk⟩=>⟨k,fa,fb,x,m,h1,h2,h3,kk⟩⟩
 case callO=>exact⟨λ⟨k,fa,fb,g,z,xs,v,h1,h2,h3,kk⟩=>⟨v,_,⟨⟨k,fa,fb,g,z,xs,h1,h2,h3⟩,rfl⟩,kk⟩,λ⟨x,m,⟨⟨k,fa,fb,g,z,xs,h1,h2,h3⟩,e⟩,kk⟩=>by subst e;exact⟨k,fa,fb,g,z,xs,x,h1,h2,h3,kk⟩⟩
 case callF=>exact⟨λ⟨k,fa,fb,v,m',h1,h2,kk⟩=>⟨v,m',⟨k,fa,fb,h1,h2⟩,kk⟩,λ⟨x,m,⟨k,fa,fb,h1,h2⟩,kk⟩=>⟨k,fa,fb,x,m,h1,h2,kk⟩⟩
def JT (P:Program)(it:Item)(st:St)(x:AV)(m:Qk):Prop :=
 match it.g with
 |none=>ZH P it.op st x m
 |some (j,want)=>match st.f j with
  |.bool b=>(b=want/\ZH P it.op st x m)\/(b=(!want)/\x=.tup []/\m=st.m)
  |.tup l=>l=[]/\x=.tup []/\m=st.m
  |_=>False
theorem Wm {it:Item}{st:St}{K:St->Prop}(hk:it.op.keeps=true):Z5 P it st K↔∃x m,JT P it st x m/\K { st with m:=m,f:=Ql st.f it.dst x }:=by
 obtain⟨d,op,g⟩:=it;cases g with
 |none=>exact Mv hk
 |some p=>
  obtain⟨j,want⟩:=p;simp only[Z5,JT];cases hj:st.f j with
  |bool b=>
   simp only;rw[Mv hk]
   constructor
   ·intro⟨h1,h2⟩;by_cases hb:b=want
    ·obtain⟨x,m,h,k⟩:=h1 hb;exact⟨x,m,.inl ⟨hb,h⟩,k⟩
    ·have eN:b=!want:=by cases b<;>cases want<;>first|rfl|exact absurd rfl hb
     exact⟨_,_,.inr ⟨eN,rfl,rfl⟩,h2 eN⟩
   ·rintro⟨x,m,⟨hb,h⟩|⟨hb,rfl,rfl⟩,k⟩
    ·exact⟨λ_=>⟨x,m,h,k⟩,λe=>by rw[hb]at e;cases want<;>cases e⟩
    ·exact⟨λe=>(by rw[hb]at e;cases want<;>cases e),λ_=>k⟩
  |tup l=>
   constructor
   ·rintro⟨h,k⟩;exact⟨_,_,⟨h,rfl,rfl⟩,k⟩
   ·rintro⟨x,m,⟨h,rfl,rfl⟩,k⟩;exact⟨h,k⟩
  |_=>exact⟨λh=>h.elim,λ⟨_,_,h,_⟩=>h.elim⟩
theorem Nf {op:RO}{f f':Fr}{m m':Qk}{ds ds':List DF}{x:AV}(h:J2 op.sl f f')(k:ZH P op ⟨f,m,ds⟩ x m'):ZH P op ⟨f',m,ds'⟩ x m':=by
 cases op with
 |val vo=>simp only[ZH,Qak (vo:=vo) h]at k |-;exact k
 |call g args=>simp only[ZH,Nd,RA.ev_same (r:=g) h.left,WP (rs:=args) h.right]at k |-;exact k
 |callK l s g args=>simp only[ZH,RA.ev_same (r:=g) h.left,WP (rs:=args) h.right]at k |-;exact k
 |callO l s g args=>simp only[ZH,Nd,RA.ev_same (r:=g) h.left,WP (rs:=args) h.right]at k |-;exact k
 |callF g args=>simp only[ZH,RA.ev_same (r:=g) h.left,WP (rs:=args) h.right]at k |-;exact k
 |allocN s z=>exact k
 |boxN s r=>simp only[ZH,RA.ev_same (r:=r) h]at k |-;exact k
 |store n p r=>simp only[ZH,RA.ev_same (r:=p) h.left,RA.ev_same (r:=r) h.right]at k |-;exact k
 |storev l s n p r=>simp only[ZH,RA.ev_same (r:=p) h.left,RA.ev_same (r:=r) h.right]at k |-;exact k
 |usd r=>simp only[ZH,RA.ev_same (r:=r) h]at k |-;exact k
 |ustr el p r=>simp only[ZH,RA.ev_same (r:=p) h.left,RA.ev_same (r:=r) h.right]at k |-;exact k
 |app sz bytes el s r=>simp only[ZH,RA.ev_same (r:=s) h.left,RA.ev_same (r:=r) h.right]at k |-;exact k
 |appc site sz bytes el s r=>simp only[ZH,RA.ev_same (r:=s) h.left,RA.ev_same (r:=r) h.right]at k |-;exact k
 |bsl sz len z ps=>simp only[ZH,Hc (ps:=ps) h]at k |-;exact k
 |bslv site sz len z ps=>simp only[ZH,Hc (ps:=ps) h]at k |-;exact k
 |bsl0 site sz=>exact k
 |_=>exact k.elim
theorem Uk {it:Item}{f f':Fr}{m m':Qk}{ds ds':List DF}{x:AV}(h:J2 it.sl f f')(k:JT P it ⟨f,m,ds⟩ x m'):JT P it ⟨f',m,ds'⟩ x m':=by
 obtain⟨d,op,g⟩:=it;cases g with
 |none=>exact Nf (J2.left h) k
 |some p=>
  obtain⟨j,want⟩:=p;have hj:f j=f' j:=(J2.right h) j ό;simp only[JT]at k |-;rw[<-hj];cases he:f j with
  |bool b=>rw[he]at k;exact k.imp (λh1=>⟨h1.1,Nf (J2.left h) h1.2⟩) id
  |tup l=>rw[he]at k;exact k
  |_=>rw[he]at k;exact k
theorem Mw {op:RO}(hp:op.pure=true){f:Fr}{m m' m1:Qk}{ds ds':List DF}{x:AV}(h:X9 op.mc m m')(k:ZH P op ⟨f,m,ds⟩ x m1):m1=m/\ZH P op ⟨f,m',ds'⟩ x m':=by
 cases op with
 |bsl sz len z ps=>obtain⟨k,e⟩:=k;exact⟨e,k,rfl⟩
 |val vo=>obtain⟨k,e⟩:=k;exact⟨e,by rw[<-Qdm (f:=f) h];exact k,rfl⟩
 |call g args=>
  obtain⟨⟨k,fa,fb,ys,h1,h2,h3,h4,h5,h6⟩,e⟩:=k;refine⟨e,⟨k,fa,fb,ys,h1,?_,h3,h4,h5,h6⟩,rfl⟩;rw[<-YR h];exact h2
 |callO l s g args=>
  obtain⟨⟨k,fa,fb,g,z,xs,h1,h2,h3⟩,e⟩:=k;refine⟨e,⟨k,fa,fb,g,z,xs,h1,?_,h3⟩,rfl⟩;have h4:(Qc m l s).row=(Qc m' l s).row:=h l s;have h2:Qc m l s=.vec g z xs:=h2;show Qc m' l s=.vec g z xs;rw[h2]at h4;cases hl:Qc m' l s with
  |vec g' eG tz=>rw[hl]at h4;simp only[Ob.row,QnC,QoI]at h4;obtain⟨rfl,rfl,rfl⟩:=h4;rfl
  |none=>rw[hl]at h4;cases h4
  |cells _=>rw[hl]at h4;cases h4
  |iter _ _=>rw[hl]at h4;cases h4
 |usd r=>
  obtain⟨⟨l,s,g,n,sz,xs,h0,h1,h2,h3⟩,e⟩:=k;refine⟨e,⟨l,s,g,n,sz,xs,h0,h1,?_,h3⟩,rfl⟩;have h4:(Qc m l s).row=(Qc m' l s).row:=h l s;have h2:Qc m l s=.vec g sz xs:=h2;show Qc m' l s=.vec g sz xs;rw[h2]at h4;cases hl:Qc m' l s with
  |vec g' eG tz=>rw[hl]at h4;simp only[Ob.row,QnC,QoI]at h4;obtain⟨rfl,rfl,rfl⟩:=h4;rfl
  |none=>rw[hl]at h4;cases h4
  |cells _=>rw[hl]at h4;cases h4
  |iter _ _=>rw[hl]at h4;cases h4
 |_=>cases hp
theorem Dr {it:Item}(hp:it.op.pure=true){f:Fr}{m m' m1:Qk}{ds ds':List DF}{x:AV}(h:X9 it.op.mc m m')(k:JT P it ⟨f,m,ds⟩ x m1):m1=m/\JT P it ⟨f,m',ds'⟩ x m':=by
 obtain⟨d,op,g⟩:=it;cases g with
 |none=>exact Mw hp h k
 |some p=>
  obtain⟨j,want⟩:=p;simp only[JT]at k |-;cases he:f j with
  |bool b=>
   rw[he]at k;rcases k with⟨h1,k⟩|⟨h1,h2,h3⟩
   ·obtain⟨a,b⟩:=Mw hp h k;exact⟨a,.inl ⟨h1,b⟩⟩
   ·exact⟨h3,.inr ⟨h1,h2,trivial⟩⟩
  |tup l=>rw[he]at k;exact⟨k.2.2,k.1,k.2.1,trivial⟩
  |_=>rw[he]at k;exact k.elim
def RO.lets (op:RO)(c:MC):Bool :=
 match op with
 |.val _=>true
 |.call _ _=>true
 |.callO .. => true
 |.store .. => c == .no||c == .shape
 |.storev l s _ _ _=>match c with
  |.cell l' s'=>l' != l||s' != s
  |.outer=>l==0
  |.all=>false
  |_=>true
 |.allocN s _=>match c with
  |.cell l' s'=>l' != 0||s' != s
  |.all=>false
  |_=>true
 |.boxN s _=>match c with
  |.cell l' s'=>l' != 0||s' != s
  |.all=>false
  |_=>true
 |.app .. => match c with
  |.no=>true
  |.cell _ _=>true
  |_=>false
 |.bsl .. => true
 |.bslv s _ _ _ _=>match c with
  |.no=>true
  |.cell l' s'=>l' != 0||s' != s
  |.outer=>true
  |_=>false
 |.bsl0 s _=>match c with
  |.no=>true
  |.cell l' s'=>l' != 0||s' != s
  |.outer=>true
  |_=>false
 |.appc s _ _ _ _ _=>match c with
  |.no=>true
  |.cell l' s'=>l' != 0||s' != s
  |.outer=>true
  |_=>false
 |.callF .. => c == .no
 |.callK l s _ _=>match c with
  |.no=>true
  |.cell l' s'=>l'==l&&s'==s
  |_=>false
 |.usd _=>true
 |.ustr .. => c == .no
 |_=>false
theorem HB {m:Qk}{l s:Nat}{o o':Ob}(hl:Qc m l s=o)(ho:o.row=none)(eM:o'.row=none)(aa:l<m.length){c:MC}(hc:match c with
  |.cell l' s'=>(l' != l||s' != s)=true
  |.outer=>(l==0)=true
  |.all=>False
  |_=>True):X9 c m (Am.put m l s o'):=by
 have key:∀l' s',(l'=l/\s'=s)\/Qc (Am.put m l s o') l' s'=Qc m l' s':=by
  intro l' s';by_cases hh:l'=l/\s'=s
  ·exact .inl hh
  ·exact .inr (QG ψ)
 have ko:∀ {x:Ob},x.row=none->x.sh=none:=by intro x;cases x<;>simp[Ob.row,Ob.sh]
 cases c with
 |no=>trivial
 |shape=>
  intro l' s';rcases key l' s' with⟨rfl,rfl⟩|e
  ·rw[Qt aa,hl,ko ho,ko eM]
  ·rw[e]
 |rows=>
  intro l' s';rcases key l' s' with⟨rfl,rfl⟩|e
  ·rw[Qt aa,hl,ho,eM]
  ·rw[e]
 |cell l' s'=>
  show Qc m l' s'=Qc _ l' s'\/_;rcases key l' s' with⟨rfl,rfl⟩|e
  ·simp at hc
  ·exact .inl e.symm
 |outer=>
  intro l' s';have hc:l=0:=Ņ
  exact(QG ψ).symm
 |all=>exact hc.elim
theorem Ey {m:Qk}{s:Nat}(h:ZB m s=true):Qc m 0 s=.none:=by
 unfold ZB at h;split at h
 ·assumption
 ·cases h
end
def X9.symm {c:MC}{m m':Qk}(h:X9 c m m'):X9 c m' m:=by
 cases c with
 |no=>trivial
 |shape=>exactλl s=>(h l s).symm
 |rows=>exactλl s=>(h l s).symm
 |cell l s=>exact Or.imp Eq.symm And.symm h
 |outer=>exactλl s=>(h l s).symm
 |all=>exact Eq.symm h
def Mx {m m':Qk}{p:AV}{ys:List AV}(h:XA m p ys=some m'):X9 .shape m m':=by
 cases p with
 |ptr l s o=>
  simp only[XA]at h;split at h
  ·rename_i xs ar;split at h
   ·split at h
    ·cases h;exact HB (c:=.shape) ar rfl rfl (Xy đ) trivial
    ·cases h
   ·cases h
  ·cases h
 |vptr l s g i o=>
  simp only[XA]at h;split at h
  ·rename_i g' sz xs ar;split at h
   ·rename_i hg;subst hg;split at h
    ·split at h
     ·cases h;intro l' s';by_cases hh:l'=l/\s'=s
      ·obtain⟨rfl,rfl⟩:=hh;rw[Qt (Xy đ),ar];rfl
      ·rw[QG ψ]
     ·cases h
    ·cases h
   ·cases h
  ·cases h
 |_=>simp[XA]at h
section
variable {P:Program}{N:Nat}
theorem My {m:Qk}{s:Nat}{xs:List AV}(h:ZB m s=true){c:MC}(hc:match c with
  |.cell l' s'=>(l' != 0||s' != s)=true
  |.all=>False
  |_=>True):X9 c m (Am.put m 0 s (.cells xs)):=by
 cases m with
 |nil=>exact X9.refl c _
 |cons fr m=>exact HB (Ey h) rfl rfl ό (by cases c<;>first|exact hc|rfl)
theorem Ng {op:RO}{c:MC}(hc:op.lets c=true){st:St}{x:AV}{m:Qk}(h:ZH P op st x m):X9 c st.m m:=by
 cases op with
 |val vo=>rw[h.2];exact X9.refl c _
 |call f args=>rw[h.2];exact X9.refl c _
 |callO l s f args=>rw[h.2];exact X9.refl c _
 |usd r=>rw[h.2];exact X9.refl c _
 |callK l s f args=>
  obtain⟨_,_,_,_,_,he⟩:=h;cases c with
  |no=>trivial
  |cell l' s'=>
   simp only[RO.lets,Qnz,Qng]at hc;obtain⟨rfl,rfl⟩:=hc;exact .inl he.symm
  |_=>simp[RO.lets]at hc
 |ustr el p r=>
  simp only[RO.lets,Qng]at hc;subst hc;trivial
 |store n p r=>
  simp only[RO.lets,Qne,Qng]at hc;rcases hc with rfl|rfl
  ·trivial
  ·exact Mx h.2.2.1
 |storev l s n p r=>
  obtain⟨⟨o,ho⟩,h1,h2,h3,h4⟩:=h;rw[ho]at h3;simp only[XA]at h3;split at h3
  ·rename_i xs ar;split at h3
   ·split at h3
    ·cases h3;refine HB ar rfl rfl (Xy đ) ?_;exact Do
    ·cases h3
   ·cases h3
  ·cases h3
 |allocN s z=>
  rw[h.2.2];refine My h.1 ?_;exact Do
 |boxN s r=>
  rw[h.2.2.2];refine My h.1 ?_;exact Do
 |app sz bytes el s r=>
  obtain⟨l,site,g,n,xs,ys,_,ar,_,_,_,_,_,_,_,rfl⟩:=h;cases c with
  |no=>trivial
  |cell l' s'=>
   show Qc st.m l' s'=Qc _ l' s'\/_;by_cases hh:l'=l/\s'=site
   ·obtain⟨rfl,rfl⟩:=hh;refine .inr ⟨Ĵ,?_⟩;rw[Qt (Xy đ)];rfl
   ·exact .inl (QG ψ).symm
  |_=>simp[RO.lets]at hc
 |bsl sz len z ps=>rw[h.2];exact X9.refl c _
 |bslv site sz len z ps=>
  obtain⟨y,_,_,_,_,_,rfl⟩:=h;cases c with
  |no=>trivial
  |cell l' s'=>
   exact Oq
  |outer=>exactλl' s'=>(QG (.inl (Nat.succ_ne_zero l'))).symm
  |_=>simp[RO.lets]at hc
 |bsl0 site sz=>
  obtain⟨_,_,rfl⟩:=h;cases c with
  |no=>trivial
  |cell l' s'=>
   exact Oq
  |outer=>exactλl' s'=>(QG (.inl (Nat.succ_ne_zero l'))).symm
  |_=>simp[RO.lets]at hc
 |appc site sz bytes el s r=>
  obtain⟨xs,ys,_,_,_,_,_,_,_,_,_,rfl⟩:=h;cases c with
  |no=>trivial
  |cell l' s'=>
   exact Oq
  |outer=>exactλl' s'=>(QG (.inl (Nat.succ_ne_zero l'))).symm
  |_=>simp[RO.lets]at hc
 |callF f args=>
  simp only[RO.lets,Qng]at hc;subst hc;trivial
 |_=>exact h.elim
theorem Nh {it:Item}{c:MC}(hc:it.op.lets c=true){st:St}{x:AV}{m:Qk}(h:JT P it st x m):X9 c st.m m:=by
 obtain⟨d,op,g⟩:=it;cases g with
 |none=>exact Ng hc h
 |some p=>
  obtain⟨j,want⟩:=p;simp only[JT]at h;cases he:st.f j with
  |bool b=>
   rw[he]at h;rcases h with⟨_,h⟩|⟨_,_,h⟩
   ·exact Ng hc h
   ·rw[h];exact X9.refl c _
  |tup l=>rw[he]at h;rw[h.2.2];exact X9.refl c _
  |_=>rw[he]at h;exact h.elim
def Fh (a b:Item):Bool :=
  (match a.dst with
   |some d=>!(b.sl.contains d)&&b.dst != some d
   |none=>true) &&
  (match b.dst with
   |some d=>!(a.sl.contains d)
   |none=>true)
def Mz (a b:Item):Bool :=
 match a.op,b.op,a.g,b.g with
 |.allocN s _,.allocN t _,none,none=>s != t
 |_,_,_,_=>false
def Fi (a b:Item):Bool :=
 a.op.keeps&&b.op.keeps&&Fh a b&&((a.op.pure&&b.op.lets a.op.mc)||(b.op.pure&&a.op.lets b.op.mc)||Mz a b)
theorem MA {m:Qk}{s t:Nat}{o:Ob}(h:s≠t):ZB (Am.put m 0 s o) t=ZB m t:=by
 unfold ZB;rw[QG (.inr (Ne.symm h))]
theorem Qam {m:Qk}{s t:Nat}{o q:Ob}(h:s≠t):Am.put (Am.put m 0 s o) 0 t q=Am.put (Am.put m 0 t q) 0 s o:=by
 cases m with
 |nil=>rfl
 |cons fr m=>
  simp only[Am.put];congr 1
  funext i;by_cases h1:i=t
  ·subst h1;rw[Q6,Xe _ _ (Ne.symm h),Q6]
  ·rw[Xe _ _ h1];by_cases h2:i=s
   ·subst h2;rw[Q6,Q6]
   ·rw[Xe _ _ h2,Xe _ _ h2,Xe _ _ h1]
theorem R9 {a b:Item}(h:Mz a b=true){st:St}{f:Fr}{x y:AV}{m m2:Qk}(ga:JT P a st x m)(gb:JT P b { st with m:=m,f:=f } y m2) :
  ∃m1,JT P b st y m1/\∀f',JT P a { st with m:=m1,f:=f' } x m2:=by
 obtain⟨da,oa,qX⟩:=a;obtain⟨db,ob,nk⟩:=b;unfold Mz at h;dsimp only at h;split at h
 ·rename_i s z t w;have aq:s≠t:=ϡ
  obtain⟨h1,rfl,rfl⟩:=ga;obtain⟨h2,rfl,rfl⟩:=gb;dsimp only at h2;rw[MA aq]at h2;refine⟨_,⟨h2,rfl,rfl⟩,λf'=>⟨?_,rfl,?_⟩⟩
  ·dsimp only;rw[MA (Ne.symm aq)];exact h1
  ·exact Qam aq
 ·cases h
theorem V8 {l:List Nat}{f:Fr}{d:Option Nat}{x:AV}(h:∀k,d=some k->k∉l):J2 l f (Ql f d x):=by
 intro t ht;cases d with
 |none=>rfl
 |some k=>
  have:t≠k:=λe=>h k rfl (e▸ht)
  show f t=QL f k x t;rw[Xe _ _ this]
theorem EA {f:Fr}{d e:Option Nat}{x y:AV}(h:∀k,d=some k->e≠some k):Ql (Ql f d x) e y=Ql (Ql f e y) d x:=by
 cases d with
 |none=>rfl
 |some d=>
  cases e with
  |none=>rfl
  |some e=>
   have aq:d≠e:=λhh=>h d rfl (hh▸rfl)
   funext i;show QL (QL f d x) e y i=QL (QL f e y) d x i;by_cases h1:i=e
   ·subst h1;rw[Q6,Xe _ _ (Ne.symm aq),Q6]
   ·rw[Xe _ _ h1];by_cases h2:i=d
    ·subst h2;rw[Q6,Q6]
    ·rw[Xe _ _ h2,Xe _ _ h2,Xe _ _ h1]
theorem T0 {a b:Item}(h:Fh a b=true):(∀k,a.dst=some k->k∉b.sl)/\(∀k,a.dst=some k->b.dst≠some k)/\(∀k,b.dst=some k->k∉a.sl):=by
 unfold Fh at h;simp only[Qnz]at h;refine⟨λk e=>?_,λk e=>?_,λk e=>?_⟩
 ·have:=h.1;rw[e]at this;simp at this;exact this.1
 ·have:=h.1;rw[e]at this;simp at this;exact this.2
 ·have:=h.2;rw[e]at this;simpa using this
theorem T1 {a b:Item}(h:Fi a b=true){st:St}{K:St->Prop}(k:Z5 P a st λs=>Z5 P b s K):Z5 P b st λs=>Z5 P a s K:=by
 unfold Fi at h;simp only[Qnz,Qne]at h;obtain⟨⟨⟨ka,kb⟩,wD⟩,ku⟩:=h;obtain⟨h1,h2,h3⟩:=T0 wD;rw[Wm ka]at k;obtain⟨x,m,ga,k⟩:=k;rw[Wm kb]at k;obtain⟨y,m2,gb,k⟩:=k;rw[Wm kb];have ma:∀f:Fr,J2 b.sl f (Ql f a.dst x):=λf=>V8 h1
 have qI:∀f:Fr,J2 a.sl f (Ql f b.dst y):=λf=>V8 h3
 have qa:∀ {l f f'},J2 l f f'->J2 l f' f:=λh t ht=>(h t ht).symm
 have hK:K { st with m:=m2,f:=Ql (Ql st.f b.dst y) a.dst x }:=by
  rw[<-EA h2];exact k
 rcases ku with(⟨pa,lb⟩|⟨pb,la⟩)|hf
 ·have e:m=st.m:=(Dr (m':=st.m) (ds':=st.ds) pa (X9.refl _ _) ga).1;subst e;have nk:JT P b st y m2:=Uk (qa (ma st.f)) gb;refine⟨y,m2,nk,?_⟩;rw[Wm ka];have qX:JT P a { st with m:=m2 } x m2:=(Dr pa (Nh lb nk) ga).2;exact⟨x,m2,Uk (qI st.f) qX,hK⟩
 ·have td:=Nh la ga;obtain⟨e,wE⟩:=Dr (m':=st.m) (ds':=st.ds) pb td.symm gb;have e:m2=m:=e;subst e;have nk:JT P b st y st.m:=Uk (qa (ma st.f)) wE;refine⟨y,st.m,nk,?_⟩;rw[Wm ka];exact⟨x,m2,Uk (qI st.f) ga,hK⟩
 ·obtain⟨m1,nk,qX⟩:=R9 hf ga gb;refine⟨y,m1,nk,?_⟩;rw[Wm ka];exact⟨x,m2,qX _,hK⟩
theorem EB {ops:Array Oper}{o:Oper}{i:Nat}(hi:ops[i]? = some o){it:Item}(hc:Dm P N ops o it=true){st:St}{K:St->Prop}(h:Z5 P it st K){G:Gh}{B:Nat}{a:Act}{w:World}(hr:Rel G B N st a w){KK:Act->World->Prop}{QQ:Exit->Act->World->Prop}
  (hk:∀G' ai a' w',K ai->Rel G' B N ai a' w'->Ext 1 G w G' w'->KK a' w'):wpOp P ops QQ i KK a w:=by
 have h1:QA P N [it] st K:=Mq (Gm (λ_ hs=>QA.nil hs) h);have h2:=h1 ops [o] (by simp[Jb,hc]) G B a w hr (λe a w=>match e with
  |.normal=>KK a w
  |e=>QQ e a w) (λG' ai a' w' h1 h2 h3=>hk G' ai a' w' h1 h2 h3)
 unfold wpOp;simp only[hi];unfold wpList at h2;split
 ·rename_i hw;rw[Qnj hw]at h2;rcases h2 with h2|h2
  ·left
   unfold Oper.wp at h2 |-;generalize (execOp a.eval o).run P w=r at h2 |-;cases r with
   |ok n w'=>
    cases n<;>simp only[Oper.upon]at h2 |-<;>first
     |exact h2
     |exact Calls.mono h2 (λe w'' he=>by cases e<;>exact he)
   |halt x w'=>cases x<;>simp only[Oper.upon]at h2 |-<;>exact h2
  ·exact .inr h2
 ·rename_i hw;rw[Qni hw]at h2;exact h2
def Y9:Item:=⟨none,.val (.mov (.c .top)),none⟩
def Gn (its:List Item)(l:List Nat):List Item:=l.map λi=>its.getD i Y9
theorem EC {its:List Item}{i:Nat}{post:List Nat}{Q:St->Prop}:∀ {pre:List Nat} {st:St},(∀p,p∈pre->Fi (its.getD p Y9) (its.getD i Y9)=true)->
  QF P (Gn its (pre++i :: post)) st Q->Z5 P (its.getD i Y9) st λs=>QF P (Gn its (pre++post)) s Q
 | [],_,_,h=>h
 |p :: pre,st,hp,h=>by
  have h':Z5 P (its.getD p Y9) st λs=>QF P (Gn its (pre++i :: post)) s Q:=h
  have h2:=Gm (λs hs=>EC (λq hq=>hp q (Qnr _ hq)) hs) h';exact T1 (hp p (Qnt ..)) h2
inductive Bef (ops:Array Oper):Nat->Nat->Prop
 |one {i:Nat} {o:Oper} {e:Edge} (ho:ops[i]? = some o) (he:e∈o.after) (hb:Region.binds .any e=true):Bef ops e.on i
 |more {i p:Nat} {o:Oper} {e:Edge} (ho:ops[i]? = some o) (he:e∈o.after) (hb:Region.binds .any e=true) (h:Bef ops p e.on):Bef ops p i
def T2 (acc:List Nat)(m:Nat)(e:Edge):Nat:=if Region.binds .any e then(m ||| 2 ^ e.on) ||| acc.getD e.on 0 else m
def ED (acc:List Nat)(o:Oper):Nat:=o.after.toList.foldl (T2 acc) 0
def T3:List Oper->List Nat->List Nat
 | [],acc=>acc
 |o :: os,acc=>T3 os (acc++[ED acc o])
theorem Ni {acc:List Nat}{p:Nat}:∀(l:List Edge) (m:Nat),(l.foldl (T2 acc) m).testBit p=true->m.testBit p=true\/∃e∈l,Region.binds .any e=true/\(p=e.on\/(acc.getD e.on 0).testBit p=true)
 | [],m,h=>.inl h
 |e :: l,m,h=>by
  rw[List.foldl_cons]at h;rcases Ni l _ h with h1|⟨e',h1,h2,h3⟩
  ·unfold T2 at h1;split at h1
   ·rename_i hb;rw[Nat.testBit_or,Nat.testBit_or,Qne,Qne]at h1;rcases h1 with(h1|h1)|h1
    ·exact .inl h1
    ·rw[Nat.testBit_two_pow]at h1;exact .inr ⟨e,Qnt ..,hb,.inl (of_decide_eq_true h1).symm⟩
    ·exact .inr ⟨e,Qnt ..,hb,.inr h1⟩
   ·exact .inl h1
  ·exact .inr ⟨e',Qnr _ h1,h2,h3⟩
theorem MB {ops:Array Oper}:∀(l:List Oper) (acc:List Nat),ops.toList=ops.toList.take acc.length++l->acc.length+l.length=ops.size->(∀i p,(acc.getD i 0).testBit p=true->Bef ops p i)->∀i p,((T3 l acc).getD i 0).testBit p=true->Bef ops p i
 | [],acc,_,_,h=>h
 |o :: l,acc,e,hn,h=>by
  have hlen:acc.length<ops.toList.length:=by simp at hn |-;omega
  have nW:ops[acc.length]? = some o:=by
   rw[<-QnF,e,QoE Ϗ];simp;have:acc.length-min acc.length ops.size=0:=by simp at hlen;omega
   rw[this];rfl
  refine MB l (acc++[ED acc o]) ?_ (by simp at hn |-;omega) λi p hb=>?_
  ·rw[QnP,QoK,Qnv hlen,Qnw];have:ops.toList[acc.length]=o:=by
    have:=Qnb hlen;rw[QnF,nW]at this;cases this;rfl
   rw[this];exact e
  ·rw[List.getD_eq_getElem?_getD]at hb;by_cases hi:i<acc.length
   ·rw[QoD hi,<-List.getD_eq_getElem?_getD]at hb;exact h i p hb
   ·by_cases lE:i=acc.length
    ·subst lE;rw[QoE (Qm8 _)]at hb;simp only[Nat.sub_self,Qoe,Qon]at hb;rcases Ni _ _ hb with h1|⟨e',h1,h2,h3⟩
     ·simp at h1
     ·rcases h3 with rfl|h3
      ·exact .one nW Ϭ h2
      ·exact .more nW Ϭ h2 (h _ _ h3)
    ·rw[QoB Ϗ]at hb;simp at hb
def Vq (ops:Array Oper)(its:List Item):Bool :=
 (List.range ops.size).all λi=>match ops[i]? with
  |some o=>o.after.all (λe=>!Region.binds .any e||decide (e.on<i))&&(List.range i).all λp=>((T3 ops.toList []).getD i 0).testBit p||Fi (its.getD p Y9) (its.getD i Y9)
  |none=>true
theorem Bef.listed {ops:Array Oper}{L:Nat->Prop}(aM:∀q,L q->∀o e,ops[q]? = some o->e∈o.after->Region.binds .any e=true->L e.on){p i:Nat}(h:Bef ops p i)(hi:∀o e,ops[i]? = some o->e∈o.after->Region.binds .any e=true->L e.on):L p:=by
 induction h with
 |one ho he hb=>exact hi _ _ ho he hb
 |more ho he hb _ ih=>exact ih (aM _ (hi _ _ ho he hb))
def YU (n:Nat)(listed:Array Bool):List Nat:=(List.range n).filter λi=>!listed.getD i true
theorem Bh {ops:Array Oper}:∀ {l:List Oper} {its:List Item},Jb P N ops l its=true->l.length=its.length/\∀(i:Nat) (o:Oper),l[i]? = some o->Dm P N ops o (its.getD i Y9)=true
 | [],its,h=>by
  cases its with
  |nil=>exact⟨rfl,ό⟩
  |cons it its=>simp[Jb]at h
 |o :: l,its,h=>by
  cases its with
  |nil=>simp[Jb]at h
  |cons it its=>
   simp only[Jb,Qnz]at h;obtain⟨e,h2⟩:=Bh h.2;refine⟨by simp[e],λi o' ho=>?_⟩;cases i with
   |zero=>simp at ho;subst ho;exact h.1
   |succ i=>simpa using h2 i o' (by simpa using ho)
theorem Qan {ops:Array Oper}{its:List Item}(hc:Jb P N ops ops.toList its=true)(hd:Vq ops its=true){B:Nat}{Q:St->Prop}{QQ:Exit->Act->World->Prop} :
  ∀(fuel:Nat) (listed:Array Bool),listed.size=ops.size->(∀q,listed.getD q false=true->∀o e,ops[q]? = some o->e∈o.after->Region.binds .any e=true->listed.getD e.on false=true)->(YU ops.size listed).length<=fuel->∀(st:St) (G:Gh) (a:Act) (w:World),QF P (Gn its (YU ops.size listed)) st Q->Rel G B N st a w->
   (∀G' ai a' w',Q ai->Rel G' B N ai a' w'->Ext 1 G w G' w'->QQ .normal a' w')->wpAny P .any ops QQ fuel listed a w:=by
 obtain⟨hlen,fg⟩:=Bh hc;have jM:∀(listed:Array Bool) i,i∈Region.ready .any ops listed->i∈YU ops.size listed:=by
  intro listed i hi;obtain⟨h0,o,ho,_⟩:=mem_ready.1 hi;exact QoL.2 ⟨QoM.2 (Qnh.1 ho).1,by simp[h0]⟩
 have nW:∀i,i<ops.size->∃o,ops[i]? = some o/\(∀e∈o.after,Region.binds .any e=true->e.on<i)/\∀p,p<i->Bef ops p i\/Fi (its.getD p Y9) (its.getD i Y9)=true:=by
  intro i hi;refine⟨ops[i],Qns hi,?_⟩;have h1:=Qno.1 hd i (QoM.2 hi);rw[Qns hi]at h1;simp only[Qnz]at h1;refine⟨λe he hb=>?_,λp hp=>?_⟩
  ·have h2:=Array.all_eq_true_iff_forall_mem.1 h1.1 e he
   simpa [hb]using h2
  ·have h2:=Qno.1 h1.2 p (QoM.2 hp);rw[Qne]at h2;rcases h2 with h2|h2
   ·exact .inl (MB ops.toList [] ό ό (λi p hb=>by simp at hb) i p h2)
   ·exact .inr h2
 -- the first that is left is ready
 have mM:∀(listed:Array Bool),listed.size=ops.size->Region.ready .any ops listed=[]->YU ops.size listed=[]:=by
  intro listed aX hr;cases hu:YU ops.size listed with
  |nil=>rfl
  |cons i rest=>
   exfalso;have oJ:(YU ops.size listed).Pairwise (· < ·):=List.Pairwise.filter _ List.pairwise_lt_range;have hi:i∈YU ops.size listed:=by rw[hu];exact Qnt ..
   obtain⟨fi,lE⟩:=QoL.1 hi;obtain⟨o,ho,h1,_⟩:=nW i (QoM.1 fi);have:i∈Region.ready .any ops listed:=by
    refine mem_ready.2 ⟨by simpa using lE,o,ho,λe he hb=>?_⟩;have aa:=h1 e he hb;cases hg:listed.getD e.on false with
    |true=>rfl
    |false=>
     have fY:e.on∈YU ops.size listed:=by
      refine QoL.2 ⟨QoM.2 (Nat.lt_trans aa (QoM.1 fi)),?_⟩;have dt:e.on<listed.size:=by rw[aX];exact Nat.lt_trans aa (QoM.1 fi)
      simp[Qns dt]at hg |-;exact hg
     rw[hu]at fY oJ;rcases Qoz.1 fY with e'|e'
     ·omega
     ·have:=(QoN.1 oJ).1 _ e';omega
   rw[hr]at this;cases this
 intro fuel
 induction fuel with
 |zero=>
  intro listed aX aM hl st G a w h hr hq;have hu:YU ops.size listed=[]:=Qoh ψ;refine⟨?_,?_⟩
  ·cases hx:Region.ready .any ops listed with
   |nil=>rfl
   |cons i r=>
    have:=jM listed i (by rw[hx];exact Qnt ..);rw[hu]at this;cases this
  ·rw[hu]at h;exact hq G st a w h hr (Ext.refl 1 G w)
 |succ fuel ih=>
  intro listed aX aM hl st G a w h hr hq;refine⟨λhx=>?_,λi hi=>?_⟩
  ·rw[mM listed aX hx]at h;exact hq G st a w h hr (Ext.refl 1 G w)
  ·have v8:=jM listed i hi;obtain⟨pre,post,fH⟩:=List.append_of_mem v8;have oJ:(YU ops.size listed).Pairwise (· < ·):=List.Pairwise.filter _ List.pairwise_lt_range;rw[fH]at h oJ;obtain⟨_,yC,vC⟩:=QoO.1 oJ;obtain⟨fi,lE⟩:=QoL.1 v8;obtain⟨o,ho,h1,h2⟩:=nW i (QoM.1 fi);obtain⟨_,o',eM,h3⟩:=mem_ready.1 hi;rw[ho]at eM;cases eM;have rO:∀p,p∈pre->Fi (its.getD p Y9) (its.getD i Y9)=true:=by
    intro p hp;rcases h2 p (vC p hp i (Qnt ..))with sb|h
    ·exfalso;have aQ:=sb.listed (L:=λq=>listed.getD q false=true) aM (λo2 e mQ he hb=>by rw[ho]at mQ;cases mQ;exact h3 e he hb);have yR:p∈YU ops.size listed:=by rw[fH];exact List.mem_append_left _ hp
     obtain⟨bj,cZ⟩:=QoL.1 yR;have dt:p<listed.size:=by rw[aX];exact QoM.1 bj
     simp[Qns dt]at aQ cZ;rw[aQ]at cZ;cases cZ
    ·exact h
   have hb:=EC (P:=P) rO h;have lF:YU ops.size (listed.setIfInBounds i true)=pre++post:=by
    have e1:YU ops.size (listed.setIfInBounds i true)=(YU ops.size listed).filter λj=>j != i:=by
     unfold YU;rw[List.filter_filter];refine List.filter_congr λj hj=>?_
     by_cases qJ:j=i
     ·subst qJ;have dt:j<listed.size:=by rw[aX];exact QoM.1 hj
      simp[dt]
     ·rw[getD_set_ne true (λe=>qJ e.symm)];simp[qJ]
    rw[e1,fH,QoP,QoQ];have e2:pre.filter (λj=>j != i)=pre:=QoR.2 λj hj=>by
     have:=vC j hj i (Qnt ..);simp;omega
    have e3:post.filter (λj=>j != i)=post:=QoR.2 λj hj=>by
     have:=(QoN.1 yC).1 j hj;simp;omega
    rw[e2,e3];simp
   have aw:∀q,listed.getD q false=true->(listed.setIfInBounds i true).getD q false=true:=λq gC=>by
    by_cases qk:q=i
    ·subst qk;have dt:q<listed.size:=by rw[aX];exact QoM.1 fi
     simp[dt]
    ·rw[getD_set_ne false (λe=>qk e.symm)];exact gC
   have rL:∀q,(listed.setIfInBounds i true).getD q false=true->∀o e,ops[q]? = some o->e∈o.after->Region.binds .any e=true->(listed.setIfInBounds i true).getD e.on false=true:=λq gC o2 e mQ gF iF=>by
    by_cases qk:q=i
    ·subst qk;rw[ho]at mQ;cases mQ;exact aw _ (h3 e gF iF)
    ·rw[getD_set_ne false (λe=>qk e.symm)]at gC;exact aw _ (aM q gC o2 e mQ gF iF)
   refine EB ho (fg i o (by simpa using ho)) hb hr λG' ai a' w' hk aH he=>?_
   refine ih (listed.setIfInBounds i true) (by simpa using aX) rL ?_ ai G' a' w' (by rw[lF];exact hk) aH λG2 jw a2 w2 qV cZ gF=>hq G2 jw a2 w2 qV cZ (he.trans gF)
   rw[lF];rw[fH]at hl;simp only[QnP,Qnq]at hl |-;omega
theorem EE {its:List Item}:Gn its (List.range its.length)=its:=by
 apply List.ext_getElem
 ·simp[Gn]
 ·intro i h1 h2;simp[Gn,h2]
theorem Qdn {ops:Array Oper}{its:List Item}(hm:P.follows .mixedOrders=true)(hc:Jb P N ops ops.toList its=true)(hd:Vq ops its=true){st:St}{Q:St->Prop}(h:QF P its st Q){G:Gh}{B:Nat}{a:Act}{w:World}(hr:Rel G B N st a w){QQ:Exit->Act->World->Prop}{id:Nat}
  (hq:∀G' ai a' w',Q ai->Rel G' B N ai a' w'->Ext 1 G w G' w'->QQ .normal a' w'):(Code.region id ops true).wp P QQ a w:=by
 refine wp_region_any hm ?_;have hlen:=(Bh hc).1;simp only[QnH]at hlen;have hu:YU ops.size (Array.replicate ops.size false)=List.range its.length:=by
  unfold YU;rw[hlen];refine QoR.2 λi hi=>?_
  simp[QoM.1 hi]
 refine Qan hc hd ops.size (Array.replicate ops.size false) ό (λq gC=>by rw[Qnl]at gC;simp[Array.getElem?_replicate]at gC;split at gC<;>cases gC) (by rw[hu];simp[hlen]) st G a _ (by rw[hu,EE];exact h) hr.drew λG' ai a' w' h1 h2 h3=>hq G' ai a' w' h1 h2 ((Ext.drew G w).trans h3)
end
def Vr {P:Program}{Q:Exit->Act->World->Prop}{a:Act}{w:World}{c rest:Code}(l:Nat)(J:Nat->Act->World->Prop)(hf:findLabel c l=some rest)
  (first:c.wp P (Exit.jump l (λa' w'=>∃n,J n a' w') Q) a w)
  (pass:∀n a w,J n a w->rest.wp P (Exit.jump l (λa' w'=>∃k,k<n/\J k a' w') Q) a w):(Code.scope c).wp P Q a w:=by
 intro b k cs;have hg:gotoIn l (.inScope c :: k)=some (.code rest :: .inScope c :: k):=by simp[gotoIn,hf]
 have key:∀n a w,J n a w->∃e a' w',Q e a' w'/\Arrives P (lone (b.at a (.code rest :: .inScope c :: k)) cs w) b k cs e a' w':=by
  intro n
  induction n using Nat.strongRecOn with
  |_ n ih=>
   intro a w hJ;obtain⟨e,a₁,w₁,hq,dP⟩:=pass n a w hJ b (.inScope c :: k) cs;cases e with
   |normal=>exact⟨.normal,a₁,w₁,hq,Steps.trans dP (.one step_inScope)⟩
   |exit id=>exact⟨.exit id,a₁,w₁,hq,λk' hk=>dP k' (by simp[exitTo,hk])⟩
   |goto l'=>
    obtain⟨rfl,j,aa,xq⟩:=hq;obtain⟨e₂,a₂,w₂,uj,ki⟩:=ih j aa a₁ w₁ xq;exact⟨e₂,a₂,w₂,uj,.of_steps (dP _ hg) ki⟩
   |ret=>exact⟨_,a₁,w₁,hq,dP⟩
   |panic ch=>exact⟨_,a₁,w₁,hq,dP⟩
   |outgrown=>exact⟨_,a₁,w₁,hq,dP⟩
 obtain⟨e,a₁,w₁,hq,dP⟩:=first b (.inScope c :: k) cs
 cases e with
 |normal=>exact⟨.normal,a₁,w₁,hq,.head step_scope (Steps.trans dP (.one step_inScope))⟩
 |exit id=>exact⟨.exit id,a₁,w₁,hq,λk' hk=>.head step_scope (dP k' (by simp[exitTo,hk]))⟩
 |goto l'=>
  obtain⟨rfl,n,hJ⟩:=hq;obtain⟨e₂,a₂,w₂,uj,ki⟩:=key n a₁ w₁ hJ;exact⟨e₂,a₂,w₂,uj,.of_steps (.one step_scope) (.of_steps (dP _ hg) ki)⟩
 |ret=>exact⟨_,a₁,w₁,hq,.of_steps (.one step_scope) dP⟩
 |panic ch=>exact⟨_,a₁,w₁,hq,.of_steps (.one step_scope) dP⟩
 |outgrown=>exact⟨_,a₁,w₁,hq,.of_steps (.one step_scope) dP⟩
def ZI (P:Program)(N:Nat):RC->Code->Bool
 |.gho _ r,c=>ZI P N r c
 |.no,_=>true
 |.skip,c=>match c with
  |.skip=>true
  |_=>false
 |.goto l,c=>match c with
  |.goto i=>i==l
  |_=>false
 |.jump l a b,c=>match c with
  |.scope x=>ZI P N a x&&(match findLabel x l with
   |some y=>ZI P N b y
   |none=>false)
  |_=>false
 |.reg its,c=>match c with
  |.region _ ops false=>Jb P N ops ops.toList its
  |_=>false
 |.draw its,c=>match c with
  |.region _ ops true=>P.follows .mixedOrders&&Jb P N ops ops.toList its&&Vq ops its
  |_=>false
 |.seq a b,c=>match c with
  |.seq x y=>ZI P N a x&&ZI P N b y
  |_=>false
 |.cond r a b,c=>match c with
  |.cond o x y=>QO o r&&ZI P N a x&&ZI P N b y
  |_=>false
 |.block i a,c=>match c with
  |.block j x=>i==j&&ZI P N a x
  |_=>false
 |.loop a,c=>match c with
  |.loop x=>ZI P N a x
  |_=>false
 |.exit i,c=>match c with
  |.exit j=>i==j
  |_=>false
 |.scope a,c=>match c with
  |.scope x=>ZI P N a x
  |_=>false
 |.lab,c=>match c with
  |.label _=>true
  |_=>false
 |.ret,c=>match c with
  |.ret=>true
  |_=>false
section
variable {P:Program}{N B:Nat}
theorem Qe1:∀ {rc:RC} {c:Code} {st:St} {Q:Exit->St->Prop},Q1 P rc st Q->ZI P N rc c=true->∀ {G:Gh} {a:Act} {w:World},Rel G B N st a w->∀ {QQ:Exit->Act->World->Prop},
  (∀e G' ai a' w',Q e ai->Rel G' B N ai a' w'->Ext 1 G w G' w'->QQ e a' w')->c.wp P QQ a w:=by
 intro rc
 induction rc with
 |skip=>
  intro c st Q h hc G a w hr QQ hq;cases c<;>simp only[ZI,Qnu]at hc;exact wp_skip (hq _ _ _ _ _ h hr (Ext.refl 1 G w))
 |reg its=>
  intro c st Q h hc G a w hr QQ hq;cases c<;>simp only[ZI,Qnu]at hc;rename_i id ops d;cases d<;>simp only[Qnu]at hc;refine wp_region_list ?_;exact Sq (N:=N) h ops ops.toList hc G B a w hr QQ λG' ai a' w' h1 h2 h3=>hq _ _ _ _ _ h1 h2 h3
 |draw its=>
  intro c st Q h hc G a w hr QQ hq;cases c<;>simp only[ZI,Qnu]at hc;rename_i id ops d;cases d<;>simp only[Qnu,Qnz]at hc;exact Qdn hc.1.1 hc.1.2 hc.2 h hr λG' ai a' w' h1 h2 h3=>hq _ _ _ _ _ h1 h2 h3
 |seq x y rJ ta=>
  intro c st Q h hc G a w hr QQ hq;cases c<;>simp only[ZI,Qnu,Qnz]at hc;refine wp_seq (rJ h hc.1 hr λe G' ai a' w' h1 h2 h3=>?_);cases e with
  |normal=>exact ta h1 hc.2 h2 λe G2 jw a2 w2 k1 k2 k3=>hq _ _ _ _ _ k1 k2 (h3.trans k3)
  |_=>exact hq _ _ _ _ _ h1 h2 h3
 |cond r x y rJ ta=>
  intro c st Q h hc G a w hr QQ hq;cases c<;>simp only[ZI,Qnu,Qnz]at hc;rename_i o cx cy;obtain⟨t,ht,h1,h2⟩:=h;have hv:=Qx hr hc.1.1;rw[ht]at hv;have bQ:a.eval o=.bool t:=by
   generalize a.eval o=v at hv;cases hv;rfl
  refine wp_cond_split bQ (λe=>?_) (λe=>?_)
  ·exact rJ (h1 e) hc.1.2 hr hq
  ·exact ta (h2 e) hc.2 hr hq
 |block i x ih=>
  intro c st Q h hc G a w hr QQ hq;cases c<;>simp only[ZI,Qnu,Qnz,Qng]at hc;obtain⟨rfl,hc⟩:=hc;refine wp_block (ih h hc hr λe G' ai a' w' h1 h2 h3=>?_);cases e with
  |exit j=>
   simp only[Exit.inBlock];simp only[Kb]at h1;split
   ·rename_i hh;rw[Qnj hh]at h1;exact hq _ _ _ _ _ h1 h2 h3
   ·rename_i hh;rw[Qni hh]at h1;exact hq _ _ _ _ _ h1 h2 h3
  |_=>exact hq _ _ _ _ _ h1 h2 h3
 |loop x ih=>
  intro c st Q h hc G a w hr QQ hq;cases c<;>simp only[ZI,Qnu]at hc;obtain⟨I,n,h0,hI⟩:=h;refine wp_loop_ghost (λk a' w'=>∃G' ai,I k ai/\Rel G' B N ai a' w'/\Ext 1 G w G' w') n ⟨G,st,h0,hr,Ext.refl 1 G w⟩ ?_;rintro k a' w' ⟨G',ai,i1,i2,i3⟩;refine ih (hI k ai i1) hc i2 λe G2 jw a2 w2 h1 h2 h3=>?_
  cases e with
  |normal=>
   obtain⟨k',hk,hi⟩:=h1;exact⟨k',hk,G2,jw,hi,h2,i3.trans h3⟩
  |_=>exact hq _ _ _ _ _ h1 h2 (i3.trans h3)
 |exit i=>
  intro c st Q h hc G a w hr QQ hq;cases c<;>simp only[ZI,Qnu,Qng]at hc;subst hc;exact wp_exit (hq _ _ _ _ _ h hr (Ext.refl 1 G w))
 |scope x ih=>
  intro c st Q h hc G a w hr QQ hq;cases c<;>simp only[ZI,Qnu]at hc;refine wp_scope_straight (ih h hc hr λe G' ai a' w' h1 h2 h3=>?_);cases e with
  |goto l=>exact h1.elim
  |_=>exact hq _ _ _ _ _ h1 h2 h3
 |goto l=>
  intro c st Q h hc G a w hr QQ hq;cases c<;>simp only[ZI,Qnu,Qng]at hc;subst hc;exact wp_goto (hq _ _ _ _ _ h hr (Ext.refl 1 G w))
 |jump l x y ih yj=>
  intro c st Q h hc G a w hr QQ hq;cases c<;>simp only[ZI,Qnu,Qnz]at hc;obtain⟨ao,gZ⟩:=hc;split at gZ
  case h_2=>cases gZ
  rename_i z hz;obtain⟨I,h0,hI⟩:=h;refine Vr l (λk a' w'=>∃G' ai,I k ai/\Rel G' B N ai a' w'/\Ext 1 G w G' w') hz ?_ ?_
  ·refine ih h0 ao hr λe G2 jw a2 w2 h1 h2 h3=>?_
   cases e with
   |goto i=>exact⟨h1.1,h1.2.imp λn hn=>⟨G2,jw,hn,h2,h3⟩⟩
   |_=>exact hq _ _ _ _ _ h1 h2 h3
  ·rintro k a' w' ⟨G',ai,i1,i2,i3⟩;refine yj (hI k ai i1) gZ i2 λe G2 jw a2 w2 h1 h2 h3=>?_
   cases e with
   |goto i=>exact⟨h1.1,h1.2.imp λn hn=>⟨hn.1,G2,jw,hn.2,h2,i3.trans h3⟩⟩
   |_=>exact hq _ _ _ _ _ h1 h2 (i3.trans h3)
 |lab=>
  intro c st Q h hc G a w hr QQ hq;cases c<;>simp only[ZI,Qnu]at hc;exact wp_label (hq _ _ _ _ _ h hr (Ext.refl 1 G w))
 |ret=>
  intro c st Q h hc G a w hr QQ hq;cases c<;>simp only[ZI,Qnu]at hc;exact wp_ret (hq _ _ _ _ _ h hr (Ext.refl 1 G w))
 |gho g x ih=>
  intro c st Q h hc G a w hr QQ hq;obtain⟨ai,hg,h⟩:=h;obtain⟨G',h1,h2⟩:=Qaj hr hg;exact ih h hc h1 λe G2 jw a2 w2 k1 k2 k3=>hq _ _ _ _ _ k1 k2 (h2.trans k3)
 |no=>
  intro c st Q h;exact h.elim
theorem MR.out {G:Gh}{fr:Nat->Ob}{m:Qk}{w:World}(h:MR G (fr :: m) w){S:Nat->Prop}(hS:∀b,S b->(∃s,G.vm 0 s=some b)\/∃s,G.nm 0 s=some b):MR ((G.pub w S).dn 1) m w:=by
 have rN:∀l s b,G.nm (l+1) s=some b->¬S b:=λl s b e hs=>by
  rcases hS b hs with⟨s',e'⟩|⟨s',e'⟩
  ·exact h.inj3 _ _ _ _ _ e e'
  ·have:=(h.inj1 _ _ _ _ _ e e').1;omega
 have xv:∀l s b,G.vm (l+1) s=some b->¬S b:=λl s b e hs=>by
  rcases hS b hs with⟨s',e'⟩|⟨s',e'⟩
  ·have:=(h.inj2 _ _ _ _ _ e e').1;omega
  ·exact h.inj3 _ _ _ _ _ e' e
 have cY:Gle G (G.pub w S):=Gh.pub_gle h.stab;refine⟨λb o v e=>?_,λl s xs e=>?_,λl s b e=>?_,λl s g sz xs e=>?_,λl s b e=>?_,λl s e=>?_,λl s l' s' b e e'=>?_,λl s l' s' b e e'=>?_,λl s l' s' b e e'=>?_,λl s t p e=>h.iter (l+1) s t p e⟩
 ·have e:(G.pub w S).stab b o=some v:=e;by_cases hs:S b/\∀o,J9 b o=none
  ·rw[Gh.pub_c hs]at e;exact C2 e
  ·rw[Gh.pub_n hs]at e;exact h.stab b o v e
 ·obtain⟨b,cs,e',hc,hr⟩:=h.cells (l+1) s xs e;refine⟨b,cs,e',hc,?_⟩;rw[Gh.dn_dn];exact hr.mono (cY.dn (l+1))
 ·obtain⟨h1,h2⟩:=h.nm (l+1) s b e;refine⟨h1,λo=>?_⟩;show(G.pub w S).stab b o=none;rw[Gh.pub_out (rN _ _ _ e)];exact h2 o
 ·obtain⟨a1,a2,a3,a4⟩:=h.vec (l+1) s g sz xs e;exact⟨a1,a2,a3,a4.imp id λ⟨b,e',r⟩=>⟨b,e',r.of rfl λvs hv=>RepL.rfd (G:=G) (G':=(G.pub w S).dn 1) cY.stab a3.rf hv⟩⟩
 ·obtain⟨h1,h2⟩:=h.vm (l+1) s b e;refine⟨h1,λo=>?_⟩;show(G.pub w S).stab b o=none;rw[Gh.pub_out (xv _ _ _ e)];exact h2 o
 ·exact h.gone (l+1) s e
 ·obtain⟨h1,h2⟩:=h.inj1 _ _ _ _ _ e e';exact⟨ψ,h2⟩
 ·obtain⟨h1,h2⟩:=h.inj2 _ _ _ _ _ e e';exact⟨ψ,h2⟩
 ·exact h.inj3 _ _ _ _ _ e e'
def Jk (rs:List RR)(n:Nat)(R:AV->Qk->Prop):Exit->St->Prop:=λe st=>
 (e=.normal\/e=.ret)/\st.ds=[]/\∃x y fr m,YD st rs=some x/\Uj st.m x=some y/\st.m=fr :: m/\m.length=n/\R y m
theorem Sa {G:Gh}{args:List AV}{vs:List Value}(h:RepL G args vs){N:Nat}(i:Nat):Rep G.up (Ml (AV.shL args) i) (((vs.toArray++Array.replicate (N-vs.toArray.size) undef):Array Value).getD i undef):=by
 have h':RepL G.up (AV.shL args) vs:=RepL.sh (G:=G.up) (by rw[Gh.up_dn];exact h);have hl:=h'.length;unfold Ml;by_cases hi:i<vs.length
 ·obtain⟨x,e,hx⟩:=h'.back (Qnb hi);rw[e];simp only[Qon,Qnl];rw[Array.getElem?_append_left ę]
  simpa [hi]using hx
 ·rw[QoB ψ];simp only[QoS,Qnl];rw[Array.getElem?_append_right ę];cases hx:(Array.replicate (N-vs.toArray.size) undef)[i-vs.toArray.size]? with
  |none=>exact .tup .nil
  |some v=>
   have:=Qnh.1 hx;obtain⟨_,h2⟩:=this;simp at h2;subst h2;exact .tup .nil
theorem EF {fn:Func}{args:List AV}{m:Qk}{G:Gh}{w:World}{vs:List Value}(gO:RepL G args vs)(hm:MR G m w)(hN:fn.ntmps=N)(ha:args.length<=N) :
  Rel G.up w.heap.size N (St.enter args m) { tmps:=vs.toArray++Array.replicate (fn.ntmps-vs.toArray.size) undef,defers:=[] } w:=by
 have hlen:=gO.length;refine⟨hm.up,?_,λi=>Sa gO i,.nil,λs b e=>?_,Qm8 _,by simp[St.enter]⟩
 ·simp;omega
 ·rcases e with e|e<;>cases e
theorem Qdo {fn:Func}{rs:List RR}{G G':Gh}{m m':Qk}{w w':World}{ai:St}{a':Act}{fr:Nat->Ob}{x y:AV}{R:AV->Qk->Prop}(hr:Wu P fn.results.toList rs=true)(aH:Rel G' w.heap.size N ai a' w')(he:Ext 1 G.up w G' w')
  (hx:YD ai rs=some x) (hy:Uj ai.m x=some y) (ay:ai.m=fr :: m') (kJ:m'.length=m.length) (hR:R y m') :
  ∃v,(results fn a'.tmps).run P w'=.ok v w'/\(∃G'' x v' ud,(Ending.returned v)=.returned v'/\R x ud/\Rep G'' x v'/\MR G'' ud w'/\Ext 0 G w G'' w'/\ud.length=m.length):=by
 obtain⟨v,af,hv⟩:=Qdj (P:=P) aH hr hx
 let S:Nat->Prop:=λb=>(∃s,G'.vm 0 s=some b)\/∃s,G'.nm 0 s=some b
 have bV:=aH.mr;have wZ:∀l s b,(true&&l != 0)=false->G'.vm l s=some b->S b:=by
  intro l s b hl e;have:l=0:=Ä
  subst this;exact .inl ⟨s,e⟩
 unfold Uj at hy;rw[Option.bind_eq_some_iff]at hy;obtain⟨z,hz,hy⟩:=hy;have jC:=Rep.un (Be bV (own:=true) (S:=S) wZ (λ_ s b _ _ _ e _=>.inr ⟨s,e⟩) hv z hz) y hy;rw[ay]at bV;have gP:=bV.out (S:=S) (λb hs=>hs);have jL:∀b,((G'.pub w' S).dn 1).mine b->G'.mine b:=by
  rintro b (⟨l,s,e⟩|⟨l,s,e⟩)
  ·exact .inl ⟨l+1,s,e⟩
  ·exact .inr ⟨l+1,s,e⟩
 have fX:Ext 0 G w ((G'.pub w' S).dn 1) w':=by
  refine⟨he.os,he.tape,he.output,he.size,λb o v e=>?_,λl s _=>he.nm (l+1) s ψ,λl s=>he.vg (l+1) s,λl s e=>he.vs (l+1) s e,λb hb cr=>?_,λb hb=>?_,λl s b e=>?_⟩
  ·exact(Gh.pub_gle (S:=S) aH.mr.stab).stab b o v (he.stab b o v e)
  ·obtain⟨h1,h2⟩:=he.old b hb (λhx=>cr (Gh.up_mine.1 hx));refine⟨h1,λo=>?_⟩;have rN:¬S b:=by
    rintro(⟨s,e⟩|⟨s,e⟩)
    ·have:=aH.base s b (.inr e);omega
    ·have:=aH.base s b (.inl e);omega
   show(G'.pub w' S).stab b o=G.stab b o;rw[Gh.pub_out rN];exact h2 o
  ·rcases he.mine b (jL b hb)with h1|h1
   ·exact .inl (Gh.up_mine.1 h1)
   ·exact .inr h1
  ·rcases he.mv (l+1) s b e with⟨i,t,hi,h1⟩|h1
   ·cases i with
    |zero=>cases h1
    |succ i=>exact .inl ⟨i,t,ψ,h1⟩
   ·exact .inr h1
 exact⟨v,af,_,y,v,m',rfl,hR,jC,gP,fX,kJ⟩
theorem Df {k:FuncId} {fn:Func} {c:Code} {rc:RC} {rs:List RR} {args:List AV} {m:Qk} {R:AV->Qk->Prop} (hf:P.funcs[k]? = some fn) (hb:fn.body=some c) (hn:(fn.name == "runtime.NumGoroutine")=false) (hN:fn.ntmps=N) (hc:ZI P N rc c=true) (hr:Wu P fn.results.toList rs=true)
  (ha:args.length<=N) (h:Q1 P rc (St.enter args m) (Jk rs m.length R)):Qf P k args m R:=by
 refine⟨⟨fn,hf,hn,ò⟩,λG w vs gO hm=>?_⟩;refine calls_of_wp hf hb ?_;refine Qe1 h hc (EF gO hm hN ha) λe G' ai a' w' hq aH he=>?_
 obtain⟨hex,tE,x,y,fr,m',hx,hy,ay,kJ,hR⟩:=hq;have oF:a'.defers=[]:=by
  have:=aH.ds;rw[tE]at this;cases hd:a'.defers with
  |nil=>rfl
  |cons d l=>rw[hd]at this;cases this
 have bc:=Qdo (R:=R) hr aH he hx hy ay kJ hR;rcases hex with rfl|rfl
 ·exact⟨oF,bc⟩
 ·exact⟨oF,bc⟩
end
def CK (P:Program)(k N:Nat)(rc:RC)(rs:List RR):Prop :=
 ∃fn c, P.funcs[k]? = some fn/\fn.body=some c/\(fn.name == "runtime.NumGoroutine")=false/\fn.ntmps=N/\ZI P N rc c=true/\Wu P fn.results.toList rs=true
def CK.go {P:Program}{k N:Nat}{rc:RC}{rs:List RR}{args:List AV}{m:Qk}{R:AV->Qk->Prop}(h:CK P k N rc rs)(ha:args.length<=N)(w:Q1 P rc (St.enter args m) (Jk rs m.length R)):Qf P k args m R:=by
 obtain⟨fn,c,h1,h2,h3,h4,h5,h6⟩:=h;exact Df h1 h2 h3 h4 h5 h6 ha w
def ck {P:Program} {k N:Nat} {fn:Func} {rc:RC} {rs:List RR} (hf:P.funcs[k]? = some fn) (hN:fn.ntmps=N) (h:(fn.body.isSome && !(fn.name == "runtime.NumGoroutine")&&ZI P N rc (fn.body.getD .skip)&&Wu P fn.results.toList rs)=true := by decide +kernel):CK P k N rc rs := by
 simp only[Qnz,Qn9,QnD]at h;obtain⟨⟨⟨⟨c,hc⟩,h1⟩,h2⟩,h3⟩:=h;rw[hc]at h2;exact⟨fn,c,hf,hc,h1,hN,h2,h3⟩
def CK.fn {P:Program}{k N:Nat}{rc:RC}{rs:List RR}{args:List AV}{v:AV}(h:CK P k N rc rs)(ha:args.length<=N)(w:Q1 P rc (St.enter args []) (Jk rs 0 λx _=>x=v)):Qi P k args v:=h.go ha w
section
variable {P:Program}{f:Fr}{m:Qk}{ds:List DF}{K:St->Prop}{Q:Exit->St->Prop}{its:List Item}{d:Nat}
def Kc (P:Program)(b:RC)(Q:Exit->St->Prop):Exit->St->Prop:=Ks (λai=>Q1 P b ai Q) Q
def Kl (I:Nat->St->Prop)(n:Nat)(Q:Exit->St->Prop):Exit->St->Prop:=Ks (λs=>∃k,k<n/\I k s) Q
theorem HL {st:St}:Q1 P .skip st Q=Q .normal st:=id rfl
theorem Qix {st:St}:Q1 P .no st Q=False:=id rfl
theorem QbO {st:St}:Q1 P .lab st Q=Q .normal st:=id rfl
theorem QbP {st:St}:Q1 P .ret st Q=Q .ret st:=id rfl
theorem EG {st:St}{i:Nat}:Q1 P (.exit i) st Q=Q (.exit i) st:=id rfl
theorem Gp {st:St}:Q1 P (.reg its) st Q=QF P its st (Q .normal):=id rfl
theorem EH {st:St}:Q1 P (.draw its) st Q=QF P its st (Q .normal):=id rfl
theorem Gq {st:St}{a b:RC}:Q1 P (.seq a b) st Q=Q1 P a st (Kc P b Q):=id rfl
theorem Sr {st:St}{i:Nat}{a:RC}:Q1 P (.block i a) st Q=Q1 P a st (Kb i Q):=id rfl
theorem Ss {st:St}{a:RC}:Q1 P (.scope a) st Q=Q1 P a st (Kg Q):=id rfl
def Vs:AV->Bool
 |.bool b=>b
 |_=>false
def EI:AV->Prop
 |.bool _=>True
 |_=>False
theorem EJ (b:Bool):Vs (.bool b)=b:=id rfl
theorem QbQ (b:Bool):EI (.bool b)=True:=id rfl
def Bi (P:Program)(v:AV)(a b:RC)(st:St)(Q:Exit->St->Prop):Prop:=EI v/\(Vs v=true->Q1 P a st Q)/\(Vs v=false->Q1 P b st Q)
theorem Gr {a b:RC}{st:St}:Bi P (.bool true) a b st Q=Q1 P a st Q:=by simp[Bi,EI,Vs]
theorem YF {a b:RC}{st:St}:Bi P (.bool false) a b st Q=Q1 P b st Q:=by simp[Bi,EI,Vs]
theorem Q4 {t:Bool}{a b:RC}{st:St}(h1:t=true->Q1 P a st Q)(h2:t=false->Q1 P b st Q):Bi P (.bool t) a b st Q:=⟨trivial,h1,h2⟩
theorem YV {c:RA}{a b:RC}:Q1 P (.cond c a b) ⟨f,m,ds⟩ Q=Bi P (c.ev f) a b ⟨f,m,ds⟩ Q:=by
 simp only[Q1,Bi];generalize c.ev f=v;cases v<;>simp[Vs,EI]
theorem Ke {b:RC}{st:St}:Kc P b Q .normal st=Q1 P b st Q:=id rfl
theorem EK {b:RC}{st:St}{i:Nat}:Kc P b Q (.exit i) st=Q (.exit i) st:=id rfl
theorem EL {b:RC}{st:St}:Kc P b Q .ret st=Q .ret st:=id rfl
theorem EM {st:St}{i:Nat}:Kb i Q .normal st=Q .normal st:=id rfl
theorem Nj {st:St}{i j:Nat}:Kb i Q (.exit j) st=if j=i then Q .normal st else Q (.exit j) st:=id rfl
theorem EN {st:St}{i:Nat}:Kb i Q .ret st=Q .ret st:=id rfl
theorem EO {st:St}:Kg Q .normal st=Q .normal st:=id rfl
theorem EP {st:St}{j:Nat}:Kg Q (.exit j) st=Q (.exit j) st:=id rfl
theorem EQ {st:St}:Kg Q .ret st=Q .ret st:=id rfl
theorem ER {I:Nat->St->Prop}{n:Nat}{st:St}:Kl I n Q .normal st = ∃k,k<n/\I k st:=id rfl
theorem ES {I:Nat->St->Prop}{n:Nat}{st:St}{j:Nat}:Kl I n Q (.exit j) st=Q (.exit j) st:=id rfl
theorem ET {I:Nat->St->Prop}{n:Nat}{st:St}:Kl I n Q .ret st=Q .ret st:=id rfl
theorem Qj {a:RC}{st:St}(I:Nat->St->Prop)(n:Nat)(h0:I n st)(h:∀n ai,I n ai->Q1 P a ai (Kl I n Q)):Q1 P (.loop a) st Q:=⟨I,n,h0,h⟩
theorem Yd {st:St}:QF P [] st K=K st:=id rfl
def XZ (x:Option AV):AV:=x.getD .top
def ZO (x:Option AV):Prop:=x.isSome=true
theorem Kf (x:AV):XZ (some x)=x:=id rfl
theorem Ye (x:AV):ZO (some x)=True:=by simp[ZO]
theorem Yf {vo:VO}:QF P (⟨some d,.val vo,none⟩ :: its) ⟨f,m,ds⟩ K=(ZO (Qz f m vo)/\QF P its ⟨QL f d (XZ (Qz f m vo)),m,ds⟩ K):=by
 simp only[QF,Z5,De,Ql];generalize Qz f m vo=v;cases v<;>simp[XZ,ZO]
def mget (x:Option Qk):Qk:=x.getD []
def Su (x:Option Qk):Prop:=x.isSome=true
theorem Qe2 (x:Qk):mget (some x)=x:=id rfl
theorem Qha (x:Qk):Su (some x)=True:=by simp[Su]
theorem Qdp {n:Nat}{p r:RA}:QF P (⟨none,.store n p r,none⟩ :: its) ⟨f,m,ds⟩ K=((r.ev f).cells.length=n/\(r.ev f).cells.all AV.leaf=true/\Su (XA m (p.ev f) (r.ev f).cells)/\QF P its ⟨f,mget (XA m (p.ev f) (r.ev f).cells),ds⟩ K):=by
 simp only[QF,Z5,De,Ql];exact φ
def Qao (l s:Nat)(v:AV):Prop:=∃o,v=.ptr l s o
theorem Qe3 (l s o:Nat):Qao l s (.ptr l s o)=True:=eq_true ⟨o,rfl⟩
theorem Qap {l s n:Nat}{p r:RA}:QF P (⟨none,.storev l s n p r,none⟩ :: its) ⟨f,m,ds⟩ K=(Qao l s (p.ev f)/\(r.ev f).cells.length=n/\(r.ev f).cells.all AV.leaf=true/\Su (XA m (p.ev f) (r.ev f).cells)/\QF P its ⟨f,mget (XA m (p.ev f) (r.ev f).cells),ds⟩ K):=by
 simp only[QF,Z5,De,Ql,Qao];exact φ
theorem Qaq {s:Nat}{z:List AV}:QF P (⟨some d,.allocN s z,none⟩ :: its) ⟨f,m,ds⟩ K=(ZB m s=true/\QF P its ⟨QL f d (.ptr 0 s 0),Am.put m 0 s (.cells z),ds⟩ K):=id rfl
theorem Qe4 {s:Nat}{r:RA}:QF P (⟨some d,.boxN s r,none⟩ :: its) ⟨f,m,ds⟩ K=(ZB m s=true/\(r.ev f).cells.all AV.leaf=true/\QF P its ⟨QL f d (.ptr 0 s 0),Am.put m 0 s (.cells (r.ev f).cells),ds⟩ K):=id rfl
theorem QbR {sz len:Nat}{z:List AV}{ps:List (Nat×Nat×RA)}{y:List AV}(hy:fill f ps (Zj z sz len)=some y)(h1:AV.rfL y=true)(h2:y.all AV.leaf=true):QF P (⟨some d,.bsl sz len z ps,none⟩ :: its) ⟨f,m,ds⟩ K=QF P its ⟨QL f d (.list (ZG sz len (y.map nn0))),m,ds⟩ K:=by
 apply propext
 constructor
 ·rintro⟨y',h,_,_,k⟩;have h:fill f ps (Zj z sz len)=some y':=h;rw[hy]at h;cases h;exact k
 ·intro k;exact⟨y,hy,h1,h2,k⟩
theorem Qe5 {z:AV}{r:RA}{k:IntKind}{n:Int}(hr:r.ev f=.int k n):QF P (⟨some d,.bsl 1 1 [z] [(0,1,r)],none⟩ :: its) ⟨f,m,ds⟩ K=QF P its ⟨QL f d (.list [.int k n]),m,ds⟩ K:=by
 refine QbR (y:=[.int k n]) ?_ rfl rfl;simp[fill,hr,AV.cells,AV.leaf,Zj,List.range_succ,splice]
theorem V9 {z:AV}{r:RA}{k:IntKind}{n:Int}(hr:r.ev f=.int k n)(h:QF P its ⟨QL f d (.list [.int k n]),m,ds⟩ K):QF P (⟨some d,.bsl 1 1 [z] [(0,1,r)],none⟩ :: its) ⟨f,m,ds⟩ K:=by
 rw[Qe5 hr];exact h
theorem Ca {sz:Nat}{z l:List AV}{r:RA}(hr:r.ev f=.agg l)(hl:l.length=sz)(h1:sz≠1)(hf:AV.rfL l=true)(c_:l.all AV.leaf=true)(h:QF P its ⟨QL f d (.list [.agg (l.map nn0)]),m,ds⟩ K) :
  QF P (⟨some d,.bsl sz 1 z [(0,sz,r)],none⟩ :: its) ⟨f,m,ds⟩ K:=by
 have hz:(Zj z sz 1).length=sz:=by simp[Zj]
 have hy:fill f [(0,sz,r)] (Zj z sz 1)=some l:=by
  exact OG
 rw[QbR hy hf c_];have hc:ZG sz 1 (l.map nn0)=[.agg (l.map nn0)]:=by
  simp only[ZG,Qni h1];rw[QnL Ω]
 rw[hc];exact h
theorem ZW {slot site sz:Nat}{a:RC}{fr:Nat->Ob}(h1:f slot=.nils)(h2:fr site=.none)(h:Q1 P a ⟨QL f slot (.vec 0 site 1 0 0 false),QL fr site (.vec 1 sz []) :: m,ds⟩ Q):Q1 P (.gho (.vec slot site sz) a) ⟨f,fr :: m,ds⟩ Q:=by
 refine⟨_,?_,h⟩;have e:Qc (fr :: m) 0 site=.none:=h2;simp[J6,h1,e,Qn,QB,Am.put]
theorem Hd {fr:Nat->Ob}{site g sz n:Nat}{q:Bool}{xs:List AV}(hl:fr site=.vec g sz xs)(hn:n=xs.length):Xc (fr :: m) (.vec 0 site g 0 n q)=some xs:=by
 subst hn;simp[Xc,Am.Qc,hl]
theorem QP {sz bytes el:Nat}{s r:RA}{site g n:Nat}{fr:Nat->Ob}{xs ys:List AV}(hs:s.ev f=.vec 0 site g 0 n false)(hl:fr site=.vec g sz xs)(ht:Zv site el=true)(hn:n=xs.length)(hr:r.ev f=.list ys)(hz:ys.all (λe=>e.cells.length==sz)=true)(hm:n+ys.length<=maxLen)(hb:(n+ys.length)*bytes<=140737488355328)
  (h:QF P its ⟨QL f d (.vec 0 site (g+1) 0 (n+ys.length) false),QL fr site (.vec (g+1) sz (xs++ys)) :: m,ds⟩ K):QF P (⟨some d,.app sz bytes el s r,none⟩ :: its) ⟨f,fr :: m,ds⟩ K:=by
 refine⟨0,site,g,n,xs,ys,hs,hl,ht,ψ,?_,hz,hm,hb,?_⟩
 ·show Xc (fr :: m) (r.ev f)=some ys;rw[hr];rfl
 ·subst hn;rw[QoT];exact h
theorem Zr {k:Nat}{args:List RA}{ys:List AV}{v:AV}(hk:Qi P k ys v)(hy:AV.stillL false m (args.map (RA.ev f))=some ys)(h1:AV.rfL ys=true)(h2:v.rf=true)(h3:AV.rfL (args.map (RA.ev f))=true\/v.nl=true)(h:QF P its ⟨QL f d v,m,ds⟩ K) :
  QF P (⟨some d,.call (.f k) args,none⟩ :: its) ⟨f,m,ds⟩ K:=by
 refine⟨k,[],[],ys,v,rfl,?_,h1,hk,h2,?_,h⟩
 ·simpa using hy
 ·simpa using h3
theorem aC {k:Nat}{args:List RA}{ys:List AV}{v:AV}(hk:Qi P k ys v)(h:QF P its ⟨QL f d v,m,ds⟩ K)(hy:AV.stillL false m (args.map (RA.ev f))=some ys:=by rfl)(h1:AV.rfL ys=true:=by rfl)(h2:v.rf=true:=by rfl)(h3:AV.rfL (args.map (RA.ev f))=true\/v.nl=true:=by exact .inl rfl) :
  QF P (⟨some d,.call (.f k) args,none⟩ :: its) ⟨f,m,ds⟩ K:=Zr hk hy h1 h2 h3 h
theorem Sv {cnt:Bool}{k:Nat}{s c:RA}{t:List UInt8}{b:Int}(hs:s.ev f=.str t)(hb:c.ev f=.int .u8 b)(h:QF P its ⟨QL f d (.int .i64 (Na cnt t b)),m,ds⟩ K):QF P (⟨some d,.xb cnt k s c,none⟩ :: its) ⟨f,m,ds⟩ K :=
 ⟨t,b,hs,hb,h⟩
theorem Cb {s:Nat}{r:RA}{fr:Nat->Ob}{t:List UInt8}(ht:r.ev f=.str t)(hn:fr s=.none)(h:QF P its ⟨QL f d (.ptr 0 s 0),QL fr s (.iter (.str t) 0) :: m,ds⟩ K) :
  QF P (⟨some d,.rngs s r,none⟩ :: its) ⟨f,fr :: m,ds⟩ K:=by
 refine⟨t,ht,?_,h⟩;show(match fr s with|.none=>true|_=>false)=true;rw[hn]
theorem Cc {s p:Nat}{r:RA}{fr:Nat->Ob}{t:List UInt8}(hr:r.ev f=.ptr 0 s 0)(hl:fr s=.iter (.str t) p)
  (h1:p<t.length->QF P its ⟨QL f d (.tup [.bool true,.int .i64 (p:Nat),.int .i32 ((Zk t p).1:Nat)]),QL fr s (.iter (.str t) (p+(Zk t p).2)) :: m,ds⟩ K)
  (h2:t.length<=p->QF P its ⟨QL f d (.tup [.bool false]),fr :: m,ds⟩ K) :
  QF P (⟨some d,.nxts r,none⟩ :: its) ⟨f,fr :: m,ds⟩ K :=
 ⟨0,s,t,p,hr,hl,h1,h2⟩
theorem Qh {k:Nat}{args:List RA}{ys:List AV}{v:AV}{m':Qk}(hk:Qf P k ys m λx m1=>x=v/\m1=m')(hy:args.map (RA.ev f)=ys)(h:QF P its ⟨QL f d v,m',ds⟩ K) :
  QF P (⟨some d,.callF (.f k) args,none⟩ :: its) ⟨f,m,ds⟩ K:=by
 refine⟨k,[],[],v,m',rfl,?_,h⟩;show Qf P k (args.map (RA.ev f)++[]) m λx m1=>x=v/\m1=m'
 rw[Qof,hy];exact hk
theorem QT {k:Nat}{args:List RA}{ys:List AV}{R:AV->Qk->Prop}(hk:Qf P k ys m R)(hy:args.map (RA.ev f)=ys)(h:∀x m',R x m'->m'.length=m.length->QF P its ⟨QL f d x,m',ds⟩ K) :
  QF P (⟨some d,.callG (.f k) args,none⟩ :: its) ⟨f,m,ds⟩ K:=by
 refine⟨k,[],[],R,rfl,?_,h⟩;show Qf P k (args.map (RA.ev f)++[]) m R;rw[Qof,hy];exact hk
theorem Fj {site el sz bytes:Nat}{z:List AV}{l c:RA}{kl kc:IntKind}{n k:Nat}{fr:Nat->Ob}(hl:l.ev f=.int kl (n:Int))(hc:c.ev f=.int kc (k:Int))(yG:n<=k)(hk:k<=9223372036854775807)(hb:bytes*k<=281474976710656)(hs:fr site=.none)
  (h:QF P its ⟨QL f d (.vec 0 site 1 0 n false),QL fr site (.vec 1 sz (List.replicate n (Jc sz z))) :: m,ds⟩ K):QF P (⟨some d,.mk site el sz bytes z l c,none⟩ :: its) ⟨f,fr :: m,ds⟩ K:=by
 have e:Qc (fr :: m) 0 site=.none:=hs;refine⟨kl,kc,n,k,hl,hc,yG,hk,hb,?_,?_⟩
 ·show Qn (Qc (fr :: m) 0 site)=true;rw[e];rfl
 ·exact ν
theorem Qar {site el:Nat}{r:RA}{s:List UInt8}{fr:Nat->Ob}(hr:r.ev f=.str s)(hl:s.length<=9223372036854775807)(hs:fr site=.none)
  (h:QF P its ⟨QL f d (.vec 0 site 1 0 s.length false),QL fr site (.vec 1 1 (Qy s)) :: m,ds⟩ K):QF P (⟨some d,.s2b site el r,none⟩ :: its) ⟨f,fr :: m,ds⟩ K:=by
 have e:Qc (fr :: m) 0 site=.none:=hs;refine⟨s,hr,hl,?_,?_⟩
 ·show Qn (Qc (fr :: m) 0 site)=true;rw[e];rfl
 ·exact ν
theorem Ds {el:Nat}{s r:RA}{l site g n:Nat}{xs:List AV}{t:List UInt8}(hs:s.ev f=.vec l site g 0 n false)(hl:Qc m l site=.vec g 1 xs)(ht:Zv site el=true)(hn:n=xs.length)(hr:r.ev f=.str t)(hm:n+t.length<=140737488355328)
  (h:QF P its ⟨QL f d (.vec l site (g+1) 0 (n+t.length) false),Am.put m l site (.vec (g+1) 1 (xs++Qy t)),ds⟩ K):QF P (⟨some d,.appS el s r,none⟩ :: its) ⟨f,m,ds⟩ K:=by
 subst hn;refine⟨l,site,g,_,xs,t,hs,hl,ht,Qm8 _,hr,hm,?_⟩;rw[QoT];exact h
theorem EU {s:Nat}{a:RC}{fr:Nat->Ob}:Q1 P (.gho (.drop s) a) ⟨f,fr :: m,ds⟩ Q=((fr s).isRow=false/\Q1 P a ⟨λi=>(f i).scrub s,QL (λi=>(fr i).scrub s) s .none :: m,ds.map (DF.scrub s)⟩ Q):=by
 apply propext
 have hn:Gg (fr :: m) s=!(fr s).isRow:=by
  unfold Gg;show(match fr s with|.vec .. => false|_=>true)=_;cases fr s<;>rfl
 constructor
 ·rintro⟨ai,h1,h2⟩;simp only[J6,hn]at h1;cases hr:(fr s).isRow with
  |true=>rw[hr]at h1;cases h1
  |false=>rw[hr]at h1;cases h1;exact⟨rfl,h2⟩
 ·rintro⟨h1,h2⟩;refine⟨_,?_,h2⟩;simp only[J6,hn,h1];rfl
theorem EV (s:Nat):AV.top.scrub s=.top:=id rfl
theorem EX (s:Nat)(k:IntKind)(n:Int):(AV.int k n).scrub s=.int k n:=id rfl
theorem T4 (s:Nat)(b:Bool):(AV.bool b).scrub s=.bool b:=id rfl
theorem EY (s:Nat)(b:List UInt8):(AV.str b).scrub s=.str b:=id rfl
theorem T5 (s:Nat):AV.nils.scrub s=.nils:=id rfl
theorem T6 (s:Nat):AV.nilp.scrub s=.nilp:=id rfl
theorem T7 (s:Nat):AV.nili.scrub s=.nili:=id rfl
theorem T8 (s:Nat):AV.nilf.scrub s=.nilf:=id rfl
theorem T9 (s:Nat)(l:List AV):(AV.list l).scrub s=.list l:=id rfl
theorem EZ (s l t g o n:Nat)(q:Bool):(AV.vec l t g o n q).scrub s=.vec l t g o n q:=id rfl
theorem E0 (s:Nat)(l:List AV):(AV.agg l).scrub s=.agg (AV.scrubL s l):=id rfl
theorem E1 (s:Nat)(l:List AV):(AV.tup l).scrub s=.tup (AV.scrubL s l):=id rfl
theorem E2 (s t o:Nat):(AV.ptr 0 t o).scrub s=bif Nat.beq t s then .top else .ptr 0 t o:=id rfl
theorem Aa (s l t o:Nat):(AV.ptr (l+1) t o).scrub s=.ptr (l+1) t o:=id rfl
theorem E3 (s:Nat):AV.scrubL s []=[]:=id rfl
theorem Ab (s:Nat)(x:AV)(l:List AV):AV.scrubL s (x :: l)=x.scrub s :: AV.scrubL s l:=id rfl
theorem Sb (s:Nat)(l:List AV):(Ob.cells l).scrub s=.cells (AV.scrubL s l):=id rfl
theorem E4 (s g z:Nat)(l:List AV):(Ob.vec g z l).scrub s=.vec g z l:=id rfl
theorem Ad (s:Nat):Ob.none.scrub s=.none:=id rfl
theorem FV (s:Nat)(o:Ob):(o.scrub s).isRow=o.isRow:=by cases o<;>rfl
theorem Sc (l:List AV):(Ob.cells l).isRow=false:=id rfl
theorem Ae:Ob.none.isRow=false:=id rfl
def Kh (P:Program)(v:AV)(w:Bool)(d:Option Nat)(ro:RO)(its:List Item)(st:St)(K:St->Prop):Prop :=
 match v with
 |.bool b=>(b=w->QF P (⟨d,ro,none⟩ :: its) st K)/\(b=(!w)->QF P its { st with f:=Ql st.f d (.tup []) } K)
 |.tup l=>l=[]/\QF P its { st with f:=Ql st.f d (.tup []) } K
 |_=>False
theorem Zb {b:Bool}{d:Option Nat}{ro:RO}{st:St}(h1:b=true->QF P (⟨d,ro,none⟩ :: its) st K)(h2:b=false->QF P its { st with f:=Ql st.f d (.tup []) } K):Kh P (.bool b) true d ro its st K:=⟨h1,h2⟩
theorem Zc {b:Bool}{d:Option Nat}{ro:RO}{st:St}(h1:b=false->QF P (⟨d,ro,none⟩ :: its) st K)(h2:b=true->QF P its { st with f:=Ql st.f d (.tup []) } K):Kh P (.bool b) false d ro its st K:=⟨h1,h2⟩
theorem YG {d:Option Nat}{ro:RO}{st:St}:Kh P (.bool true) true d ro its st K=QF P (⟨d,ro,none⟩ :: its) st K:=by simp[Kh]
theorem MD {d:Option Nat}{ro:RO}{st:St}:Kh P (.bool false) false d ro its st K=QF P (⟨d,ro,none⟩ :: its) st K:=by simp[Kh]
theorem Cd {ro:RO}:Kh P (.bool true) false (some d) ro its ⟨f,m,ds⟩ K=QF P its ⟨QL f d (.tup []),m,ds⟩ K:=Ĭ
theorem He {ro:RO}:Kh P (.bool false) true (some d) ro its ⟨f,m,ds⟩ K=QF P its ⟨QL f d (.tup []),m,ds⟩ K:=Ĭ
theorem ME {ro:RO}{w:Bool}:Kh P (.tup []) w (some d) ro its ⟨f,m,ds⟩ K=QF P its ⟨QL f d (.tup []),m,ds⟩ K:=Ĭ
theorem Nk {ro:RO}{st:St}:Kh P (.bool true) false none ro its st K=QF P its st K:=Ĭ
theorem Nl {ro:RO}{st:St}:Kh P (.bool false) true none ro its st K=QF P its st K:=Ĭ
theorem Ce {ro:RO}{w:Bool}{st:St}:Kh P (.tup []) w none ro its st K=QF P its st K:=Ĭ
theorem FX {ro:RO}{j:Nat}{w:Bool}{d:Option Nat}:QF P (⟨d,ro,some (j,w)⟩ :: its) ⟨f,m,ds⟩ K=Kh P (f j) w d ro its ⟨f,m,ds⟩ K:=by
 simp only[QF,Z5,Kh]
 all_goals(generalize f j=v;cases v<;>rfl)
theorem MF {rs:List RR}{n:Nat}{R:AV->Qk->Prop}{fr:Nat->Ob}:Jk rs n R .ret ⟨f,fr :: m,ds⟩=(ds=[]/\ZO (YD ⟨f,fr :: m,ds⟩ rs)/\ZO (Uj (fr :: m) (XZ (YD ⟨f,fr :: m,ds⟩ rs)))/\m.length=n/\R (XZ (Uj (fr :: m) (XZ (YD ⟨f,fr :: m,ds⟩ rs)))) m):=by
 apply propext
 constructor
 ·rintro⟨_,h1,x,y,ag,m',h2,h3,h4,h5,h6⟩;cases h4;have h1:ds=[]:=h1;rw[h2,Kf,h3];exact⟨h1,rfl,rfl,h5,h6⟩
 ·rintro⟨h1,h2,h3,h4,h5⟩;generalize hv:YD ⟨f,fr :: m,ds⟩ rs=v at h2 h3 h5;cases v with
  |none=>cases h2
  |some x=>
   rw[Kf]at h3 h5;cases hl:Uj (fr :: m) x with
   |none=>rw[hl]at h3;cases h3
   |some y=>
    rw[hl]at h5;exact⟨.inr rfl,h1,x,y,fr,m,hv,hl,rfl,h4,h5⟩
theorem MG {rs:List RR}{n:Nat}{R:AV->Qk->Prop}{st:St}:Jk rs n R .normal st=Jk rs n R .ret st:=by
 simp[Jk]
theorem Yg {α:Type}(f:Nat->α)(d:Nat)(x:α)(i:Nat):QL f d x i=bif Nat.beq i d then x else f i:=id rfl
theorem K6 (a b:Nat):Nat.beq a b=(a==b):=by
 cases h:Nat.beq a b with
 |true=>rw[Qm6 h];simp
 |false=>have:=Nat.ne_of_beq_eq_false h;simp[this]
theorem K7 {s idx site sz:Nat}{a:RC}{fr:Nat->Ob}{xs:List AV}(h1:fr s=.cells xs)(h2:xs[idx]? = some .nils)(h3:fr site=.none)(aq:Nat.beq site s=false)(h:Q1 P a ⟨f,QL (QL fr site (.vec 1 sz [])) s (.cells (xs.set idx (.vec 0 site 1 0 0 false))) :: m,ds⟩ Q):Q1 P (.gho (.vecc s idx site sz) a) ⟨f,fr :: m,ds⟩ Q:=by
 refine⟨_,?_,h⟩;have e1:Qc (fr :: m) 0 s=.cells xs:=h1;have e:Qc (fr :: m) 0 site=.none:=h3;simp[J6,e1,h2,e,Qn,QB,Am.put,aq]
theorem Fk {α:Type}(f:Nat->α)(d:Nat)(x y:α):QL (QL f d x) d y=QL f d y:=by
 funext i;by_cases h:i=d
 ·subst h;rw[Q6,Q6]
 ·rw[Xe _ _ h,Xe _ _ h,Xe _ _ h]
theorem MH {α:Type}(f:Nat->α)(d e:Nat)(x y:α)(wQ:d≠e):QL (QL f d x) e y=QL (QL f e y) d x:=by
 funext i;by_cases h:i=d
 ·subst h;rw[Q6,Xe _ _ wQ,Q6]
 ·by_cases h2:i=e
  ·subst h2;rw[Q6,Xe _ _ h,Q6]
  ·rw[Xe _ _ h2,Xe _ _ h,Xe _ _ h,Xe _ _ h2]
theorem Qdq {α:Type}(f:Nat->α)(d:Nat)(x:α)(h:f d=x):QL f d x=f:=by
 funext i;by_cases hi:i=d
 ·subst hi;rw[Q6,h]
 ·rw[Xe _ _ hi]
theorem Dt (n:Nat):(RA.t n).ev f=f n:=id rfl
theorem Cf (x:AV):(RA.c x).ev f=x:=id rfl
theorem e_f (k:Nat):(RA.f k).ev f=.fn (.func k) [] []:=id rfl
end
end Am
namespace Br
open Go Am Go.RowKit Go.WideShapes Go.ChangeShapes Go.ChangeAt
def MI {P:Program}{k:FuncId}{args:List AV}{v:Bool}(h:Qi P k args (.bool v)){stab:Nat->Nat->Option SV}(ht:∀b o v,J9 b o=some v->stab b o=some v){w:World}(hs:∀b o u,stab b o=some u->rd w b o u){vs:List Value}(hr:RepL (Gh.bare stab ht) args vs) :
  Calls P k ⟨vs⟩ w λe w'=>e=.returned (.bool v)/\Below w.heap.size w w' :=
 (h.2 (Gh.bare stab ht) w vs hr (MR.bare hs)).mono λe w' ⟨G',x,u,m',he,hx,hu,_,hex,_⟩=>by
  subst hx;cases hu;exact⟨he,hex.os,hex.tape,hex.output,hex.size,λb hb=>(hex.old b hb Gh.bare_mine).1⟩
def Qdr {G:Gh}(s:ByteArray):Rep G (.str s.data.toList) (.string s):=by
 obtain⟨⟨l⟩⟩:=s;exact .str l
def MJ {n:Int}(h:(Lit.int .u64 n).wf=true):0<=n:=by
 exact B_
def Nm {n:Int}(h:(Lit.int .u64 n).wf=true):n<18446744073709551616:=by
 exact B_
section
variable {H:Type}{dH:TypeId×Value->H}{P:Program}
theorem C0 {f:Func}{s:ChangeSpec}{Fh fresh handsOn again:Bool}{W W':World}{args:Array Value}{v:Value}{ds gs:List (DataW H)}{before pa pv:List MemPlace}
  (hW:DataW.Whole dH P f.params.toList s.vars Fh W args.toList ds gs before)
  (dx:∀(b:Nat) (sp:Nat->Bool) (hd:Bool),DataW.TrodAll dH P W' b sp hd f.resultTypes.toList (v.resultList f.resultTypes.size) (s.fn H (ds++gs)).results [])
  (lU:∀sp:Nat->Bool,(∀p∈before,sp p.block=true)->DataW.TrodAll dH P W' 0 sp true f.params.toList args.toList (s.fn H (ds++gs)).args pa)
  (lQ:∀sp:Nat->Bool,(∀p∈before,sp p.block=true)->DataW.TrodVars dH P W' sp s.vars (s.fn H (ds++gs)).vars pv)
  (io:before=pa++pv) (hb:Below W.heap.size W W')
  (bz:∀(j:Nat) (t:TypeId) (r:Value),f.resultTypes[j]? = some t->(v.resultList f.resultTypes.size)[j]? = some r->Value.okWide P W' .any 0 t r) :
  s.post dH P f Fh fresh handsOn again W args v W':=by
 have aa:∀p∈before,p.block<W.heap.size:=λp hp=>hW.lt p hp
 have hold:∀p∈before,(λb=>decide (b<W.heap.size)) p.block=true:=λp hp=>by simpa using aa p hp
 refine⟨ds,gs,before,[],pa,pv,hW,dx _ _ _,lU _ hold,lQ _ hold,World.keptBut_mono (λp hp=>⟨hp,?_⟩) (hb.frame (·∈before)),λ_=>?_⟩
 ·rw[io,Qow]at hp;exact Or.inr hp
 ·obtain⟨_,_,_,_,_,hz,hn⟩:=hW;refine⟨bz,_,_,([]++pa)++pv,⟨[]++pa,pv,trodAll_append (lU _ (λ_ _=>rfl)) (dx _ _ _),lQ _ (λ_ _=>rfl),rfl,?_,?_⟩,?_⟩
  ·intro b off hp;have fY:MemPlace.cell b off∈before:=by rw[io];simpa using hp
   rw[hb.frozen (aa _ fY)];exact hz b off fY
  ·intro ha;have:=hn ha;rw[io]at this
   simpa using this
  ·intro p hp _;rw[io]
   simpa using hp
end
section
variable {H:Type}{dH:TypeId×Value->H}{P:Program}{w:World}{base:Nat}{sp:Nat->Bool}{held:Bool}
def Ah (g:DataW H->Option (List Value)):List (DataW H)->Option (List Value)
 | []=>some []
 |d :: ds=>match g d,Ah g ds with
  |some a,some b=>some (a++b)
  |_,_=>none
def Gs (P:Program)(g:TypeId->DataW H->Option (List Value)):Nat->Nat->List Field->List (DataW H)->Option (List Value)
 |o,n,[],[]=>bif o==n then some []else none
 |o,n,f :: fs,d :: ds=>bif f.offset==o then match g f.type d,Gs P g (o+P.cellsOf f.type) n fs ds with
  |some a,some b=>some (a++b)
  |_,_=>none else none
 |_,_,_,_=>none
def Du (P:Program):Nat->TypeId->DataW H->Option (List Value)
 |0,_,_=>none
 |k+1,t,d=>match P.underlying t with
  |some (.int ik)=>match d with
   |.lit (.int wu n)=>bif wu==ik then some [.int ik n]else none
   |_=>none
  |some (.array n e)=>match d with
   |.agg ds=>bif P.cellsOf t==n*P.cellsOf e then Ah (Du P k e) ds else none
   |_=>none
  |some (.struct fs)=>match d with
   |.agg ds=>Gs P (Du P k) 0 (P.cellsOf t) fs.toList ds
   |_=>none
  |_=>none
theorem Sw {g:DataW H->Option (List Value)}{c:Nat}:∀ {ds:List (DataW H)} {cs ls:List Value},cs.length=ds.length*c->(∀i d l,ds[i]? = some d->g d=some l->(cs.drop (i*c)).take c=l)->Ah g ds=some ls->cs=ls
 | [],cs,ls,hl,_,h=>by
  cases h;exact Qoh Ä
 |d :: ds,cs,ls,hl,hx,h=>by
  rw[Ah]at h;split at h
  ·rename_i a b ea eb;cases h;rw[Qnq,Nat.succ_mul]at hl;have h0:=hx 0 d a rfl ea;rw[Nat.zero_mul,QnT]at h0;have h1:cs.drop c=b:=Sw (c:=c) ý (λi d' l hd hg=>by
    have:=hx (i+1) d' l (by simpa using hd) hg;rw[QnG]
    rwa [Nat.succ_mul,Nat.add_comm]at this) eb
   rw[<-h0,<-h1,Qou]
  ·cases h
theorem ML {g:TypeId->DataW H->Option (List Value)}{cs:List Value}:∀ {fs:List Field} {ds:List (DataW H)} {o:Nat} {ls:List Value},(∀(i:Nat) (f:Field) (d:DataW H) l,fs[i]? = some f->ds[i]? = some d->g f.type d=some l->(cs.drop f.offset).take (P.cellsOf f.type)=l)->Gs P g o cs.length fs ds=some ls->cs.drop o=ls
 | [],[],o,ls,_,h=>by
  rw[Gs]at h;cases ho:o==cs.length with
  |false=>rw[ho]at h;cases h
  |true=>
   rw[ho]at h;cases h;rw[Qng]at ho;rw[ho,List.drop_length]
 |f :: fs,d :: ds,o,ls,hx,h=>by
  rw[Gs]at h;cases ho:f.offset==o with
  |false=>rw[ho]at h;cases h
  |true=>
   rw[ho,cond_true]at h;rw[Qng]at ho;split at h
   ·rename_i a b ea eb;cases h;have h0:=hx 0 f d a rfl rfl ea;have h1:=ML (λi f' d' l h1 h2 h3=>hx (i+1) f' d' l Ϭ ϭ h3) eb;rw[ho]at h0;rw[<-h0,<-h1,<-QnG,Qou]
   ·cases h
 | [],_ :: _,_,_,_,h=>by rw[Gs]at h;cases h;all_goals simp
 |_ :: _,[],_,_,_,h=>by rw[Gs]at h;cases h;all_goals simp
theorem Dv:∀(k m:Nat) (t:TypeId) (cs:List Value) (d:DataW H) (p:List MemPlace) (ls:List Value),DataW.trod dH P w base sp held m t cs=some (d,p)->Du P k t d=some ls->cs=ls
 |0,_,_,_,_,_,_,_,h=>by cases h
 |k+1,m,t,cs,d,p,ls,ht,h=>by
  rw[Du]at h;split at h
  ·rename_i ik hu;obtain⟨n,rfl,e,_⟩:=DataW.trod_int hu ht;cases e;simp only[BEq.rfl,cond_true,QnC]at h;exact h
  ·rename_i n e hu;obtain⟨xs,m',rfl,ex,hlen,iE,hx⟩:=DataW.trod_array hu ht;cases ex;dsimp only at h;cases hc:P.cellsOf t==n*P.cellsOf e with
   |false=>rw[hc]at h;cases h
   |true=>
    rw[hc,cond_true]at h;rw[Qng]at hc;refine Sw (c:=P.cellsOf e) (by rw[Qn6,iE,hlen,hc]) (λi d l hd hg=>?_) h;rw[QoA,Qnd]at hd;obtain⟨x,h1,rfl⟩:=hd;have h2:=hx i (by rw[<-iE];exact(Qna.1 h1).1);rw[h1]at h2;exact Dv k m' e _ x.1 x.2 l h2 hg
  ·rename_i fs hu;obtain⟨xs,m',rfl,ex,hlen,iE,hx⟩:=DataW.trod_struct hu ht;cases ex;dsimp only at h;rw[<-hlen]at h;have:=ML (P:=P) (cs:=cs) (λi f d l hf hd hg=>by
    rw[QoA,Qnd]at hd;obtain⟨x,h1,rfl⟩:=hd;have h2:=hx i f (by simpa using hf);rw[h1]at h2;exact Dv k m' f.type _ x.1 x.2 l h2 hg) h
   rwa [QnT]at this
  ·cases h
def vEq:Value->Value->Bool
 |.int k n,.int k' n'=>k==k'&&n==n'
 |_,_=>false
theorem Qe7:∀ {a b:Value},vEq a b=true->a=b:=by
 intro a b h;unfold vEq at h;split at h
 ·rw[Qnz,Qng,Qng]at h;rw[h.1,h.2]
 ·cases h
def Ai:List Value->List Value->Bool
 | [],[]=>true
 |a :: l,b :: r=>vEq a b&&Ai l r
 |_,_=>false
theorem Sx:∀ {a b:List Value},Ai a b=true->a=b
 | [],[],_=>rfl
 |a :: l,b :: r,h=>by
  rw[Ai,Qnz]at h;rw[Qe7 h.1,Sx h.2]
 | [],_ :: _,h=>by cases h
 |_ :: _,[],h=>by cases h
theorem Sy {n:String}{d:DataW Unit}:∀ {l:List (String×DataW Unit)} {ps:List MemPlace},DataW.LaidVars P w l ps->(n,d)∈l->
  ∃g t cs fuel p,P.globalNamed n=some g/\(P.globals[g]?).map (·.type)=some t/\w.var? P n=some cs/\DataW.trod (λ_=>()) P w 0 (λ_=>true) false fuel t cs.toList=some (d,p)
 | [],_,_,hm=>by cases hm
 |x :: r,ps,h,hm=>by
  obtain⟨g,t,cs,fuel,p,q,k1,k2,k3,k4,k5,_⟩:=h;rcases Qoz.1 hm with e|e
  ·subst e;exact⟨g,t,cs,fuel,p,k1,k2,k3,k4⟩
  ·exact Sy k5 e
def Qhb (P:Program)(laid:List (String×DataW Unit)):Bool :=
 Md.all λx=>laid.any λy=>P.globalNamed y.1==some x.1&&(match (P.globals[x.1]?).map (·.type)with
  |some t=>(match Du P 6 t y.2 with
   |some l=>Ai l x.2
   |none=>false)
  |none=>false)
theorem Nn {b:Nat}{l:List Value}:∀ {T:List (Nat×List Value)},T.lookup b=some l->(b,l)∈T
 | [],h=>by cases h
 |(c,m) :: T,h=>by
  rw[List.lookup]at h;split at h
  ·rename_i e;cases h;rw[Qng]at e;subst e;exact Qnt ..
  ·exact Qnr _ (Nn h)
theorem Qds {laid:List (String×DataW Unit)}(h:laidMet P laid w)(ht:Qhb P laid=true):Di w:=by
 intro b o v e;obtain⟨ps,hv,_⟩:=h;unfold J9 at e;cases hl:Md.lookup b with
 |none=>rw[hl]at e;cases e
 |some l=>
  rw[hl]at e;have h1:=Qno.1 ht _ (Nn hl);obtain⟨⟨n,d⟩,hy,h2⟩:=QoU.1 h1;rw[Qnz]at h2;obtain⟨h2,h3⟩:=h2;have h2:P.globalNamed n=some b:=ϭ
  obtain⟨g,t,cs,fuel,p,k1,k2,k3,k4⟩:=Sy hv hy;rw[h2]at k1;cases k1;dsimp only at h3;rw[k2]at h3;dsimp only at h3;split at h3
  ·rename_i l' hc;have h4:=Dv 6 fuel t cs.toList d p l' k4 hc;rw[Sx h3]at h4;unfold World.var? at k3;rw[h2]at k3;simp only[Option.bind_some]at k3;split at k3
   ·rename_i cK t' fz hh;cases k3;dsimp only at e;split at e
    ·rename_i ho;cases e;exact⟨cs,t',fz,hh,by rw[ho,<-h4];simp,rfl⟩
    ·obtain⟨u,hu,rfl⟩:=Qnd.1 e;show w.cell? ⟨b,o,none⟩=some u;rw[cell_of_row w b o cs t' fz hh,<-QnF,h4];exact hu
   ·cases k3
  ·cases h3
end
end Br
namespace Am
open Go
variable {P:Program}{f:Fr}{m:Qk}{ds:List DF}{its:List Item}{d:Nat}
theorem Fl {Q:Exit->St->Prop}{a:RC}{slot site g sz n:Nat}{fr:Nat->Ob}{xs:List AV}(h1:f slot=.vec 0 site g 0 n false)(h2:fr site=.vec g sz xs)(hn:n<=xs.length)
  (h:Q1 P a ⟨QL f slot (.list (xs.take n)),QL fr site (.vec (g+1) sz []) :: m,ds⟩ Q):Q1 P (.gho (.pub slot site) a) ⟨f,fr :: m,ds⟩ Q:=by
 refine⟨_,?_,h⟩;have e:Qc (fr :: m) 0 site=.vec g sz xs:=h2;simp only[J6,h1,e];rw[show Nat.beq site site=true from Nat.beq_refl site,show Nat.beq g g=true from Nat.beq_refl g,show Nat.ble (0+n) xs.length=true from Nat.ble_eq_true_of_le ψ];rfl
def Fm:List Nat->RC->RC
 | [],a=>a
 |s :: l,a=>.gho (.drop s) (Fm l a)
def Bj:List Nat->AV->AV
 | [],x=>x
 |s :: l,x=>Bj l (x.scrub s)
def Fo:List Nat->Ob->Ob
 | [],x=>x
 |s :: l,x=>Fo l (x.scrub s)
theorem Aj (l:List Nat):Fo l .none=.none:=by
 induction l with
 |nil=>rfl
 |cons s l ih=>exact ih
theorem QR {Q:Exit->St->Prop}{a:RC}(l:List Nat):∀ {f:Fr} {fr:Nat->Ob},(∀s∈l,(fr s).isRow=false)->
  (∀f' ag,(∀i,f' i=Bj l (f i))->(∀i,i∉l->ag i=Fo l (fr i))->(∀i∈l,ag i=.none)->Q1 P a ⟨f',ag :: m,[]⟩ Q)->Q1 P (Fm l a) ⟨f,fr :: m,[]⟩ Q:=by
 induction l with
 |nil=>intro f fr _ h;exact h f fr (λ_=>rfl) (λ_ _=>rfl) (λ_ h=>Á)
 |cons s l ih=>
  intro f fr hr h;show Q1 P (.gho (.drop s) (Fm l a)) _ _;rw[EU];refine⟨hr s ό,?_⟩;show Q1 P (Fm l a) ⟨_,_ :: m,[]⟩ Q;refine ih ?_ ?_
  ·intro t ht;by_cases e:t=s
   ·subst e;rw[Q6];rfl
   ·rw[Xe _ _ e,FV];exact hr t (by simp[ht])
  ·intro f' ag h1 h2 h3;refine h f' ag h1 ?_ ?_
   ·intro i hi;rw[h2 i (λh=>hi (Qnr _ h)),Xe _ _ (λe=>hi (by rw[e];exact Qnt))];rfl
   ·intro i hi;by_cases hl:i∈l
    ·exact h3 i hl
    ·have e:i=s:=by
      rcases Qoz.1 hi with e|e
      ·exact e
      ·exact absurd e hl
     rw[h2 i hl,e,Q6,Aj]
def XO:Ob->Nat
 |.vec g _ _=>g+1
 |_=>1
theorem Kp {fr:Nat->Ob}{s:Nat}:QB (fr :: m) 0 s=XO (fr s):=by
 unfold QB XO;rfl
theorem KC {K:St->Prop}{neg:Bool}{r:RA}{ys:List AV}(hr:r.ev f=.list ys)(h0:QF P its ⟨QL f d (.bool neg),m,ds⟩ K)(h1:ys=[]\/QU ys=[]->QF P its ⟨QL f d (.bool (!neg)),m,ds⟩ K):QF P (⟨some d,.isnil neg r,none⟩ :: its) ⟨f,m,ds⟩ K:=by
 refine⟨ys,?_,λ_=>h0,λe=>h1 ?_⟩
 ·show Xc m (r.ev f)=some ys;rw[hr];rfl
 ·rcases e with e|e
  ·have e:r.ev f=.nils:=e;rw[hr]at e;cases e
  ·exact .inr e
theorem Hf {K:St->Prop}{site sz bytes el:Nat}{s r:RA}{fr:Nat->Ob}{xs ys:List AV}(hs:s.ev f=.lcap xs)(hr:r.ev f=.list ys)(aq:ys≠[])(ix:xs.all (λe=>e.cells.length==sz)=true)(aX:ys.all (λe=>e.cells.length==sz)=true)(hm:xs.length+ys.length<=maxLen)(hb:(xs.length+ys.length)*bytes<=140737488355328)(ak:Qn (fr site)=true)
  (h:QF P its ⟨QL f d (.vec 0 site (XO (fr site)) 0 (xs.length+ys.length) false),QL fr site (.vec (XO (fr site)) sz (xs++ys)) :: m,ds⟩ K):QF P (⟨some d,.appc site sz bytes el s r,none⟩ :: its) ⟨f,fr :: m,ds⟩ K:=by
 refine⟨xs,ys,hs,?_,aq,ix,aX,hm,hb,ak,h⟩;show Xc (fr :: m) (r.ev f)=some ys;rw[hr];rfl
theorem Jt {K:St->Prop}{site sz:Nat}{fr:Nat->Ob}(hs:Qn (fr site)=true)
  (h:QF P its ⟨QL f d (.vec 0 site (XO (fr site)) 0 0 false),QL fr site (.vec (XO (fr site)) sz []) :: m,ds⟩ K):QF P (⟨some d,.bsl0 site sz,none⟩ :: its) ⟨f,fr :: m,ds⟩ K :=
 ⟨hs,h⟩
theorem Ch {K:St->Prop}{site sz len:Nat}{z:List AV}{ps:List (Nat×Nat×RA)}{fr:Nat->Ob}{y:List AV}(hy:fill f ps (Zj z sz len)=some y)(h1:AV.rfL y=true)(h2:y.all AV.leaf=true)(hs:Qn (fr site)=true)
  (h:QF P its ⟨QL f d (.vec 0 site (XO (fr site)) 0 len false),QL fr site (.vec (XO (fr site)) sz (ZG sz len (y.map nn0))) :: m,ds⟩ K):QF P (⟨some d,.bslv site sz len z ps,none⟩ :: its) ⟨f,fr :: m,ds⟩ K :=
 ⟨y,hy,h1,h2,hs,h⟩
theorem No {K:St->Prop}{site sz:Nat}{z l:List AV}{r:RA}{fr:Nat->Ob}(hr:r.ev f=.agg l)(hl:l.length=sz)(h1:sz≠1)(hf:AV.rfL l=true)(c_:l.all AV.leaf=true)(hs:Qn (fr site)=true)
  (h:QF P its ⟨QL f d (.vec 0 site (XO (fr site)) 0 1 false),QL fr site (.vec (XO (fr site)) sz [.agg (l.map nn0)]) :: m,ds⟩ K):QF P (⟨some d,.bslv site sz 1 z [(0,sz,r)],none⟩ :: its) ⟨f,fr :: m,ds⟩ K:=by
 have hz:(Zj z sz 1).length=sz:=by simp[Zj]
 have hy:fill f [(0,sz,r)] (Zj z sz 1)=some l:=by
  exact OG
 have hc:ZG sz 1 (l.map nn0)=[.agg (l.map nn0)]:=by
  simp only[ZG,Qni h1];rw[QnL Ω]
 refine Ch hy hf c_ hs ?_;rw[hc];exact h
theorem ZC {Q:Exit->St->Prop}{a:RC}{slot site l S g sz o n:Nat}{q:Bool}{fr:Nat->Ob}{xs:List AV}(h1:f slot=.vec 0 site g o n q)(h2:fr site=.vec g sz xs)(hl:l<m.length)(hS:S<2000)(hr:Qn (Qc m l S)=true)
  (h:Q1 P a ⟨QL f slot (.vec (l+1) S (QB m l S) o n q),QL fr site (.vec (g+1) sz []) :: Am.put m l S (.vec (QB m l S) sz xs),ds⟩ Q):Q1 P (.gho (.give slot site (l+1) S) a) ⟨f,fr :: m,ds⟩ Q:=by
 refine⟨_,?_,h⟩;have e:Qc (fr :: m) 0 site=.vec g sz xs:=h2;have e1:Qn (Qc (fr :: m) (l+1) S)=true:=hr;have e2:QB (fr :: m) (l+1) S=QB m l S:=rfl;simp only[J6,h1,e,e1,e2];rw[show Nat.beq site site=true from Nat.beq_refl site,show Nat.beq g g=true from Nat.beq_refl g,show Nat.blt (l+1) (fr :: m).length=true from Nat.ble_eq_true_of_le Ϗ,show Nat.blt S 2000=true from Nat.ble_eq_true_of_le hS];rfl
theorem MM {Q:Exit->St->Prop}{a:RC}{slot:Nat}(h1:f slot=.nils)(h:Q1 P a ⟨QL f slot (.list []),m,ds⟩ Q):Q1 P (.gho (.lst slot) a) ⟨f,m,ds⟩ Q:=by
 refine⟨_,?_,h⟩;simp only[J6,h1]
theorem Np {K:St->Prop}{k:Nat}{r:RA}{args:List RA}{fa fb ys:List AV}{v:AV}{m':Qk}(hr:r.ev f=.fn (.func k) fa fb)(hk:Qf P k ys m λx m1=>x=v/\m1=m')(hy:fa++args.map (RA.ev f)++fb=ys)(h:QF P its ⟨QL f d v,m',ds⟩ K) :
  QF P (⟨some d,.callF r args,none⟩ :: its) ⟨f,m,ds⟩ K:=by
 refine⟨k,fa,fb,v,m',hr,?_,h⟩;show Qf P k (fa++args.map (RA.ev f)++fb) m λx m1=>x=v/\m1=m'
 rw[hy];exact hk
theorem Wn {K:St->Prop}{k:Nat}{r:RA}{args:List RA}{fa fb ys:List AV}{v:AV}(hr:r.ev f=.fn (.func k) fa fb)(hk:Qi P k ys v)(hy:AV.stillL false m (fa++args.map (RA.ev f)++fb)=some ys)(h1:AV.rfL ys=true)(h2:v.rf=true)
  (h3:AV.rfL (fa++args.map (RA.ev f)++fb)=true\/v.nl=true) (h:QF P its ⟨QL f d v,m,ds⟩ K):QF P (⟨some d,.call r args,none⟩ :: its) ⟨f,m,ds⟩ K :=
 ⟨k,fa,fb,ys,v,hr,hy,h1,hk,h2,h3,h⟩
end Am
namespace Am
open Go
abbrev Ci:=FuncId->Option (RC×List RR×Nat)
def Fp (P:Program)(T:Ci):Prop :=
 ∀k c rs N, T k=some (c, rs, N)->∃fn body, P.funcs[k]? = some fn/\fn.body=some body/\(fn.name == "runtime.NumGoroutine")=false/\fn.ntmps=N/\ZI P N c body=true/\Wu P fn.results.toList rs=true
abbrev YW:=FuncId->List AV->Qk->Option (AV×Qk)
def Nq:Ob->Ob->Bool
 |.cells [.vec l s g o n q],.cells [.vec l' s' g' o' n' q']=>Nat.beq l l'&&Nat.beq s s'&&Nat.beq g g'&&Nat.beq o o'&&Nat.beq n n'&&q==q'
 |_,_=>false
def E5:∀ {a b:Ob},Nq a b=true->a=b:=by
 intro a b h;unfold Nq at h;split at h
 ·simp only[Qnz,Qng]at h;obtain⟨⟨⟨⟨⟨h1,h2⟩,h3⟩,h4⟩,h5⟩,h6⟩:=h;rw[Qm6 h1,Qm6 h2,Qm6 h3,Qm6 h4,Qm6 h5,h6]
 ·cases h
def Ux:Nat->Nat->Ob->Qk
 |0,s,o=>[λt=>bif Nat.beq t s then o else .none]
 |l+1,s,o=>(λ_=>.none) :: Ux l s o
def W2:∀(l s:Nat) (o:Ob) (i t:Nat),Qc (Ux l s o) i t=if i=l/\t=s then o else .none
 |0,s,o,0,t=>by
  show(bif Nat.beq t s then o else Ob.none)=_;by_cases h:t=s
  ·subst h;rw[Qnj ⟨rfl,rfl⟩,show Nat.beq t t=true from Nat.beq_refl t];rfl
  ·rw[Qni (λe=>h e.2)];cases hb:Nat.beq t s with
   |true=>exact absurd (Qm6 hb) h
   |false=>rfl
 |0,s,o,i+1,t=>by
  rw[Qni ψ];cases i<;>rfl
 |l+1,s,o,0,t=>by
  rw[Qni ψ];rfl
 |l+1,s,o,i+1,t=>by
  show Qc (Ux l s o) i t=_;rw[W2];simp only[Nat.add_right_cancel_iff]
mutual
def AV.npv (l s:Nat):AV->Bool
 |.vec i t _ _ _ _=>Nat.beq i l&&Nat.beq t s
 |.ptr .. | .mptr .. | .vptr .. | .rptr _=>false
 |.agg a|.tup a=>AV.npvL l s a
 |.iface _ x=>x.npv l s
 |.fn _ a b=>AV.npvL l s a&&AV.npvL l s b
 |_=>true
def AV.npvL (l s:Nat):List AV->Bool
 | []=>true
 |x :: a=>x.npv l s&&AV.npvL l s a
end
mutual
theorem Rep.npv {G G':Gh}{l s:Nat}(hg:G.sameStab G')(h1:G'.vg l s=G.vg l s)(h2:G'.vm l s=G.vm l s)(h3:G'.vc l s=G.vc l s)(h4:G'.vz l s=G.vz l s):∀ {x:AV} {v:Value},x.npv l s=true->Rep G x v->Rep G' x v
 |_,_,_,.top v=>.top v
 |_,_,_,.int k n=>.int k n
 |_,_,_,.bool b=>.bool b
 |_,_,_,.str s=>.str s
 |_,_,_,.nils=>.nils
 |_,_,_,.nilp=>.nilp
 |_,_,_,.nilf=>.nilf
 |_,_,_,.nili=>.nili
 |_,_,_,.nilm=>.nilm
 |_,_,_,.anyp p=>.anyp p
 |_,_,_,.list hc hz hf hl hs hn bm hm=>.list (RepL.rfd hg hf hc) hz hf hl (λj u h=>by
   obtain⟨b,o,e,h'⟩:=hs j u h;exact⟨b,o,e,hg _ _ _ h'⟩) hn bm hm
 |_,_,_,.lcap hc hz hf hl hs hn hm=>.lcap (RepL.rfd hg hf hc) hz hf hl (λj u h=>by
   obtain⟨b,o,e,h'⟩:=hs j u h;exact⟨b,o,e,hg _ _ _ h'⟩) hn hm
 |_,_,hr,.agg h=>.agg (RepL.npv hg h1 h2 h3 h4 hr h)
 |_,_,hr,.tup h=>.tup (RepL.npv hg h1 h2 h3 h4 hr h)
 |_,_,hr,.iface h=>.iface (Rep.npv hg h1 h2 h3 h4 hr h)
 |_,_,hr,.fn ha hb=>by
   have hr:=Qnc.1 hr;exact .fn (RepL.npv hg h1 h2 h3 h4 hr.1 ha) (RepL.npv hg h1 h2 h3 h4 hr.2 hb)
 |_,_,hr,.ptr h=>by cases hr
 |_,_,hr,.mp h=>.mp (hg _ _ _ h)
 |_,_,hr,.mptr h=>by cases hr
 |_,_,hr,.vec hv hl h=>by
   have hr:=Qnc.1 hr;have e1:=Qm6 hr.1;have e2:=Qm6 hr.2;rw[e1,e2]at hl h |-;exact .vec hv (by rw[h1];exact hl) (by rw[h1,h2,h3,h4];exact h)
 |_,_,hr,.vptr hv hl h=>by cases hr
 |_,_,hr,.rptr hc hf hl hs=>by cases hr
theorem RepL.npv {G G':Gh}{l s:Nat}(hg:G.sameStab G')(h1:G'.vg l s=G.vg l s)(h2:G'.vm l s=G.vm l s)(h3:G'.vc l s=G.vc l s)(h4:G'.vz l s=G.vz l s):∀ {x:List AV} {v:List Value},AV.npvL l s x=true->RepL G x v->RepL G' x v
 |_,_,_,.nil=>.nil
 |_,_,hr,.cons h t=>by
   have hr:=Qnc.1 hr;exact .cons (Rep.npv hg h1 h2 h3 h4 hr.1 h) (RepL.npv hg h1 h2 h3 h4 hr.2 t)
end
def Sd {P:Program}{k:FuncId}{args:List AV}{l s g z:Nat}{xs:List AV}{v:AV}{m1:Qk}(h:Qf P k args (Ux l s (.vec g z xs)) (λx m'=>x=v/\m'=m1))(hr:Qc m1 l s=.vec g z xs)(hv:v.rf=true)(hn:AV.npvL l s args=true)(m:Qk)(hm:Qc m l s=.vec g z xs):Qf P k args m (λx m'=>x=v/\m'=m):=by
 refine⟨h.1,λG w vs aj bV=>?_⟩
 let G0:Gh:={ stab:=G.stab,nm:=λ_ _=>none,vm:=λi t=>if i=l/\t=s then G.vm l s else none,vc:=λi t=>if i=l/\t=s then G.vc l s else 0,vg:=λi t=>if i=l/\t=s then G.vg l s else 0,vz:=λi t=>if i=l/\t=s then G.vz l s else 0,tab:=G.tab }
 have z1:G0.vg l s=G.vg l s:=Qnj ⟨rfl,rfl⟩;have z2:G0.vm l s=G.vm l s:=Qnj ⟨rfl,rfl⟩;have z3:G0.vc l s=G.vc l s:=Qnj ⟨rfl,rfl⟩;have z4:G0.vz l s=G.vz l s:=Qnj ⟨rfl,rfl⟩;have zn:∀ {i t:Nat},¬(i=l/\t=s)->G0.vm i t=none:=λh=>Qni h
 have lV:∀ {b:Nat},G0.mine b->G.vm l s=some b:=by
  rintro b (⟨i,t,e⟩|⟨i,t,e⟩)
  ·cases e
  ·by_cases hc:i=l/\t=s
   ·rw[show G0.vm i t=G.vm l s from Qnj hc]at e;exact e
   ·rw[zn hc]at e;cases e
 obtain⟨v1,v2,v3,v4⟩:=bV.vec l s g z xs hm;have s6:MR G0 (Ux l s (.vec g z xs)) w:={
  stab:=bV.stab
  cells:=λi t ys e=>by rw[W2]at e;split at e<;>cases e
  nm:=λi t b e=>by cases e
  vec:=λi t g' z' ys e=>by
   rw[W2]at e;by_cases hc:i=l/\t=s
   ·rw[Qnj hc]at e;cases e;rw[hc.1,hc.2,z1,z2,z3,z4];exact⟨v1,v2,v3,v4.imp id λ⟨b,e',r⟩=>⟨b,e',r.of rfl λvs hv=>RepL.rfd (G:=G) (G':=G0) (λ_ _ _ h=>h) v3.rf hv⟩⟩
   ·rw[Qni hc]at e;cases e
  vm:=λi t b e=>by
   have e':=lV (.inr ⟨i,t,e⟩);by_cases hc:i=l/\t=s
   ·exact⟨⟨g,z,xs,by rw[W2,Qnj hc]⟩,(bV.vm _ _ _ e').2⟩
   ·rw[zn hc]at e;cases e
  gone:=λi t e=>by
   rw[W2]at e;by_cases hc:i=l/\t=s
   ·rw[Qnj hc]at e;cases e
   ·exact Qni hc
  inj1:=λi t i' t' b e=>by cases e
  inj2:=λi t i' t' b e e'=>by
   by_cases hc:i=l/\t=s
   ·by_cases lB:i'=l/\t'=s
    ·exact⟨hc.1.trans lB.1.symm,hc.2.trans lB.2.symm⟩
    ·rw[zn lB]at e';cases e'
   ·rw[zn hc]at e;cases e
  inj3:=λi t i' t' b e=>by cases e
  iter:=λi t y p e=>by rw[W2]at e;split at e<;>cases e }
 refine(h.2 G0 w vs (RepL.npv (G:=G) (G':=G0) (λ_ _ _ h=>h) z1 z2 z3 z4 hn aj) s6).mono λe w' ⟨G',x,v',m',he,⟨hx,kW⟩,bQ,aH,ext,_⟩=>?_
 subst hx kW;have hg:∀b o v,G.stab b o=some v->G'.stab b o=some v:=ext.stab;obtain⟨u1,u2,u3,u4⟩:=aH.vec l s g z xs hr;have sq:=ext.vs l s (by rw[u1,z1,v1]);have old:∀b,b<w.heap.size->G.vm l s≠some b->w'.heap[b]? = w.heap[b]?/\∀o,G'.stab b o=G.stab b o:=λb hb aq=>ext.old b hb λhc=>aq (lV hc)
 refine⟨G.with G'.stab hg,x,v',m,he,⟨rfl,rfl⟩,Rep.rfd (G:=G') (G':=G.with G'.stab hg) (λ_ _ _ h=>h) hv bQ,?_,?_,rfl⟩
 ·exact {
   stab:=aH.stab
   cells:=λi t ys e=>by
    obtain⟨b,cs,e',hc,cZ⟩:=bV.cells i t ys e;have hb:=(old b hc.lt (bV.inj3 _ _ _ _ _ e')).1;exact⟨b,cs,e',hc.of hb,RepL.mono (G:=G.dn i) (G':=(G.with G'.stab hg).dn i) ⟨hg,λ_ _ _ h=>h,λ_ _=>Qm8 _,λ_ _ _=>⟨rfl,rfl,rfl⟩⟩ cZ⟩
   nm:=λi t b e=>⟨(bV.nm i t b e).1,λo=>((old b (bV.mine (.inl ⟨i,t,e⟩)).1 (bV.inj3 _ _ _ _ _ e)).2 o).trans ((bV.nm i t b e).2 o)⟩
   vec:=λi t g' z' ys e=>by
    by_cases hc:i=l/\t=s
    ·rw[hc.1,hc.2]at e |-;rw[hm]at e;cases e;have q:=u4;rw[sq.1,sq.2.1,z2,z3]at q;exact⟨v1,v2,v3,q.imp id λ⟨b,e',r⟩=>⟨b,e',r.of rfl λvs hv=>RepL.rfd (G:=G') (G':=G.with G'.stab hg) (λ_ _ _ h=>h) u3.rf hv⟩⟩
    ·obtain⟨a1,a2,a3,a4⟩:=bV.vec i t g' z' ys e;exact⟨a1,a2,a3,a4.imp id λ⟨b,e',r⟩=>⟨b,e',r.of (old b (bV.mine (.inr ⟨i,t,e'⟩)).1 λe2=>hc (bV.inj2 _ _ _ _ _ e' e2)).1 λvs hv=>RepL.rfd (G:=G) (G':=G.with G'.stab hg) hg a3.rf hv⟩⟩
   vm:=λi t b e=>⟨(bV.vm i t b e).1,λo=>by
    by_cases hc:i=l/\t=s
    ·have e':G.vm i t=some b:=e;rw[hc.1,hc.2]at e';exact(aH.vm l s b (by rw[sq.1,z2];exact e')).2 o
    ·exact((old b (bV.mine (.inr ⟨i,t,e⟩)).1 λe2=>hc (bV.inj2 _ _ _ _ _ e e2)).2 o).trans ((bV.vm i t b e).2 o)⟩
   gone:=bV.gone
   inj1:=bV.inj1
   inj2:=bV.inj2
   inj3:=bV.inj3
   iter:=λi t y p e=>by
    obtain⟨b,e',hc⟩:=bV.iter i t y p e;exact⟨b,e',(old b (bV.mine (.inl ⟨i,t,e'⟩)).1 (bV.inj3 _ _ _ _ _ e')).1.trans hc⟩ }
 ·exact⟨ext.os,ext.tape,ext.output,ext.size,hg,λ_ _ _=>rfl,λ_ _=>Qm8 _,λ_ _ _=>⟨rfl,rfl,rfl⟩,λb hb eO=>old b hb λe2=>eO (.inr ⟨l,s,e2⟩),λ_ h=>.inl h,λl s _ h=>.inl ⟨l,s,Qm8 _,h⟩⟩
mutual
def AV.eqb:AV->AV->Bool
 |.int k n,b=>match b with|.int k' n'=>decide (k=k')&&decide (n=n')|_=>false
 |.bool x,b=>match b with|.bool y=>x==y|_=>false
 |.str x,b=>match b with|.str y=>x==y|_=>false
 |.nils,b=>match b with|.nils=>true|_=>false
 |.list x,b=>match b with|.list y=>AV.eqbL x y|_=>false
 |.agg x,b=>match b with|.agg y=>AV.eqbL x y|_=>false
 |_,_=>false
def AV.eqbL:List AV->List AV->Bool
 | [],b=>match b with | []=>true|_=>false
 |x :: a,b=>match b with|y :: b=>x.eqb y&&AV.eqbL a b|_=>false
end
mutual
theorem AV.eqb_ok:∀(a b:AV),a.eqb b=true->a=b
 |.int k n,b,h=>by cases b<;>simp_all[AV.eqb]
 |.bool x,b,h=>by cases b<;>simp_all[AV.eqb]
 |.str x,b,h=>by cases b<;>simp_all[AV.eqb]
 |.nils,b,h=>by cases b<;>simp_all[AV.eqb]
 |.list x,b,h=>by
  cases b with
  |list y=>rw[AV.eqbL_ok x y h]
  |_=>cases h
 |.agg x,b,h=>by
  cases b with
  |agg y=>rw[AV.eqbL_ok x y h]
  |_=>cases h
 |.top,b,h=>by cases b<;>cases h
 |.nilp,b,h=>by cases b<;>cases h
 |.nilf,b,h=>by cases b<;>cases h
 |.nili,b,h=>by cases b<;>cases h
 |.nilm,b,h=>by cases b<;>cases h
 |.anyp,b,h=>by cases b<;>cases h
 |.lcap _,b,h=>by cases b<;>cases h
 |.tup _,b,h=>by cases b<;>cases h
 |.iface _ _,b,h=>by cases b<;>cases h
 |.fn _ _ _,b,h=>by cases b<;>cases h
 |.ptr _ _ _,b,h=>by cases b<;>cases h
 |.vec _ _ _ _ _ _,b,h=>by cases b<;>cases h
 |.vptr _ _ _ _ _,b,h=>by cases b<;>cases h
 |.rptr _,b,h=>by cases b<;>cases h
 |.mp _ _,b,h=>by cases b<;>cases h
 |.mptr _ _,b,h=>by cases b<;>cases h
theorem AV.eqbL_ok:∀(a b:List AV),AV.eqbL a b=true->a=b
 | [],b,h=>by
  cases b with
  |nil=>rfl
  |cons _ _=>cases h
 |x :: a,b,h=>by
  cases b with
  |nil=>cases h
  |cons y b=>
   have h:=Qnc.1 h;rw[AV.eqb_ok x y h.1,AV.eqbL_ok a b h.2]
end
def Fq (o:Ob)(g z:Nat)(xs:List AV):Bool:=match o with
 |.vec g' z' ys=>Nat.beq g' g&&Nat.beq z' z&&AV.eqbL ys xs
 |_=>false
def Ak {o:Ob}{g z:Nat}{xs:List AV}(h:Fq o g z xs=true):o=.vec g z xs:=by
 unfold Fq at h;split at h
 ·simp only[Qnz]at h;rw[Qm6 h.1.1,Qm6 h.1.2,AV.eqbL_ok _ _ h.2]
 ·cases h
def Zd (call:YW)(d:Option Nat)(op:RO)(st:St):Option St :=
 match op with
 |.val vo=>match Qz st.f st.m vo with
  |some x=>some { st with f:=Ql st.f d x }
  |none=>none
 |.allocN s z=>bif ZB st.m s then some { st with m:=Am.put st.m 0 s (.cells z),f:=Ql st.f d (.ptr 0 s 0) } else none
 |.boxN s r=>bif ZB st.m s&&(r.ev st.f).cells.all AV.leaf then some { st with m:=Am.put st.m 0 s (.cells (r.ev st.f).cells),f:=Ql st.f d (.ptr 0 s 0) } else none
 |.store n p r=>bif Nat.beq (r.ev st.f).cells.length n&&(r.ev st.f).cells.all AV.leaf then match XA st.m (p.ev st.f) (r.ev st.f).cells with
   |some m'=>some { st with m:=m',f:=Ql st.f d (.tup []) }
   |none=>none
  else none
 |.storev l s n p r=>match p.ev st.f with
  |.ptr l' s' _=>bif Nat.beq l' l&&Nat.beq s' s&&Nat.beq (r.ev st.f).cells.length n&&(r.ev st.f).cells.all AV.leaf then match XA st.m (p.ev st.f) (r.ev st.f).cells with
    |some m'=>some { st with m:=m',f:=Ql st.f d (.tup []) }
    |none=>none
   else none
  |_=>none
 |.app sz bytes el s r=>match s.ev st.f with
  |.vec l site g 0 n false=>match Qc st.m l site with
   |.vec g' eG xs=>match Xc st.m (r.ev st.f)with
    |some ys=>bif Nat.beq g' g&&Nat.beq eG sz&&Zv site el&&Nat.ble n xs.length&&ys.all (λe=>e.cells.length==sz)&&Nat.ble (n+ys.length) maxLen&&Nat.ble ((n+ys.length)*bytes) 140737488355328 then
      some { st with m:=Am.put st.m l site (.vec (g+1) sz (xs.take n++ys)),f:=Ql st.f d (.vec l site (g+1) 0 (n+ys.length) false) }
     else none
    |none=>none
   |_=>none
  |_=>none
 |.call f args=>match f.ev st.f with
  |.fn (.func k) fa fb=>match AV.stillL false st.m (fa++args.map (RA.ev st.f)++fb)with
   |some ys=>bif AV.rfL ys then match call k ys []with
     |some (v,_)=>bif v.rf&&(AV.rfL (fa++args.map (RA.ev st.f)++fb)||v.nl)then some { st with f:=Ql st.f d v } else none
     |none=>none
    else none
   |none=>none
  |_=>none
 |.callF f args=>match f.ev st.f with
  |.fn (.func k) fa fb=>match call k (fa++args.map (RA.ev st.f)++fb) st.m with
   |some (v,m')=>some { st with m:=m',f:=Ql st.f d v }
   |none=>none
  |_=>none
 |.callG f args=>match f.ev st.f with
  |.fn (.func k) fa fb=>match call k (fa++args.map (RA.ev st.f)++fb) st.m with
   |some (v,m')=>some { st with m:=m',f:=Ql st.f d v }
   |none=>none
  |_=>none
 |.bsl sz len z ps=>match fill st.f ps (Zj z sz len)with
  |some y=>bif AV.rfL y&&y.all AV.leaf then some { st with f:=Ql st.f d (.list (ZG sz len (y.map nn0))) } else none
  |none=>none
 |.bslv site sz len z ps=>match fill st.f ps (Zj z sz len)with
  |some y=>bif AV.rfL y&&y.all AV.leaf&&Qn (Qc st.m 0 site)then some { st with m:=Am.put st.m 0 site (.vec (QB st.m 0 site) sz (ZG sz len (y.map nn0))),f:=Ql st.f d (.vec 0 site (QB st.m 0 site) 0 len false) } else none
  |none=>none
 |.clr .. => none
 |.bsl0 site sz=>bif Qn (Qc st.m 0 site)then some { st with m:=Am.put st.m 0 site (.vec (QB st.m 0 site) sz []),f:=Ql st.f d (.vec 0 site (QB st.m 0 site) 0 0 false) } else none
 |.appc site sz bytes _ s r=>match s.ev st.f with
  |.lcap xs=>match Xc st.m (r.ev st.f)with
   |some (y :: ys)=>bif xs.all (λe=>e.cells.length==sz)&&(y :: ys).all (λe=>e.cells.length==sz)&&Nat.ble (xs.length+(y :: ys).length) maxLen&&Nat.ble ((xs.length+(y :: ys).length)*bytes) 140737488355328&&Qn (Qc st.m 0 site)then
     some { st with m:=Am.put st.m 0 site (.vec (QB st.m 0 site) sz (xs++y :: ys)),f:=Ql st.f d (.vec 0 site (QB st.m 0 site) 0 (xs.length+(y :: ys).length) false) }
    else none
   |_=>none
  |_=>none
 |.isnil neg r=>match r.ev st.f with
  |.nils=>some { st with f:=Ql st.f d (.bool (!neg)) }
  |.list l=>match QU l with
   |_ :: _=>some { st with f:=Ql st.f d (.bool neg) }
   | []=>none
  |_=>none
 |.callK l s f args=>match f.ev st.f with
  |.fn (.func k) fa fb=>match call k (fa++args.map (RA.ev st.f)++fb) st.m with
   |some (v,m')=>bif Nq (Qc m' l s) (Qc st.m l s)then some { st with m:=m',f:=Ql st.f d v } else none
   |none=>none
  |_=>none
 |.callO l s f args=>match f.ev st.f with
  |.fn (.func k) fa fb=>match Qc st.m l s with
   |.vec g z xs=>bif AV.npvL l s (fa++args.map (RA.ev st.f)++fb)then(match call k (fa++args.map (RA.ev st.f)++fb) (Ux l s (.vec g z xs))with
    |some (v,m')=>bif v.rf&&Fq (Qc m' l s) g z xs then some { st with f:=Ql st.f d v } else none
    |none=>none)else none
   |_=>none
  |_=>none
 |.xb cnt _ s c=>match s.ev st.f,c.ev st.f with
  |.str t,.int .u8 b=>some { st with f:=Ql st.f d (.int .i64 (Na cnt t b)) }
  |_,_=>none
 |.rngs s r=>match r.ev st.f with
  |.str t=>bif ZB st.m s then some { st with m:=Am.put st.m 0 s (.iter (.str t) 0),f:=Ql st.f d (.ptr 0 s 0) } else none
  |_=>none
 |.nxts r=>match r.ev st.f with
  |.ptr l s 0=>match Qc st.m l s with
   |.iter (.str t) p=>bif Nat.blt p t.length then some { st with m:=Am.put st.m l s (.iter (.str t) (p+(Zk t p).2)),f:=Ql st.f d (.tup [.bool true,.int .i64 (p:Nat),.int .i32 ((Zk t p).1:Nat)]) } else some { st with f:=Ql st.f d (.tup [.bool false]) }
   |_=>none
  |_=>none
 |.mkm s=>bif ZB st.m s then some { st with m:=Am.put st.m 0 s (.iter (.mp [] []) 0),f:=Ql st.f d (.mptr 0 s) } else none
 |.mput tx x i v=>match x.ev st.f with
  |.mptr l s=>match Qc st.m l s with
   |.iter (.mp ks vs) p=>match Wk tx (i.ev st.f)with
    |some k=>bif keys tx ks&&((v.ev st.f).gr&&AV.grL vs&&Nat.beq ks.length vs.length)then some { st with m:=Am.put st.m l s (.iter (.mp (Zy k (v.ev st.f) ks vs).1 (Zy k (v.ev st.f) ks vs).2) p),f:=Ql st.f d (.tup []) } else none
    |_=>none
   |_=>none
  |_=>none
 |.appS el s r=>match s.ev st.f,r.ev st.f with
  |.vec l site g 0 n false,.str t=>match Qc st.m l site with
   |.vec g' 1 xs=>bif Nat.beq g' g&&Zv site el&&Nat.ble n xs.length&&Nat.ble (n+t.length) 140737488355328 then
     some { st with m:=Am.put st.m l site (.vec (g+1) 1 (xs.take n++Qy t)),f:=Ql st.f d (.vec l site (g+1) 0 (n+t.length) false) }
    else none
   |_=>none
  |_,_=>none
 |.mk site _ sz bytes z l c=>match l.ev st.f,c.ev st.f with
  |.int _ (.ofNat n),.int _ (.ofNat k)=>bif Nat.ble n k&&Nat.ble k 9223372036854775807&&Nat.ble (bytes*k) 281474976710656&&Qn (Qc st.m 0 site)then
    some { st with m:=Am.put st.m 0 site (.vec (QB st.m 0 site) sz (List.replicate n (Jc sz z))),f:=Ql st.f d (.vec 0 site (QB st.m 0 site) 0 n false) }
   else none
  |_,_=>none
 |.s2b site _ r=>match r.ev st.f with
  |.str s=>bif Nat.ble s.length 9223372036854775807&&Qn (Qc st.m 0 site)then
    some { st with m:=Am.put st.m 0 site (.vec (QB st.m 0 site) 1 (Qy s)),f:=Ql st.f d (.vec 0 site (QB st.m 0 site) 0 s.length false) }
   else none
  |_=>none
 |.usd r=>match r.ev st.f with
  |.vec l s g 0 n false=>match Qc st.m l s with
   |.vec g' _ _=>bif Nat.beq g' g&&Nat.ble 2000 s then some { st with f:=Ql st.f d (if n=0 then .anyp else .vptr l s g 0 0) } else none
   |_=>none
  |_=>none
 |.ustr el p r=>match p.ev st.f,r.ev st.f with
  |.anyp,.int .i64 (.ofNat 0)=>some { st with f:=Ql st.f d (.str []) }
  |.vptr l s g 0 0,.int .i64 (.ofNat (n+1))=>match Qc st.m l s with
   |.vec g' 1 xs=>match bytesOf (xs.take (n+1))with
    |some t=>bif Nat.beq s (el+2000)&&Nat.beq g' g&&Nat.ble (n+1) xs.length&&isBytes (xs.take (n+1)) t then some { st with m:=Am.put st.m l (el+2000) (.vec (g+1) 1 []),f:=Ql st.f d (.str t) } else none
    |none=>none
   |_=>none
  |_,_=>none
where
  isBytes:List AV->List UInt8->Bool
  | [],[]=>true
  |.int .u8 (.ofNat n) :: l,b :: t=>Nat.beq n b.toNat&&isBytes l t
  |_,_=>false
def MN (call:YW)(it:Item)(st:St):Option St :=
 match it.g with
 |none=>Zd call it.dst it.op st
 |some (j,want)=>match st.f j with
  |.bool b=>bif b==want then Zd call it.dst it.op st else some { st with f:=Ql st.f it.dst (.tup []) }
  |.tup []=>some { st with f:=Ql st.f it.dst (.tup []) }
  |_=>none
def Nr (call:YW):List Item->St->Option St
 | [],st=>some st
 |it :: its,st=>match MN call it st with
  |some ai=>Nr call its ai
  |none=>none
def Nt (rs:List RR)(n:Nat)(r:Option (Exit×St)):Option (AV×Qk) :=
 match r with
 |some (.normal,st)=>fin st
 |some (.ret,st)=>fin st
 |_=>none
where
 fin (st:St):Option (AV×Qk):=match st.ds with
  | []=>match YD st rs with
   |some x=>match Uj st.m x with
    |some y=>match st.m with
     |_ :: m=>bif Nat.beq m.length n then some (y,m)else none
     | []=>none
    |none=>none
   |none=>none
  |_=>none
def HM (nat:YW)(T:Ci)(body:RC->St->Option (Exit×St)):YW:=λk args m=>
 match nat k args m with
 |some r=>some r
 |none=>match T k with
  |some (c,rs,N)=>bif Nat.ble args.length N then Nt rs m.length (body c (St.enter args m))else none
  |none=>none
def JA (nat:YW)(T:Ci):Nat->RC->St->Option (Exit×St)
 |0,_,_=>none
 |n+1,c,st=>match c with
  |.skip=>some (.normal,st)
  |.reg its=>match Nr (HM nat T (JA nat T n)) its st with
   |some ai=>some (.normal,ai)
   |none=>none
  |.draw its=>match Nr (HM nat T (JA nat T n)) its st with
   |some ai=>some (.normal,ai)
   |none=>none
  |.seq a b=>match JA nat T n a st with
   |some (.normal,ai)=>JA nat T n b ai
   |r=>r
  |.cond c a b=>match c.ev st.f with
   |.bool t=>bif t then JA nat T n a st else JA nat T n b st
   |_=>none
  |.block id a=>match JA nat T n a st with
   |some (.exit i,ai)=>if i=id then some (.normal,ai)else some (.exit i,ai)
   |r=>r
  |.loop a=>match JA nat T n a st with
   |some (.normal,ai)=>JA nat T n (.loop a) ai
   |r=>r
  |.exit id=>some (.exit id,st)
  |.scope a=>match JA nat T n a st with
   |some (.goto _,_)=>none
   |r=>r
  |.lab=>some (.normal,st)
  |.ret=>some (.ret,st)
  |.gho g a=>match J6 g st with
   |some ai=>JA nat T n a ai
   |none=>none
  |.no=>none
  |.goto l=>some (.goto l,st)
  |.jump l a b=>match JA nat T n a st with
   |some (.goto i,ai)=>if i=l then JA nat T n (.jump l b b) ai else none
   |r=>r
section
variable {P:Program}{T:Ci}
def YS (P:Program)(call:YW):Prop:=∀k args m v m',call k args m=some (v,m')->Qf P k args m λx m1=>x=v/\m1=m'
theorem Nu:∀ {l:List AV} {t:List UInt8},Zd.isBytes l t=true->l=Qy t
 | [],[],_=>rfl
 | [],_ :: _,h=>by simp[Zd.isBytes]at h
 |.int .u8 (.ofNat n) :: l,b :: t,h=>by
  simp only[Zd.isBytes,Qnz]at h;rw[Nu h.2,Qm6 h.1];rfl
 |x :: l,[],h=>by
  unfold Zd.isBytes at h;split at h<;>simp_all
theorem Sz {call:YW}(hc:YS P call){d:Option Nat}{op:RO}{st ai:St}(h:Zd call d op st=some ai){K:St->Prop}(hK:K ai):De P d op st K:=by
 cases op with
 |val vo=>
  simp only[Zd]at h;split at h
  ·rename_i x hx;cases h;exact⟨x,hx,hK⟩
  ·cases h
 |allocN s z=>
  exact Of
 |boxN s r=>
  simp only[Zd]at h;cases h1:(ZB st.m s&&(r.ev st.f).cells.all AV.leaf)<;>rw[h1]at h<;>simp only[cond_true,cond_false,reduceCtorEq,QnC]at h;rw[Qnz]at h1;subst h;exact⟨h1.1,h1.2,hK⟩
 |store n p r=>
  simp only[Zd]at h;cases h1:(Nat.beq (r.ev st.f).cells.length n&&(r.ev st.f).cells.all AV.leaf)<;>rw[h1]at h<;>simp only[cond_true,cond_false,reduceCtorEq]at h;rw[Qnz]at h1;split at h
  ·rename_i m' hm;cases h;exact⟨Qm6 h1.1,h1.2,m',hm,hK⟩
  ·cases h
 |storev l s n p r=>
  simp only[Zd]at h;split at h
  ·rename_i l' s' o hp;cases h1:(Nat.beq l' l&&Nat.beq s' s&&Nat.beq (r.ev st.f).cells.length n&&(r.ev st.f).cells.all AV.leaf)<;>rw[h1]at h<;>simp only[cond_true,cond_false,reduceCtorEq]at h;simp only[Qnz]at h1;obtain⟨⟨⟨a1,a2⟩,a3⟩,a4⟩:=h1;have e1:=Qm6 a1;have e2:=Qm6 a2;subst e1 e2;split at h
   ·rename_i m' hm;cases h;exact⟨⟨o,hp⟩,Qm6 a3,a4,m',hm,hK⟩
   ·cases h
  ·cases h
 |app sz bytes el s r=>
  simp only[Zd]at h;split at h
  ·rename_i l site g n hs;split at h
   ·rename_i g' eG xs hl;split at h
    ·rename_i ys hy;cases h1:(Nat.beq g' g&&Nat.beq eG sz&&Zv site el&&Nat.ble n xs.length&&ys.all (λe=>e.cells.length==sz)&&Nat.ble (n+ys.length) maxLen&&Nat.ble ((n+ys.length)*bytes) 140737488355328)<;>rw[h1]at h<;>simp only[cond_true,cond_false,reduceCtorEq,QnC]at h;simp only[Qnz]at h1;obtain⟨⟨⟨⟨⟨⟨a1,a2⟩,a3⟩,a4⟩,a5⟩,a6⟩,a7⟩:=h1;have e1:=Qm6 a1;have e2:=Qm6 a2;subst e1 e2 h;exact⟨l,site,_,n,xs,ys,hs,hl,a3,QoG a4,hy,a5,QoG a6,QoG a7,hK⟩
    ·cases h
   ·cases h
  ·cases h
 |call f args=>
  simp only[Zd]at h;split at h
  ·rename_i k fa fb hf;split at h
   ·rename_i ys hy;cases h1:AV.rfL ys<;>rw[h1]at h<;>simp only[cond_true,cond_false,reduceCtorEq]at h;split at h
    ·rename_i v m' hv;cases h2:(v.rf&&(AV.rfL (fa++args.map (RA.ev st.f)++fb)||v.nl))<;>rw[h2]at h<;>simp only[cond_true,cond_false,reduceCtorEq,QnC]at h;rw[Qnz,Qne]at h2;subst h;exact⟨k,fa,fb,ys,v,hf,hy,h1,(hc _ _ _ _ _ hv).mono (λ_ _ e=>e.1),h2.1,h2.2,hK⟩
    ·cases h
   ·cases h
  ·cases h
 |callF f args=>
  simp only[Zd]at h;split at h
  ·rename_i k fa fb hf;split at h
   ·rename_i v m' hv;cases h;exact⟨k,fa,fb,v,m',hf,hc _ _ _ _ _ hv,hK⟩
   ·cases h
  ·cases h
 |callG f args=>
  simp only[Zd]at h;split at h
  ·rename_i k fa fb hf;split at h
   ·rename_i v m' hv;cases h;exact⟨k,fa,fb,_,hf,hc _ _ _ _ _ hv,λx m1 hx _=>by obtain⟨rfl,rfl⟩:=hx;exact hK⟩
   ·cases h
  ·cases h
 |bsl sz len z ps=>
  simp only[Zd]at h;split at h
  ·rename_i y hy;cases h1:(AV.rfL y&&y.all AV.leaf)<;>rw[h1]at h<;>simp only[cond_true,cond_false,reduceCtorEq,QnC]at h;rw[Qnz]at h1;subst h;exact⟨y,hy,h1.1,h1.2,hK⟩
  ·cases h
 |bslv site sz len z ps=>
  simp only[Zd]at h;split at h
  ·rename_i y hy;cases h1:(AV.rfL y&&y.all AV.leaf&&Qn (Qc st.m 0 site))<;>rw[h1]at h<;>simp only[cond_true,cond_false,reduceCtorEq,QnC]at h;simp only[Qnz]at h1;subst h;exact⟨y,hy,h1.1.1,h1.1.2,h1.2,hK⟩
  ·cases h
 |clr sz z r=>simp only[Zd]at h;cases h
 |bsl0 site sz=>
  simp only[Zd]at h;cases h1:Qn (Qc st.m 0 site)<;>rw[h1]at h<;>simp only[cond_true,cond_false,reduceCtorEq,QnC]at h;subst h;exact⟨h1,hK⟩
 |appc site sz bytes el s r=>
  simp only[Zd]at h;split at h
  ·rename_i xs hs;split at h
   ·rename_i y ys hy;cases h1:(xs.all (λe=>e.cells.length==sz)&&(y :: ys).all (λe=>e.cells.length==sz)&&Nat.ble (xs.length+(y :: ys).length) maxLen&&Nat.ble ((xs.length+(y :: ys).length)*bytes) 140737488355328&&Qn (Qc st.m 0 site))<;>rw[h1]at h<;>simp only[cond_true,cond_false,reduceCtorEq,QnC]at h;simp only[Qnz]at h1;obtain⟨⟨⟨⟨a1,a2⟩,a3⟩,a4⟩,a5⟩:=h1;subst h;exact⟨xs,y :: ys,hs,hy,ό,a1,a2,QoG a3,QoG a4,a5,hK⟩
   ·cases h
  ·cases h
 |isnil neg r=>
  simp only[Zd]at h;split at h
  ·rename_i hr;cases h;exact⟨[],by rw[hr];rfl,λe=>absurd hr e,λ_=>hK⟩
  ·rename_i l hr;split at h
   ·rename_i z zs hf;cases h;exact⟨l,by rw[hr];rfl,λ_=>hK,λe=>by
     rcases e with e|e
     ·rw[hr]at e;cases e
     ·rw[hf]at e;cases e⟩
   ·cases h
  ·cases h
 |callO l s f args=>
  simp only[Zd]at h;split at h
  ·rename_i k fa fb hf;split at h
   ·rename_i g z xs hl;cases h1:AV.npvL l s (fa++args.map (RA.ev st.f)++fb)<;>rw[h1]at h<;>simp only[cond_true,cond_false,reduceCtorEq]at h;split at h
    ·rename_i v m' hv;cases h2:(v.rf&&Fq (Qc m' l s) g z xs)<;>rw[h2]at h<;>simp only[cond_true,cond_false,reduceCtorEq,QnC]at h;rw[Qnz]at h2;subst h;exact⟨k,fa,fb,g,z,xs,v,hf,hl,λm hm=>Sd (hc _ _ _ _ _ hv) (Ak h2.2) h2.1 h1 m hm,hK⟩
    ·cases h
   ·cases h
  ·cases h
 |callK l s f args=>
  simp only[Zd]at h;split at h
  ·rename_i k fa fb hf;split at h
   ·rename_i v m' hv;cases he:Nq (Qc m' l s) (Qc st.m l s)<;>rw[he]at h<;>simp only[cond_true,cond_false,reduceCtorEq,QnC]at h;subst h;exact⟨k,fa,fb,v,m',hf,hc _ _ _ _ _ hv,E5 he,hK⟩
   ·cases h
  ·cases h
 |xb cnt k s c=>
  simp only[Zd]at h;split at h
  ·rename_i t b hs hb;cases h;exact⟨t,b,hs,hb,hK⟩
  ·cases h
 |rngs s r=>
  simp only[Zd]at h;split at h
  ·rename_i t ht;cases h1:ZB st.m s<;>rw[h1]at h<;>simp only[cond_true,cond_false,reduceCtorEq,QnC]at h;subst h;exact⟨t,ht,h1,hK⟩
  ·cases h
 |mkm s=>
  exact Of
 |mput tx x i v=>
  simp only[Zd]at h;split at h
  ·rename_i l s hx;split at h
   ·rename_i ks vs p hl;split at h
    ·rename_i k hi;cases h1:(keys tx ks&&((v.ev st.f).gr&&AV.grL vs&&Nat.beq ks.length vs.length))<;>rw[h1]at h<;>simp only[cond_true,cond_false,reduceCtorEq,QnC]at h;subst h;simp only[Qnz]at h1;exact⟨l,s,ks,vs,p,k,hx,hl,hi,h1.1,h1.2.1.1,h1.2.1.2,Qm6 h1.2.2,hK⟩
    ·cases h
   ·cases h
  ·cases h
 |nxts r=>
  simp only[Zd]at h;split at h
  ·rename_i l s hr;split at h
   ·rename_i t p hl;refine⟨l,s,t,p,hr,hl,λe=>?_,λe=>?_⟩
    ·have hb:Nat.blt p t.length=true:=by simp[Nat.blt_eq,e]
     rw[hb]at h;cases h;exact hK
    ·have hb:Nat.blt p t.length=false:=by
      cases hb:Nat.blt p t.length with
      |false=>rfl
      |true=>rw[Nat.blt_eq]at hb;omega
     rw[hb]at h;cases h;exact hK
   ·cases h
  ·cases h
 |appS el s r=>
  simp only[Zd]at h;split at h
  ·rename_i l site g n t hs hr;split at h
   ·rename_i g' xs hl;cases h1:(Nat.beq g' g&&Zv site el&&Nat.ble n xs.length&&Nat.ble (n+t.length) 140737488355328)<;>rw[h1]at h<;>simp only[cond_true,cond_false,reduceCtorEq,QnC]at h;simp only[Qnz]at h1;obtain⟨⟨⟨a1,a2⟩,a3⟩,a4⟩:=h1;have e1:=Qm6 a1;subst e1 h;exact⟨l,site,_,n,xs,t,hs,hl,a2,QoG a3,hr,QoG a4,hK⟩
   ·cases h
  ·cases h
 |mk site el sz bytes z l c=>
  simp only[Zd]at h;split at h
  ·rename_i kl n kc k hl bN;cases h1:(Nat.ble n k&&Nat.ble k 9223372036854775807&&Nat.ble (bytes*k) 281474976710656&&Qn (Qc st.m 0 site))<;>rw[h1]at h<;>simp only[cond_true,cond_false,reduceCtorEq,QnC]at h;simp only[Qnz]at h1;obtain⟨⟨⟨a1,a2⟩,a3⟩,a4⟩:=h1;subst h;exact⟨kl,kc,n,k,hl,bN,QoG a1,QoG a2,QoG a3,a4,hK⟩
  ·cases h
 |s2b site el r=>
  simp only[Zd]at h;split at h
  ·rename_i s hs;cases h1:(Nat.ble s.length 9223372036854775807&&Qn (Qc st.m 0 site))<;>rw[h1]at h<;>simp only[cond_true,cond_false,reduceCtorEq,QnC]at h;simp only[Qnz]at h1;subst h;exact⟨s,hs,QoG h1.1,h1.2,hK⟩
  ·cases h
 |usd r=>
  simp only[Zd]at h;split at h
  ·rename_i l s g n hr;split at h
   ·rename_i g' sz xs hl;cases h1:(Nat.beq g' g&&Nat.ble 2000 s)<;>rw[h1]at h<;>simp only[cond_true,cond_false,reduceCtorEq,QnC]at h;simp only[Qnz]at h1;have e1:=Qm6 h1.1;subst e1 h;exact⟨l,s,_,n,sz,xs,QoG h1.2,hr,hl,hK⟩
   ·cases h
  ·cases h
 |ustr el p r=>
  simp only[Zd]at h;split at h
  ·rename_i hp hr;cases h;exact .inl ⟨hp,hr,hK⟩
  ·rename_i l s g n hp hr;split at h
   ·rename_i g' xs hl;split at h
    ·rename_i t ht;cases h1:(Nat.beq s (el+2000)&&Nat.beq g' g&&Nat.ble (n+1) xs.length&&Zd.isBytes (xs.take (n+1)) t)<;>rw[h1]at h<;>simp only[cond_true,cond_false,reduceCtorEq,QnC]at h;simp only[Qnz]at h1;obtain⟨⟨⟨a1,a2⟩,a3⟩,a4⟩:=h1;have e1:=Qm6 a1;have e2:=Qm6 a2;subst e1 e2 h;exact .inr ⟨l,_,n+1,xs,t,hp,hr,hl,QoG a3,Nat.succ_ne_zero n,Nu a4,hK⟩
    ·cases h
   ·cases h
  ·cases h
theorem E6 {call:YW}(hc:YS P call){it:Item}{st ai:St}(h:MN call it st=some ai){K:St->Prop}(hK:K ai):Z5 P it st K:=by
 obtain⟨d,op,g⟩:=it;cases g with
 |none=>exact Sz (d:=d) hc h hK
 |some p=>
  obtain⟨j,want⟩:=p;simp only[MN]at h;simp only[Z5];split at h
  ·rename_i b hj;simp only[hj];cases hb:(b==want)with
   |true=>
    rw[hb]at h;have e:b=want:=by simpa using hb
    exact⟨λ_=>Sz hc h hK,λe'=>by rw[e]at e';cases want<;>cases e'⟩
   |false=>
    rw[hb]at h;simp only[cond_false,QnC]at h;subst h;exact⟨λe=>by rw[e]at hb;simp at hb,λ_=>hK⟩
  ·rename_i hj;cases h;simp only[hj];exact⟨trivial,hK⟩
  ·cases h
theorem Bk {call:YW}(hc:YS P call):∀ {its:List Item} {st ai:St},Nr call its st=some ai->∀ {K:St->Prop},K ai->QF P its st K
 | [],_,_,h,_,hK=>by cases h;exact hK
 |it :: its,st,ai,h,K,hK=>by
  simp only[Nr]at h;split at h
  ·rename_i iT h1;exact E6 hc h1 (Bk hc h hK)
  ·cases h
theorem Qas {rs:List RR}{n:Nat}{r:Option (Exit×St)}{v:AV}{m':Qk}(h:Nt rs n r=some (v,m')):∃e st,r=some (e,st)/\Jk rs n (λx m1=>x=v/\m1=m') e st:=by
 have fin:∀ {e:Exit} {st:St},(e=.normal\/e=.ret)->Nt.fin rs n st=some (v,m')->Jk rs n (λx m1=>x=v/\m1=m') e st:=by
  intro e st he h;unfold Nt.fin at h;split at h
  ·rename_i tE;split at h
   ·rename_i x hx;split at h
    ·rename_i y hy;split at h
     ·rename_i fr m hm;cases hb:Nat.beq m.length n with
      |false=>rw[hb]at h;cases h
      |true=>
       rw[hb]at h;simp only[cond_true,QnC,QoI]at h;exact⟨he,tE,x,y,fr,m,hx,hy,hm,Qm6 hb,h.1,h.2⟩
     ·cases h
    ·cases h
   ·cases h
  ·cases h
 unfold Nt at h;split at h
 ·exact⟨_,_,rfl,fin (.inl rfl) h⟩
 ·exact⟨_,_,rfl,fin (.inr rfl) h⟩
 ·cases h
theorem Hg {nat:YW}(hN:YS P nat)(hT:Fp P T){body:RC->St->Option (Exit×St)}(hb:∀c st e ai,body c st=some (e,ai)->∀Q:Exit->St->Prop,Q e ai->Q1 P c st Q):YS P (HM nat T body):=by
 intro k args m v m' h;unfold HM at h;split at h
 ·rename_i r hr;cases h;exact hN _ _ _ _ _ hr
 split at h
 ·rename_i c rs N hk;cases hN:Nat.ble args.length N with
  |false=>rw[hN]at h;cases h
  |true=>
   rw[hN]at h;simp only[cond_true]at h;obtain⟨e,st,h1,h2⟩:=Qas h;obtain⟨fn,cd,a1,a2,a3,a4,a5,a6⟩:=hT k c rs N hk;exact Df a1 a2 a3 a4 a5 a6 (QoG hN) (hb _ _ _ _ h1 _ h2)
 ·cases h
theorem E7 {nat:YW}(hN:YS P nat)(hT:Fp P T):∀(n:Nat) (c:RC) (st:St) (e:Exit) (ai:St),JA nat T n c st=some (e,ai)->∀Q:Exit->St->Prop,Q e ai->Q1 P c st Q:=by
 intro n
 induction n using Nat.strongRecOn with
 |_ n qw=>
 cases n with
 |zero=>intro c st e ai h;cases h
 |succ n=>
  intro c st e ai h Q hQ;have ih:=qw n (Nat.lt_succ_self n);cases c with
  |skip=>cases h;exact hQ
  |reg its=>
   exact OS
  |draw its=>
   exact OS
  |seq a b=>
   simp only[JA]at h;split at h
   ·rename_i iT h1;exact ih _ _ _ _ h1 _ (ih _ _ _ _ h Q hQ)
   ·rename_i h1;refine ih _ _ _ _ h _ ?_;cases e with
    |normal=>exact absurd h (h1 ai)
    |_=>exact hQ
  |cond c a b=>
   simp only[JA]at h;split at h
   ·rename_i t ht;cases t with
    |true=>exact⟨true,ht,λ_=>ih _ _ _ _ h Q hQ,(λe=>Ú)⟩
    |false=>exact⟨false,ht,(λe=>Ú),λ_=>ih _ _ _ _ h Q hQ⟩
   ·cases h
  |block id a=>
   simp only[JA]at h;split at h
   ·rename_i i iT h1;refine ih _ _ _ _ h1 _ ?_;show if i=id then Q .normal iT else Q (.exit i) iT
    split at h
    ·rename_i hi;cases h;rw[Qnj hi];exact hQ
    ·rename_i hi;cases h;rw[Qni hi];exact hQ
   ·rename_i h1;refine ih _ _ _ _ h _ ?_;cases e with
    |exit i=>exact absurd h (h1 i ai)
    |_=>exact hQ
  |loop a=>
   refine⟨λk s=>k<=n/\JA nat T (k+1) (.loop a) s=some (e,ai),n,⟨Qm8 _,h⟩,λk s hh=>?_⟩;obtain⟨hk,hs⟩:=hh;simp only[JA]at hs;split at hs
   ·rename_i iT h1;refine qw k ψ _ _ _ _ h1 _ ?_;show ∃j,j<k/\j<=n/\JA nat T (j+1) (.loop a) iT=some (e,ai);cases k with
    |zero=>cases h1
    |succ j=>exact⟨j,Nat.lt_succ_self j,ψ,hs⟩
   ·rename_i h1;refine qw k ψ _ _ _ _ hs _ ?_;cases e with
    |normal=>exact absurd hs (h1 ai)
    |_=>exact hQ
  |exit id=>cases h;exact hQ
  |scope a=>
   simp only[JA]at h;split at h
   ·cases h
   ·rename_i h1;refine ih _ _ _ _ h _ ?_;cases e with
    |goto i=>exact absurd h (h1 i ai)
    |_=>exact hQ
  |lab=>cases h;exact hQ
  |ret=>cases h;exact hQ
  |gho g a=>
   simp only[JA]at h;split at h
   ·rename_i iT h1;exact⟨iT,h1,ih _ _ _ _ h Q hQ⟩
   ·cases h
  |no=>cases h
  |goto l=>cases h;exact hQ
  |jump l a b=>
   have pass:∀k s,(k<=n/\JA nat T (k+1) (.jump l b b) s=some (e,ai))->Q1 P b s (Kj l (λs=>∃j,j<k/\(j<=n/\JA nat T (j+1) (.jump l b b) s=some (e,ai))) Q):=by
    intro k s hh;obtain⟨hk,hs⟩:=hh;simp only[JA]at hs;split at hs
    ·rename_i i iT h1;split at hs
     ·rename_i hi;refine qw k ψ _ _ _ _ h1 _ ?_;cases k with
      |zero=>cases h1
      |succ j=>exact⟨hi,j,Nat.lt_succ_self j,ψ,hs⟩
     ·cases hs
    ·rename_i h1;refine qw k ψ _ _ _ _ hs _ ?_;cases e with
     |goto i=>exact absurd hs (h1 i ai)
     |_=>exact hQ
   refine⟨λk s=>k<=n/\JA nat T (k+1) (.jump l b b) s=some (e,ai),?_,pass⟩;simp only[JA]at h;split at h
   ·rename_i i iT h1;split at h
    ·rename_i hi;refine ih _ _ _ _ h1 _ ?_;cases n with
     |zero=>cases h1
     |succ j=>exact⟨hi,j,ψ,h⟩
    ·cases h
   ·rename_i h1;refine ih _ _ _ _ h _ ?_;cases e with
    |goto i=>exact absurd h (h1 i ai)
    |_=>exact hQ
def evT (nat:YW)(T:Ci)(n:Nat)(k:FuncId)(args:List AV):Bool :=
 match HM nat T (JA nat T n) k args []with
 |some (.bool true,_)=>true
 |_=>false
theorem Al {nat:YW}(hN:YS P nat)(hT:Fp P T){n:Nat}{k:FuncId}{args:List AV}(h:evT nat T n k args=true):Qi P k args (.bool true):=by
 unfold evT at h;split at h
 ·rename_i m' h1;exact(Hg hN hT (E7 hN hT n) _ _ _ _ _ h1).mono λ_ _ e=>e.1
 ·cases h
end
def Qa:=(QoV (QoV (QoV (QoV (QoV (QoV (QoV (QoV @Am.Gq @Am.Gp) (QoV @Am.EH @Am.Yd)) (QoV (QoV @Am.Ke @Am.EK) (QoV @Am.EL (QoV @Am.Sr @Am.Ss)))) (QoV (QoV (QoV @Am.HL @Am.QbO) (QoV @Am.QbP @Am.EG)) (QoV (QoV @Am.EM @Am.Nj) (QoV @Am.EN (QoV @Am.EO @Am.EP))))) (QoV (QoV (QoV (QoV @Am.EQ @Am.ER) (QoV @Am.ES @Am.ET)) (QoV (QoV @Am.YV @Am.EJ) (QoV @Am.QbQ (QoV @Am.Cf @Am.Dt)))) (QoV (QoV (QoV @Am.e_f @Am.Yf) (QoV @Am.Kf @Am.Ye)) (QoV (QoV @Am.Yg @Am.FX) (QoV @Am.YG (QoV @Am.MD @Am.Cd)))))) (QoV (QoV (QoV (QoV (QoV @Am.He @Am.ME) (QoV @Am.Nk @Am.Nl)) (QoV (QoV @Am.Ce @Am.Gr) (QoV @Am.YF (QoV @Am.MF @Am.MG)))) (QoV (QoV (QoV @Am.K6 @Am.Qz.eq_1) (QoV @Am.Qz.eq_2 @Am.Qz.eq_3)) (QoV (QoV @Am.Qz.eq_4 @Am.Qz.eq_5) (QoV @Am.Qz.eq_6 (QoV @Am.Qz.eq_7 @Am.Qz.eq_8))))) (QoV (QoV (QoV (QoV @Am.Qz.eq_9 @Am.Qz.eq_10) (QoV @Am.Qz.eq_11 @Am.Qz.eq_12)) (QoV (QoV @Am.Qz.eq_13 @Am.Qz.eq_14) (QoV @Am.Qz.eq_15 (QoV @Am.Qz.eq_16 @Am.Qz.eq_17)))) (QoV (QoV (QoV @Am.Qz.eq_18 @Am.Qz.eq_19) (QoV @Am.Qz.eq_20 @Am.Qz.eq_21)) (QoV (QoV @Am.Qz.eq_22 @Am.Qz.eq_23) (QoV @Am.Qz.eq_24 (QoV @Am.Qz.eq_25 @Am.Qz.eq_26))))))) (QoV (QoV (QoV (QoV (QoV (QoV @Am.Qz.eq_27 @Am.Qz.eq_28) (QoV @Am.Qz.eq_29 @Am.Qz.eq_30)) (QoV (QoV @Am.Qz.eq_31 @Am.Qz.eq_32) (QoV @Am.Qz.eq_33 (QoV @Am.Qz.eq_1 @Am.Qz.eq_1)))) (QoV (QoV (QoV @Am.Qz.eq_1 @Am.Xl.eq_1) (QoV @Am.Xl.eq_2 @Am.Xl.eq_3)) (QoV (QoV @Am.Xl.eq_4 @Am.Xl.eq_5) (QoV @Am.Xl.eq_6 (QoV @Am.Xl.eq_7 @Am.Xl.eq_8))))) (QoV (QoV (QoV (QoV @Am.Xl.eq_9 @Am.Xl.eq_10) (QoV @Am.Xl.eq_11 @Am.Xl.eq_12)) (QoV (QoV @Am.Xl.eq_13 @Am.Xl.eq_14) (QoV @Am.Xl.eq_15 (QoV @Am.Xl.eq_16 @Am.Xl.eq_17)))) (QoV (QoV (QoV @Am.XE.eq_1 @Am.XE.eq_2) (QoV @Am.XE.eq_3 @Am.XE.eq_4)) (QoV (QoV @Am.XE.eq_5 @Am.XE.eq_6) (QoV @Am.XE.eq_7 (QoV @Am.XE.eq_8 @Am.XE.eq_9)))))) (QoV (QoV (QoV (QoV (QoV @Am.XE.eq_10 @Am.XE.eq_11) (QoV @Am.XE.eq_12 @Am.XE.eq_13)) (QoV (QoV @Am.XE.eq_14 @Am.XE.eq_15) (QoV @Am.XE.eq_16 (QoV @Am.Dj.eq_1 @Am.Dj.eq_2)))) (QoV (QoV (QoV @Am.Dj.eq_3 @Am.Dj.eq_4) (QoV @cond_true.{0} @cond_true.{1})) (QoV (QoV @cond_false.{0} @cond_false.{1}) (QoV @Qn2 (QoV @and_true @Qoe.{0}))))) (QoV (QoV (QoV (QoV @Qoj.{0} @List.getElem?_nil.{0}) (QoV @Qon.{0} @QoS.{0})) (QoV (QoV @Am.St.enter.eq_1 @Am.Ml.eq_1) (QoV @Am.AV.shL.eq_1 (QoV @Am.AV.shL.eq_2 @Am.AV.sh.eq_1)))) (QoV (QoV (QoV @Am.AV.sh.eq_2 @Am.AV.sh.eq_3) (QoV @Am.AV.sh.eq_4 @Am.AV.sh.eq_5)) (QoV (QoV @Am.AV.sh.eq_6 @Am.AV.sh.eq_7) (QoV @Am.AV.sh.eq_8 (QoV @Am.AV.sh.eq_9 @Am.YD.eq_1)))))))) (QoV (QoV (QoV (QoV (QoV (QoV (QoV @Am.YD.eq_2 @Am.RR.ev.eq_1) (QoV @Am.RR.ev.eq_2 @Am.RR.evL.eq_1)) (QoV (QoV @Am.RR.evL.eq_2 @Am.Uj.eq_1) (QoV @Am.AV.still.eq_1 (QoV @Am.AV.still.eq_2 @Am.AV.still.eq_3)))) (QoV (QoV (QoV @Am.AV.still.eq_4 @Am.AV.still.eq_5) (QoV @Am.AV.still.eq_6 @Am.AV.still.eq_7)) (QoV (QoV @Am.AV.still.eq_8 @Am.AV.stillL.eq_1) (QoV @Am.AV.stillL.eq_2 (QoV @Am.AV.un.eq_1 @Am.AV.un.eq_2))))) (QoV (QoV (QoV (QoV @Am.AV.un.eq_3 @Am.AV.un.eq_4) (QoV @Am.AV.un.eq_5 @Am.AV.un.eq_6)) (QoV (QoV @Am.AV.un.eq_7 @Am.AV.un.eq_8) (QoV @Am.AV.un.eq_9 (QoV @Am.AV.un.eq_10 @Am.AV.un.eq_11)))) (QoV (QoV (QoV @Am.AV.un.eq_12 @Am.AV.un.eq_13) (QoV @Am.AV.unL.eq_1 @Am.AV.unL.eq_2)) (QoV (QoV @Option.bind_some.{0,0} @QnB.{0,0}) (QoV @if_true.{0} (QoV @if_true.{1} @if_false.{0})))))) (QoV (QoV (QoV (QoV (QoV @if_false.{1} @Qnu) (QoV @Go.IntKind.bits.eq_1 @Go.IntKind.bits.eq_2)) (QoV (QoV @Go.IntKind.bits.eq_3 @Go.IntKind.bits.eq_4) (QoV @Go.IntKind.bits.eq_5 (QoV @Go.IntKind.bits.eq_6 @Go.IntKind.bits.eq_7)))) (QoV (QoV (QoV @Go.IntKind.bits.eq_8 @Qn7.{0}) (QoV @Qnq.{0} @QoW)) (QoV (QoV @Qoq @forall_const.{1}) (QoV @not_true_eq_false (QoV @not_false_eq_true @Am.Fk))))) (QoV (QoV (QoV (QoV @QoX @Qok) (QoV @Am.Y8.eq_1 @ne_eq.{1})) (QoV (QoV @Nat.one_ne_zero @decide_true) (QoV @decide_false (QoV @Am.Qdp @Am.Qap)))) (QoV (QoV (QoV @Am.Qe3 @Am.Qaq) (QoV @Am.Qe4 @Am.Qe2)) (QoV (QoV @Am.Qha @Am.ZB.eq_1) (QoV @Am.AV.unNL.eq_1 (QoV @Am.AV.unNL.eq_2 @Am.AV.unNL_zero))))))) (QoV (QoV (QoV (QoV (QoV (QoV @Am.AV.shNL.eq_1 @Am.AV.shNL.eq_2) (QoV @Am.AV.shN.eq_1 @Am.AV.shN.eq_2)) (QoV (QoV @Am.splice.eq_1 @Am.part.eq_1) (QoV @Am.part.eq_2 (QoV @Am.fill.eq_1 @Am.fill.eq_2)))) (QoV (QoV (QoV @Am.AV.leaf.eq_1 @Am.AV.leaf.eq_2) (QoV @Am.AV.leaf.eq_3 @Am.AV.leaf.eq_4)) (QoV (QoV @Qoo.{0} @Qop.{0}) (QoV @QnK.{0} (QoV @Qol.{0} @List.take_nil.{0}))))) (QoV (QoV (QoV (QoV @QnN.{0} @QnT.{0}) (QoV @Qor.{0} @Qny.{0})) (QoV (QoV @Qnx.{0} @Qof.{0}) (QoV @Am.Qb.eq_1 (QoV @and_self @Am.Jz.eq_1)))) (QoV (QoV (QoV @Am.Jz.eq_2 @Am.Jz.eq_3) (QoV @Am.Jz.eq_4 @Am.Jz.eq_5)) (QoV (QoV @Am.Jz.eq_6 @Am.JR.eq_1) (QoV @Am.JR.eq_2 (QoV @Am.Xz.eq_1 @Am.Xz.eq_2)))))) (QoV (QoV (QoV (QoV (QoV @Am.Xz.eq_3 @Am.Xz.eq_4) (QoV @Am.Xz.eq_5 @Am.Xz.eq_6)) (QoV (QoV @Am.Xz.eq_7 @Am.FN.eq_1) (QoV @Am.FN.eq_2 (QoV @Am.FN.eq_3 @Am.BW.eq_1)))) (QoV (QoV (QoV @Am.BW.eq_2 @Am.BW.eq_3) (QoV @Am.BW.eq_4 @Am.Qix)) (QoV (QoV @Am.EU @Am.EV) (QoV @Am.EX (QoV @Am.T4 @Am.EY))))) (QoV (QoV (QoV (QoV @Am.T5 @Am.T6) (QoV @Am.T7 @Am.T8)) (QoV (QoV @Am.T9 @Am.EZ) (QoV @Am.E0 (QoV @Am.E1 @Am.E2)))) (QoV (QoV (QoV @Am.Aa @Am.E3) (QoV @Am.Ab (QoV @Am.Sb @Am.E4))) (QoV (QoV @Am.Ad @Am.FV) (QoV @Am.Sc (QoV @Am.Ae @Qod.{0,0})))))))))
def E8:=(QoV (QoV (QoV @Am.XA.eq_1 (QoV @Am.XA.eq_2 @Am.XA.eq_3)) (QoV (QoV @Am.XH.eq_1 @Am.XH.eq_2) (QoV @Am.XH.eq_3 @Am.XH.eq_4))) (QoV (QoV (QoV @Am.Qc.eq_1 @Am.Qc.eq_2) (QoV @Am.Qc.eq_3 @Am.put.eq_1)) (QoV (QoV @Am.put.eq_2 @Am.put.eq_3) (QoV @Am.AV.cells.eq_1 @Am.AV.cells.eq_2))))
def eE := QoV Qa E8
def KW:=(QoV (QoV (QoV (QoV (QoV (QoV (QoV @Am.Gq (QoV @Am.Gp @Am.EH)) (QoV @Am.Yd (QoV @Am.Ke @Am.EK))) (QoV (QoV @Am.EL (QoV @Am.Sr @Am.Ss)) (QoV @Am.HL (QoV @Am.QbO @Am.QbP)))) (QoV (QoV (QoV @Am.EG (QoV @Am.EM @Am.Nj)) (QoV @Am.EN (QoV @Am.EO @Am.EP))) (QoV (QoV @Am.EQ (QoV @Am.ER @Am.ES)) (QoV @Am.ET (QoV @Am.YV @Am.EJ))))) (QoV (QoV (QoV (QoV @Am.QbQ (QoV @Am.Cf @Am.Dt)) (QoV @Am.e_f (QoV @Am.Yf @Am.Kf))) (QoV (QoV @Am.Ye (QoV @Am.Yg @Am.FX)) (QoV @Am.YG (QoV @Am.MD @Am.Cd)))) (QoV (QoV (QoV @Am.He (QoV @Am.ME @Am.Nk)) (QoV @Am.Nl (QoV @Am.Ce @Am.Gr))) (QoV (QoV @Am.YF (QoV @Am.MF @Am.MG)) (QoV (QoV @Am.K6 @Am.Qz.eq_1) (QoV @Am.Qz.eq_2 @Am.Qz.eq_3)))))) (QoV (QoV (QoV (QoV (QoV @Am.Qz.eq_4 (QoV @Am.Qz.eq_5 @Am.Qz.eq_6)) (QoV @Am.Qz.eq_7 (QoV @Am.Qz.eq_8 @Am.Qz.eq_9))) (QoV (QoV @Am.Qz.eq_10 (QoV @Am.Qz.eq_11 @Am.Qz.eq_12)) (QoV @Am.Qz.eq_13 (QoV @Am.Qz.eq_14 @Am.Qz.eq_15)))) (QoV (QoV (QoV @Am.Qz.eq_16 (QoV @Am.Qz.eq_17 @Am.Qz.eq_18)) (QoV @Am.Qz.eq_19 (QoV @Am.Qz.eq_20 @Am.Qz.eq_21))) (QoV (QoV @Am.Qz.eq_22 (QoV @Am.Qz.eq_23 @Am.Qz.eq_24)) (QoV @Am.Qz.eq_25 (QoV @Am.Qz.eq_26 @Am.Qz.eq_27))))) (QoV (QoV (QoV (QoV @Am.Qz.eq_28 (QoV @Am.Qz.eq_29 @Am.Qz.eq_30)) (QoV @Am.Qz.eq_31 (QoV @Am.Qz.eq_32 @Am.Qz.eq_33))) (QoV (QoV @Am.Qz.eq_1 (QoV @Am.Qz.eq_1 @Am.Qz.eq_1)) (QoV @Am.Xl.eq_1 (QoV @Am.Xl.eq_2 @Am.Xl.eq_3)))) (QoV (QoV (QoV @Am.Xl.eq_4 (QoV @Am.Xl.eq_5 @Am.Xl.eq_6)) (QoV @Am.Xl.eq_7 (QoV @Am.Xl.eq_8 @Am.Xl.eq_9))) (QoV (QoV @Am.Xl.eq_10 (QoV @Am.Xl.eq_11 @Am.Xl.eq_12)) (QoV (QoV @Am.Xl.eq_13 @Am.Xl.eq_14) (QoV @Am.Xl.eq_15 @Am.Xl.eq_16))))))) (QoV (QoV (QoV (QoV (QoV (QoV @Am.Xl.eq_17 (QoV @Am.XE.eq_1 @Am.XE.eq_2)) (QoV @Am.XE.eq_3 (QoV @Am.XE.eq_4 @Am.XE.eq_5))) (QoV (QoV @Am.XE.eq_6 (QoV @Am.XE.eq_7 @Am.XE.eq_8)) (QoV @Am.XE.eq_9 (QoV @Am.XE.eq_10 @Am.XE.eq_11)))) (QoV (QoV (QoV @Am.XE.eq_12 (QoV @Am.XE.eq_13 @Am.XE.eq_14)) (QoV @Am.XE.eq_15 (QoV @Am.XE.eq_16 @Am.Dj.eq_1))) (QoV (QoV @Am.Dj.eq_2 (QoV @Am.Dj.eq_3 @Am.Dj.eq_4)) (QoV @cond_true.{0} (QoV @cond_true.{1} @cond_false.{0}))))) (QoV (QoV (QoV (QoV @cond_false.{1} (QoV @Qn2 @and_true)) (QoV @Qoe.{0} (QoV @Qoj.{0} @List.getElem?_nil.{0}))) (QoV (QoV @Qon.{0} (QoV @QoS.{0} @Am.St.enter.eq_1)) (QoV @Am.Ml.eq_1 (QoV @Am.AV.shL.eq_1 @Am.AV.shL.eq_2)))) (QoV (QoV (QoV @Am.AV.sh.eq_1 (QoV @Am.AV.sh.eq_2 @Am.AV.sh.eq_3)) (QoV @Am.AV.sh.eq_4 (QoV @Am.AV.sh.eq_5 @Am.AV.sh.eq_6))) (QoV (QoV @Am.AV.sh.eq_7 (QoV @Am.AV.sh.eq_8 @Am.AV.sh.eq_9)) (QoV (QoV @Am.YD.eq_1 @Am.YD.eq_2) (QoV @Am.RR.ev.eq_1 @Am.RR.ev.eq_2)))))) (QoV (QoV (QoV (QoV (QoV @Am.RR.evL.eq_1 (QoV @Am.RR.evL.eq_2 @Am.Uj.eq_1)) (QoV @Am.AV.still.eq_1 (QoV @Am.AV.still.eq_2 @Am.AV.still.eq_3))) (QoV (QoV @Am.AV.still.eq_4 (QoV @Am.AV.still.eq_5 @Am.AV.still.eq_6)) (QoV @Am.AV.still.eq_7 (QoV @Am.AV.still.eq_8 @Am.AV.stillL.eq_1)))) (QoV (QoV (QoV @Am.AV.stillL.eq_2 (QoV @Am.AV.un.eq_1 @Am.AV.un.eq_2)) (QoV @Am.AV.un.eq_3 (QoV @Am.AV.un.eq_4 @Am.AV.un.eq_5))) (QoV (QoV @Am.AV.un.eq_6 (QoV @Am.AV.un.eq_7 @Am.AV.un.eq_8)) (QoV (QoV @Am.AV.un.eq_9 @Am.AV.un.eq_10) (QoV @Am.AV.un.eq_11 @Am.AV.un.eq_12))))) (QoV (QoV (QoV (QoV @Am.AV.un.eq_13 (QoV @Am.AV.unL.eq_1 @Am.AV.unL.eq_2)) (QoV @Option.bind_some.{0,0} (QoV @QnB.{0,0} @if_true.{0}))) (QoV (QoV @if_true.{1} (QoV @if_false.{0} @if_false.{1})) (QoV @Qnu (QoV @Go.IntKind.bits.eq_1 @Go.IntKind.bits.eq_2)))) (QoV (QoV (QoV @Go.IntKind.bits.eq_3 (QoV @Go.IntKind.bits.eq_4 @Go.IntKind.bits.eq_5)) (QoV @Go.IntKind.bits.eq_6 (QoV @Go.IntKind.bits.eq_7 @Go.IntKind.bits.eq_8))) (QoV (QoV @Qn7.{0} (QoV @Qnq.{0} @QoW)) (QoV (QoV @Qoq @forall_const.{1}) (QoV @not_true_eq_false @not_false_eq_true))))))))
end Am
namespace Cg
open Go Am
structure TI where
 sz:Nat:=1
 st:Bool:=false
 k:Nat:=0
 y:Ty:=.other
 i:IntKind:=.i64
 e:Nat:=0
 n:Nat:=0
 b:Nat:=8
 z:List AV:=[]
 fs:List (Nat×Nat×Bool):=[]
 ys:List Ty:=[]
 x:Bool:=false
def tt:Nat->TI
 |3=>{ k:=1,y:=.num,z:=[.int .i64 0] }
 |4=>{ k:=3,y:=.bool,b:=1,z:=[.bool false] }
 |5=>{ k:=1,y:=.num,i:=.u8,b:=1,z:=[.int .u8 0] }
 |9=>{ k:=2,y:=.str,b:=16,z:=[.str []] }
 |21=>{ k:=1,y:=.num,i:=.i32,b:=4,z:=[.int .i32 0] }
 |22=>{ k:=6,e:=48,b:=24,z:=[.nils] }
 |23=>{ k:=6,e:=109,b:=24,z:=[.nils] }
 |25=>{ sz:=2,st:=true,k:=8,b:=48,z:=[.nils,.nils],fs:=[(0,1,false),(1,1,false)],ys:=[.other,.other] }
 |26=>{ k:=1,y:=.num,i:=.u64,z:=[.int .u64 0] }
 |27=>{ k:=6,e:=32,b:=24,z:=[.nils] }
 |28=>{ k:=6,e:=68,b:=24,z:=[.nils] }
 |29=>{ k:=6,e:=50,b:=24,z:=[.nils] }
 |30=>{ k:=6,e:=57,b:=24,z:=[.nils] }
 |32=>{ sz:=7,st:=true,k:=8,b:=128,z:=[.int .i64 0,.int .u64 0,.str [],.nils,.nils,.nils,.nils],fs:=[(0,1,false),(1,1,false),(2,1,false),(3,1,false),(4,1,false),(5,1,false),(6,1,false)],ys:=[.num,.num,.str,.other,.other,.other,.other] }
 |38=>{ k:=1,y:=.num,z:=[.int .i64 0] }
 |43=>{ sz:=8,st:=true,k:=8,b:=80,z:=[.int .i64 0,.str [],.str [],.int .i64 0,.int .i64 0,.int .i64 0,.int .i64 0,.int .i64 0],fs:=[(0,1,false),(1,1,false),(2,1,false),(3,1,false),(4,1,false),(5,1,false),(6,1,false),(7,1,false)],ys:=[.num,.str,.str,.num,.num,.num,.num,.num] }
 |46=>{ k:=6,e:=43,b:=24,z:=[.nils] }
 |48=>{ sz:=3,st:=true,k:=8,b:=48,z:=[.str [],.nils,.int .i64 0],fs:=[(0,1,false),(1,1,false),(2,1,false)],ys:=[.str,.other,.num] }
 |50=>{ sz:=8,st:=true,k:=8,b:=136,z:=[.int .i64 0,.int .i64 0,.int .u64 0,.str [],.nils,.nils,.nils,.nils],fs:=[(0,1,false),(1,7,true)],ys:=[.num,.other] }
 |57=>{ sz:=4,st:=true,k:=8,b:=40,z:=[.int .i64 0,.int .i64 0,.int .u64 0,.str []],fs:=[(0,1,false),(1,1,false),(2,1,false),(3,1,false)],ys:=[.num,.num,.num,.str] }
 |61=>{ z:=[.nilf] }
 |62=>{ k:=9,e:=61,z:=[.nilm] }
 |68=>{ sz:=14,st:=true,k:=8,b:=256,z:=[.int .i64 0,.int .u64 0,.str [],.nils,.nils,.nils,.nils,.int .i64 0,.int .u64 0,.str [],.nils,.nils,.nils,.nils],fs:=[(0,7,true),(7,7,true)],ys:=[.other,.other] }
 |72=>{ z:=[.nilf] }
 |79=>{ sz:=4,st:=true,k:=8,b:=32,z:=[.int .i64 0,.int .i64 0,.int .i64 0,.int .i64 0],fs:=[(0,1,false),(1,1,false),(2,1,false),(3,1,false)],ys:=[.num,.num,.num,.num] }
 |82=>{ sz:=4,st:=true,k:=8,b:=96,z:=[.nils,.nils,.nils,.nils],fs:=[(0,2,true),(2,2,true)],ys:=[.other,.other] }
 |86=>{ sz:=5,st:=true,k:=8,b:=104,z:=[.nils,.nils,.nils,.nils,.int .i64 0],fs:=[(0,2,true),(2,2,true),(4,1,false)],ys:=[.other,.other,.num] }
 |90=>{ sz:=2,st:=true,k:=8,b:=48,z:=[.nils,.nils],fs:=[(0,2,true)],ys:=[.other] }
 |104=>{ k:=6,e:=5,b:=24,z:=[.nils] }
 |105=>{ k:=6,e:=112,b:=24,z:=[.nils] }
 |106=>{ k:=6,e:=115,b:=24,z:=[.nils] }
 |107=>{ k:=6,e:=117,b:=24,z:=[.nils] }
 |109=>{ sz:=5,st:=true,k:=8,b:=96,z:=[.str [],.bool false,.nils,.nils,.nils],fs:=[(0,1,false),(1,1,false),(2,1,false),(3,1,false),(4,1,false)],ys:=[.str,.bool,.other,.other,.other] }
 |112=>{ sz:=3,st:=true,k:=8,b:=48,z:=[.str [],.int .i64 0,.nils],fs:=[(0,1,false),(1,1,false),(2,1,false)],ys:=[.str,.num,.other] }
 |115=>{ sz:=2,st:=true,k:=8,b:=16,z:=[.int .i64 0,.int .i64 0],fs:=[(0,1,false),(1,1,false)],ys:=[.num,.num] }
 |117=>{ sz:=8,st:=true,k:=8,b:=144,z:=[.str [],.int .i64 0,.int .u64 0,.str [],.nils,.nils,.nils,.nils],fs:=[(0,1,false),(1,7,true)],ys:=[.str,.other] }
 |120=>{ k:=6,e:=4,b:=24,z:=[.nils] }
 |125=>{ sz:=2,st:=true,k:=8,b:=48,z:=[.nils,.nils],fs:=[(0,2,true)],ys:=[.other] }
 |138=>{ st:=true,k:=8,z:=[.nilf],fs:=[(0,1,false)],ys:=[.other] }
 |150=>{ sz:=6,st:=true,k:=8,b:=56,z:=[.str [],.int .i64 0,.int .i64 0,.int .i64 0,.int .i64 0,.int .i64 0],fs:=[(0,1,false),(1,1,false),(2,1,false),(3,1,false),(4,1,false),(5,1,false)],ys:=[.str,.num,.num,.num,.num,.num] }
 |155=>{ sz:=8,st:=true,k:=8,b:=104,z:=[.nils,.nils,.str [],.int .i64 0,.int .i64 0,.int .i64 0,.int .i64 0,.int .i64 0],fs:=[(0,2,true),(2,6,true)],ys:=[.other,.other] }
 |165=>{ k:=9,e:=43,z:=[.nilm] }
 |199=>{ z:=[.nilf] }
 |201=>{ z:=[.nilf] }
 |213=>{ k:=4,y:=.ptr,e:=215,z:=[.nilp] }
 |215=>{ sz:=2,st:=true,k:=8,b:=32,z:=[.nilp,.nils],fs:=[(0,1,false),(1,1,false)],ys:=[.ptr,.other] }
 |221=>{ k:=6,e:=30,b:=24,z:=[.nils] }
 |235=>{ sz:=7,st:=true,k:=8,b:=128,z:=[.int .i64 0,.int .u64 0,.str [],.nils,.nils,.nils,.nils],fs:=[(0,1,false),(1,1,false),(2,1,false),(3,1,false),(4,1,false),(5,1,false),(6,1,false)],ys:=[.num,.num,.str,.other,.other,.other,.other] }
 |236=>{ k:=6,e:=32,b:=24,z:=[.nils] }
 |238=>{ k:=6,e:=68,b:=24,z:=[.nils] }
 |241=>{ sz:=2,st:=true,k:=8,b:=48,z:=[.nils,.nils],fs:=[(0,1,false),(1,1,false)],ys:=[.other,.other] }
 |245=>{ k:=1,y:=.num,i:=.u64,z:=[.int .u64 0] }
 |249=>{ k:=6,e:=9,b:=24,z:=[.nils] }
 |261=>{ k:=4,y:=.ptr,e:=5,z:=[.nilp] }
 |273=>{ k:=6,e:=3,b:=24,z:=[.nils] }
 |284=>{ sz:=2,st:=true,k:=8,b:=16,z:=[.int .i64 0,.int .i64 0],fs:=[(0,1,false),(1,1,false)],ys:=[.num,.num] }
 |286=>{ k:=9,e:=284,x:=true,z:=[.nilm] }
 |308=>{ k:=10,z:=[.nilp] }
 |321=>{ sz:=2,st:=true,k:=8,b:=16,z:=[.int .u64 0,.int .u64 0],fs:=[(0,1,false),(1,1,false)],ys:=[.num,.num] }
 |322=>{ sz:=18,st:=true,k:=7,e:=321,n:=9,b:=144,z:=[.int .u64 0,.int .u64 0,.int .u64 0,.int .u64 0,.int .u64 0,.int .u64 0,.int .u64 0,.int .u64 0,.int .u64 0,.int .u64 0,.int .u64 0,.int .u64 0,.int .u64 0,.int .u64 0,.int .u64 0,.int .u64 0,.int .u64 0,.int .u64 0] }
 |327=>{ sz:=9,st:=true,k:=7,e:=3,n:=9,b:=72,z:=[.int .i64 0,.int .i64 0,.int .i64 0,.int .i64 0,.int .i64 0,.int .i64 0,.int .i64 0,.int .i64 0,.int .i64 0] }
 |328=>{ sz:=27,st:=true,k:=7,e:=327,n:=3,b:=216,z:=[.int .i64 0,.int .i64 0,.int .i64 0,.int .i64 0,.int .i64 0,.int .i64 0,.int .i64 0,.int .i64 0,.int .i64 0,.int .i64 0,.int .i64 0,.int .i64 0,.int .i64 0,.int .i64 0,.int .i64 0,.int .i64 0,.int .i64 0,.int .i64 0,.int .i64 0,.int .i64 0,.int .i64 0,.int .i64 0,.int .i64 0,.int .i64 0,.int .i64 0,.int .i64 0,.int .i64 0] }
 |333=>{ sz:=2,st:=true,k:=8,b:=2,z:=[.int .u8 0,.int .u8 0],fs:=[(0,1,false),(1,1,false)],ys:=[.num,.num] }
 |335=>{ k:=1,y:=.num,i:=.u32,b:=4,z:=[.int .u32 0] }
 |_=>{}
abbrev gl1:List AV:=[.int .i64 1,.int .i64 2,.int .i64 2,.int .i64 1,.int .i64 1,.int .i64 6,.int .i64 7,.int .i64 7,.int .i64 1,.int .i64 1,.int .i64 2,.int .i64 2,.int .i64 2,.int .i64 2,.int .i64 6,.int .i64 7,.int .i64 7,.int .i64 2,.int .i64 1,.int .i64 2,.int .i64 2,.int .i64 2,.int .i64 2,.int .i64 6,.int .i64 7,.int .i64 8,.int .i64 9]
abbrev gl0:List AV:=[.int .u64 0,.int .u64 1,.int .u64 2147483648,.int .u64 2147483647,.int .u64 9223372036854775808,.int .u64 9223372036854775807,.int .u64 0,.int .u64 4294967295,.int .u64 0,.int .u64 18446744073709551615,.int .u64 0,.int .u64 0,.int .u64 0,.int .u64 0,.int .u64 0,.int .u64 0,.int .u64 0,.int .u64 2147483647]
def glo:Nat->List AV
 |1=>gl1
 |0=>gl0
 |_=>[]
end Cg
set_option linter.unusedVariables false
namespace Cg
open Go Am
inductive HV where
 |d
 |ro (r:RO)
 |lv (l s:Nat)
 |lr
 |lo
 |cc
 |cf
 |cg
 |ck (l s:Nat)
 |ac
 |bv
 |sl
 |sp
 |mp
 |sm
mutual
def av:Value->AV
 |.int k n=>.int k n
 |.bool b=>.bool b
 |.string ⟨⟨s⟩⟩=>.str s
 |.slice .. => .nils
 |.pointer _=>.nilp
 |.nilFunc=>.nilf
 |.nilIface=>.nili
 |.map _=>.nilm
 |.agg ⟨l⟩=>.agg (avs l)
 |.tuple ⟨l⟩=>.tup (avs l)
 |_=>.top
def avs:List Value->List AV
 | []=>[]
 |x :: l=>av x :: avs l
end
def ra:Operand->RA
 |.tmp n=>.t n
 |.const v=>.c (av v)
 |.func k=>.f k
 |.global k=>.g k (glo k)
def ras:List Operand->List RA
 | []=>[]
 |x :: l=>ra x :: ras l
def rp:Option Operand->Option RA
 |none=>none
 |some x=>some (ra x)
def sh (t:TI):Option Nat:=bif t.st then some t.sz else none
def fo:List (Nat×Nat×Bool)->Nat->Nat
 | [],_=>0
 |x :: _,0=>x.1
 |_ :: l,i+1=>fo l i
def fh:List (Nat×Nat×Bool)->Nat->Option Nat
 | [],_=>none
 |x :: _,0=>bif x.2.2 then some x.2.1 else none
 |_ :: l,i+1=>fh l i
def fz:List (Nat×Nat×Bool)->Nat->Nat
 | [],_=>0
 |x :: _,0=>x.2.1
 |_ :: l,i+1=>fz l i
def ps (fs:List (Nat×Nat×Bool)):List (Nat×Operand)->List (Nat×Nat×RA)
 | []=>[]
 |(i,x) :: l=>(fo fs i,fz fs i,ra x) :: ps fs l
def pa (n:Nat):List (Nat×Operand)->List (Nat×Nat×RA)
 | []=>[]
 |(i,x) :: l=>(i*n,n,ra x) :: pa n l
def nl:Operand->Bool
 |.const (.slice ..)=>true
 |_=>false
def ok (d t:Nat):Nat:=bif t==215 then 2000+t else d
def ng:BinOp->Bool
 |.neq=>true
 |_=>false
def lk {α:Type}(x:α):List (Nat×α)->Nat->α
 | [],_=>x
 |(i,y) :: l,k=>bif i==k then y else lk x l k
def lz (t:TI):Nat:=bif t.k==2 then 0 else bif t.k==9 then 2 else 1
def zo (t:TI):AV:=bif t.st then .agg t.z else t.z.headD .top
def bt (M k:Nat):Bool:=M >>> k % 2==1
def ca:Operand->List RA->RO
 |.func k,l=>bif bt 618061554871742838889489911622548574545275894221331432865707528913559243857920412926406816570072885664804992188416 k then .callF (.f k) l else .call (.f k) l
 |f,l=>.callF (ra f) l
def bn (b:BinOp)(t:TI)(x y:Operand):RO:=bif t.k==6&&nl y then .isnil (ng b) (ra x)else bif t.k==8 then .val (.eqs (ng b) t.ys (ra x) (ra y))else .val (.bin t.y b (ra x) (ra y))
def cv (d:Nat)(s t:TI)(x:Operand):RO:=bif t.k==1 then .val (.cvi t.i (ra x))else bif t.k==2 then .val (.b2s (ra x))else bif t.k==6 then .s2b d t.e (ra x)else bif t.k==10 then .val (.toU (ra x))else .val (.ofU t.e (tt t.e).sz (ra x))
def bi (d:Nat):Builtin->List Operand->TI->TI->RO
 |.len,[x],t,_=>.val (.len (lz t) (ra x))
 |.max,[x,y],_,_=>.val (.mnx true (ra x) (ra y))
 |.min,[x,y],_,_=>.val (.mnx false (ra x) (ra y))
 |.append,[x,y],t,u=>bif u.k==2 then .appS t.e (ra x) (ra y)else .app (tt t.e).sz (tt t.e).b t.e (ra x) (ra y)
 |.clear,[x],t,_=>.clr (tt t.e).sz (tt t.e).z (ra x)
 |.unsafeSliceData,[x],_,_=>.usd (ra x)
 |.unsafeString,[x,y],t,_=>.ustr t.e (ra x) (ra y)
 |_,_,_,_=>.bsl0 0 d
def t1:List Nat->TI
 | []=>{}
 |t :: _=>tt t
def t2:List Nat->TI
 |_ :: t :: _=>tt t
 |_=>{}
def o1 (d:Nat):Op->RO
 |.move x=>.val (.mov (ra x))
 |.assign x=>.val (.mov (ra x))
 |.pick a b c=>.val (.pick (ra a) (ra b) (ra c))
 |.alloc t=>.allocN (ok d t) (tt t).z
 |.box t x=>.boxN (ok d t) (ra x)
 |.build t ⟨l⟩=>.val (.build (tt t).z (bif (tt t).k==7 then pa (tt (tt t).e).sz l else ps (tt t).fs l))
 |.load t p=>.val (.load (sh (tt t)) (ra p))
 |.store t p x=>.store (tt t).sz (ra p) (ra x)
 |.nilCheck x=>.val (.nilck (ra x))
 |.binOp b t x y _=>bn b (tt t) x y
 |.unOp u _ x=>.val (.un u (ra x))
 |.convert s t x=>cv d (tt s) (tt t) x
 |.fieldAddr t x i=>.val (.faddr (fo (tt t).fs i) (ra x))
 |.field t x i=>.val (.fld (fo (tt t).fs i) (fh (tt t).fs i) (ra x))
 |.indexAddr t x i=>.val (.iaddr (tt (tt t).e).sz (bif (tt t).k==7 then some (tt t).n else none) (ra x) (ra i))
 |.index t x i=>bif (tt t).k==7 then .bsl0 0 0 else .val (.idx (ra x) (ra i))
 |.slice t x a b c=>.val (.slc (bif (tt t).k==2 then none else some (tt (tt t).e).sz) (ra x) (rp a) (rp b) (rp c))
 |.extract x i=>.val (.ext (ra x) i)
 |.makeFunc f ⟨a⟩ ⟨b⟩=>.val (.mkfn f (ras a) (ras b))
 |.makeSlice t x y=>.mk d (tt t).e (tt (tt t).e).sz (tt (tt t).e).b (tt (tt t).e).z (ra x) (ra y)
 |.buildSlice t n ⟨l⟩=>bif n==0 then .bsl0 d (tt (tt t).e).sz else .bsl (tt (tt t).e).sz n (tt (tt t).e).z (pa (tt (tt t).e).sz l)
 |.call ⟨.value f,⟨l⟩,_⟩=>ca f (ras l)
 |.call ⟨.builtin b,⟨l⟩,⟨t⟩⟩=>bi d b l (t1 t) (t2 t)
 |.range _ x=>.rngs d (ra x)
 |.next x _=>.nxts (ra x)
 |.makeMap _ _=>.mkm d
 |.mapUpdate t x i v=>.mput (tt t).x (ra x) (ra i) (ra v)
 |.insert t x i v=>.mput (tt t).x (ra x) (ra i) (ra v)
 |.makeInterface t x=>.val (.mki t (ra x))
 |.typeAssert x _ t b=>.val (.tas t b (zo (tt t)) (ra x))
 |.lookup t x i b=>.val (.mget (tt t).x b (zo (tt (tt t).e)) (ra x) (ra i))
 |_=>.bsl0 0 0
def lf:Op->(Operand->List RA->RO)->RO
 |.call ⟨.value f,⟨l⟩,_⟩,k=>k f (ras l)
 |_,_=>.bsl0 0 0
def lp:Op->(RA->RA->TI->RO)->RO
 |.call ⟨_,⟨[x,y]⟩,⟨t :: _⟩⟩,k=>k (ra x) (ra y) (tt t)
 |_,_=>.bsl0 0 0
def lb:Op->(Nat->List (Nat×Operand)->TI->RO)->RO
 |.buildSlice t n ⟨l⟩,k=>k n l (tt (tt t).e)
 |_,_=>.bsl0 0 0
def ld (f:Option Nat->RA->VO):Op->RO
 |.load t p=>.val (f (sh (tt t)) (ra p))
 |_=>.bsl0 0 0
def sv (l s:Nat):Op->RO
 |.load t p=>.val (.loadv l s (sh (tt t)) (ra p))
 |.store t p x=>.storev l s (tt t).sz (ra p) (ra x)
 |_=>.bsl0 0 0
def ls (k:TI->RA->Option RA->Option RA->Option RA->RO):Op->RO
 |.slice t x a b c=>k (tt (tt t).e) (ra x) (rp a) (rp b) (rp c)
 |_=>.bsl0 0 0
def lq:Option RA->RA
 |some x=>x
 |none=>.t 0
def lm:Op->RO
 |.lookup t x i b=>.val (.mgetp (tt t).x b (zo (tt (tt t).e)) (ra x) (ra i))
 |_=>.bsl0 0 0
def la:Op->RO
 |_=>.bsl0 0 0
def hd:List RA->RA
 |x :: _=>x
 | []=>.t 0
def op (d:Nat)(o:Op):HV->RO
 |.d=>o1 d o
 |.ro r=>r
 |.lv l s=>sv l s o
 |.lr=>ld .loadr o
 |.lo=>ld .loado o
 |.cc=>lf o λf l=>.call (ra f) l
 |.cf=>lf o λf l=>.callF (ra f) l
 |.cg=>lf o λf l=>.callG (ra f) l
 |.ck i s=>lf o λf l=>.callK i s (ra f) l
 |.sm=>lf o λ_ l=>.val (.same (hd l))
 |.ac=>lp o λx y t=>.appc d (tt t.e).sz (tt t.e).b t.e x y
 |.bv=>lb o λn l t=>.bslv d t.sz n t.z (pa t.sz l)
 |.sl=>ls (λ_ x _ b c=>.val (.slcl x (lq b) (lq c))) o
 |.sp=>ls (λt x a b c=>.val (.slcp (some t.sz) x a b c)) o
 |.mp=>lm o
def dd:Option Nat->Nat
 |some d=>d
 |none=>0
def ds:List Oper->List Nat
 | []=>[]
 |o :: l=>dd o.dst :: ds l
def nt:List Nat->Nat->Nat
 | [],_=>0
 |x :: _,0=>x
 |_ :: l,i+1=>nt l i
def gd (l:List Nat):Option (Nat×Bool)->Option (Nat×Bool)
 |none=>none
 |some (j,w)=>some (nt l j,w)
def its (ks:List (Nat×HV))(l:List Nat):Nat->List Oper->List Am.Item
 |_,[]=>[]
 |k,o :: os=>⟨o.dst,op (dd o.dst) o.op (lk .d ks k),gd l o.guard⟩ :: its ks l (k+1) os
def wr:List GO->RC->RC
 | [],c=>c
 |g :: l,c=>.gho g (wr l c)
def dr:List Nat->RC->RC
 | [],c=>c
 |s :: l,c=>dr l (.gho (.drop s) c)
def s1 (d:Nat):Op->List Nat
 |.alloc t=>[ok d t]
 |.box t _=>[ok d t]
 |.range _ _=>[d]
 |.makeMap _ _=>[d]
 |_=>[]
def so:List Oper->List Nat
 | []=>[]
 |o :: l=>s1 (dd o.dst) o.op++so l
def me (k:Nat):List Nat->Bool
 | []=>false
 |i :: l=>bif i==k then true else me k l
def st (no:List Nat):Code->List Nat
 |.region n ⟨l⟩ _=>bif me n no then []else so l
 |.seq a b=>st no a++st no b
 |.cond _ a b=>st no a++st no b
 |.block _ a=>st no a
 |.loop a=>st no a
 |.scope a=>st no a
 |_=>[]
def pn (pe:List (Nat×List GO)):Code->List GO
 |.region n _ _=>lk [] pe n
 |.seq _ b=>pn pe b
 |.cond _ a b=>pn pe a++pn pe b
 |.block _ a=>pn pe a
 |.loop a=>pn pe a
 |.scope a=>pn pe a
 |_=>[]
def hg:Code->Bool
 |.goto _=>true
 |.seq a b=>bif hg a then true else hg b
 |.cond _ a b=>bif hg a then true else hg b
 |.block _ a=>hg a
 |.loop a=>hg a
 |.scope a=>hg a
 |_=>false
def lbl:Code->Option Nat
 |.seq a b=>match lbl a with
  |some l=>some l
  |none=>lbl b
 |.label l=>some l
 |_=>none
def fl:RC->Option RC
 |.seq a b=>match fl a with
  |some r=>some (.seq r b)
  |none=>fl b
 |.gho _ a=>fl a
 |.lab=>some .skip
 |_=>none
def sj (no:List Nat)(x:Code)(l:Nat):List Nat:=match findLabel x l with
 |some r=>st no r
 |none=>[]
def sk (no:List Nat)(x:Code)(c:RC)(l:Nat):RC:=match fl c with
 |some r=>.jump l c (dr (sj no x l) r)
 |none=>.no
def sc (no:List Nat)(x:Code)(c:RC):RC:=match lbl x with
 |some l=>bif hg x then sk no x c l else .scope c
 |none=>.scope c
def cd (no:List Nat)(ov:List (Nat×List (Nat×HV)))(pe be:List (Nat×List GO)):Code->RC
 |.skip=>.skip
 |.region n ⟨l⟩ b=>bif me n no then .no else wr (lk [] be n) (bif b then .draw (its (lk [] ov n) (ds l) 0 l)else .reg (its (lk [] ov n) (ds l) 0 l))
 |.seq a b=>.seq (cd no ov pe be a) (wr (pn pe a) (cd no ov pe be b))
 |.cond x a b=>.cond (ra x) (cd no ov pe be a) (cd no ov pe be b)
 |.block n a=>.block n (cd no ov pe be a)
 |.loop a=>.loop (dr (st no a) (cd no ov pe be a))
 |.exit n=>.exit n
 |.scope a=>sc no a (cd no ov pe be a)
 |.goto n=>.goto n
 |.label _=>.lab
 |.ret=>.ret
 |_=>.no
def bo:Option Code->Code
 |some c=>c
 |none=>.skip
def fn (f:Func)(no:List Nat:=[])(ov:List (Nat×List (Nat×HV)):=[])(pe be:List (Nat×List GO):=[]):RC:=cd no ov pe be (bo f.body)
def r1:List ResultVar->List RR
 | []=>[]
 |.tmp t :: l=>.tmp t :: r1 l
 |.cell t y :: l=>.cell t (sh (tt y)) :: r1 l
def rs (f:Func):List RR:=r1 f.results.toList
end Cg
set_option linter.defProp false
namespace Am
open Go
def eC:=(QoV (QoV (QoV (QoV (QoV (QoV (QoV (QoV @Cg.av.eq_1 @Cg.av.eq_2) (QoV @Cg.av.eq_3 @Cg.av.eq_4)) (QoV (QoV @Cg.av.eq_5 @Cg.av.eq_6) (QoV @Cg.av.eq_7 @Cg.av.eq_8))) (QoV (QoV (QoV @Cg.av.eq_9 @Cg.av.eq_10) (QoV @Cg.av.eq_11 @Cg.avs.eq_1)) (QoV (QoV @Cg.avs.eq_2 @Cg.ra.eq_1) (QoV @Cg.ra.eq_2 (QoV @Cg.ra.eq_3 @Cg.ra.eq_4))))) (QoV (QoV (QoV (QoV @Cg.ras.eq_1 @Cg.ras.eq_2) (QoV @Cg.rp.eq_1 @Cg.rp.eq_2)) (QoV (QoV @Cg.sh.eq_1 @Cg.fo.eq_1) (QoV @Cg.fo.eq_2 (QoV @Cg.fo.eq_3 @Cg.fh.eq_1)))) (QoV (QoV (QoV @Cg.fh.eq_2 @Cg.fh.eq_3) (QoV @Cg.fz.eq_1 @Cg.fz.eq_2)) (QoV (QoV @Cg.fz.eq_3 @Cg.ps.eq_1) (QoV @Cg.ps.eq_2 (QoV @Cg.pa.eq_1 @Cg.pa.eq_2)))))) (QoV (QoV (QoV (QoV (QoV @Cg.nl.eq_1 @Cg.nl.eq_2) (QoV @Cg.ok.eq_1 @Cg.ng.eq_1)) (QoV (QoV @Cg.ng.eq_2 @Cg.lk.eq_1) (QoV @Cg.lk.eq_2 @Cg.lz.eq_1))) (QoV (QoV (QoV @Cg.zo.eq_1 @Cg.bt.eq_1) (QoV @Cg.ca.eq_1 @Cg.ca.eq_2)) (QoV (QoV @Cg.bn.eq_1 @Cg.cv.eq_1) (QoV @Cg.bi.eq_1 (QoV @Cg.bi.eq_2 @Cg.bi.eq_3))))) (QoV (QoV (QoV (QoV @Cg.bi.eq_4 @Cg.bi.eq_5) (QoV @Cg.bi.eq_6 @Cg.bi.eq_7)) (QoV (QoV @Cg.bi.eq_8 @Cg.t1.eq_1) (QoV @Cg.t1.eq_2 (QoV @Cg.t2.eq_1 @Cg.t2.eq_2)))) (QoV (QoV (QoV @Cg.o1.eq_1 @Cg.o1.eq_2) (QoV @Cg.o1.eq_3 @Cg.o1.eq_4)) (QoV (QoV @Cg.o1.eq_5 @Cg.o1.eq_6) (QoV @Cg.o1.eq_7 (QoV @Cg.o1.eq_8 @Cg.o1.eq_9))))))) (QoV (QoV (QoV (QoV (QoV (QoV @Cg.o1.eq_10 @Cg.o1.eq_11) (QoV @Cg.o1.eq_12 @Cg.o1.eq_13)) (QoV (QoV @Cg.o1.eq_14 @Cg.o1.eq_15) (QoV @Cg.o1.eq_16 @Cg.o1.eq_17))) (QoV (QoV (QoV @Cg.o1.eq_18 @Cg.o1.eq_19) (QoV @Cg.o1.eq_20 @Cg.o1.eq_21)) (QoV (QoV @Cg.o1.eq_22 @Cg.o1.eq_23) (QoV @Cg.o1.eq_24 (QoV @Cg.o1.eq_25 @Cg.o1.eq_26))))) (QoV (QoV (QoV (QoV @Cg.o1.eq_27 @Cg.o1.eq_28) (QoV @Cg.o1.eq_29 @Cg.o1.eq_30)) (QoV (QoV @Cg.o1.eq_31 @Cg.o1.eq_32) (QoV @Cg.lf.eq_1 (QoV @Cg.lf.eq_2 @Cg.lp.eq_1)))) (QoV (QoV (QoV @Cg.lp.eq_2 @Cg.lb.eq_1) (QoV @Cg.lb.eq_2 @Cg.ld.eq_1)) (QoV (QoV @Cg.ld.eq_2 @Cg.sv.eq_1) (QoV @Cg.sv.eq_2 (QoV @Cg.sv.eq_3 @Cg.ls.eq_1)))))) (QoV (QoV (QoV (QoV (QoV @Cg.ls.eq_2 @Cg.lq.eq_1) (QoV @Cg.lq.eq_2 @Cg.lm.eq_1)) (QoV (QoV @Cg.lm.eq_2 @Cg.la.eq_1) (QoV @Cg.hd.eq_1 @Cg.hd.eq_2))) (QoV (QoV (QoV @Cg.op.eq_1 @Cg.op.eq_2) (QoV @Cg.op.eq_3 @Cg.op.eq_4)) (QoV (QoV @Cg.op.eq_5 @Cg.op.eq_6) (QoV @Cg.op.eq_7 (QoV @Cg.op.eq_8 @Cg.op.eq_9))))) (QoV (QoV (QoV (QoV @Cg.op.eq_10 @Cg.op.eq_11) (QoV @Cg.op.eq_12 @Cg.op.eq_13)) (QoV (QoV @Cg.op.eq_14 @Cg.op.eq_15) (QoV @Cg.dd.eq_1 (QoV @Cg.dd.eq_2 @Cg.ds.eq_1)))) (QoV (QoV (QoV @Cg.ds.eq_2 @Cg.nt.eq_1) (QoV @Cg.nt.eq_2 @Cg.nt.eq_3)) (QoV (QoV @Cg.gd.eq_1 @Cg.gd.eq_2) (QoV @Cg.its.eq_1 (QoV @Cg.its.eq_2 @Cg.wr.eq_1)))))))) (QoV (QoV (QoV (QoV (QoV (QoV (QoV @Cg.wr.eq_2 @Cg.dr.eq_1) (QoV @Cg.dr.eq_2 @Cg.s1.eq_1)) (QoV (QoV @Cg.s1.eq_2 @Cg.s1.eq_3) (QoV @Cg.s1.eq_4 @Cg.s1.eq_5))) (QoV (QoV (QoV @Cg.so.eq_1 @Cg.so.eq_2) (QoV @Cg.me.eq_1 @Cg.me.eq_2)) (QoV (QoV @Cg.st.eq_1 @Cg.st.eq_2) (QoV @Cg.st.eq_3 (QoV @Cg.st.eq_4 @Cg.st.eq_5))))) (QoV (QoV (QoV (QoV @Cg.st.eq_6 @Cg.st.eq_7) (QoV @Cg.pn.eq_1 @Cg.pn.eq_2)) (QoV (QoV @Cg.pn.eq_3 @Cg.pn.eq_4) (QoV @Cg.pn.eq_5 (QoV @Cg.pn.eq_6 @Cg.pn.eq_7)))) (QoV (QoV (QoV @Cg.hg.eq_1 @Cg.hg.eq_2) (QoV @Cg.hg.eq_3 @Cg.hg.eq_4)) (QoV (QoV @Cg.hg.eq_5 @Cg.hg.eq_6) (QoV @Cg.hg.eq_7 (QoV @Cg.lbl.eq_1 @Cg.lbl.eq_2)))))) (QoV (QoV (QoV (QoV (QoV @Cg.lbl.eq_3 @Cg.fl.eq_1) (QoV @Cg.fl.eq_2 @Cg.fl.eq_3)) (QoV (QoV @Cg.fl.eq_4 @Cg.sj.eq_1) (QoV @Cg.sk.eq_1 @Cg.sc.eq_1))) (QoV (QoV (QoV @Cg.cd.eq_1 @Cg.cd.eq_2) (QoV @Cg.cd.eq_3 @Cg.cd.eq_4)) (QoV (QoV @Cg.cd.eq_5 @Cg.cd.eq_6) (QoV @Cg.cd.eq_7 (QoV @Cg.cd.eq_8 @Cg.cd.eq_9))))) (QoV (QoV (QoV (QoV @Cg.cd.eq_10 @Cg.cd.eq_11) (QoV @Cg.cd.eq_12 @Cg.bo.eq_1)) (QoV (QoV @Cg.bo.eq_2 @Cg.fn.eq_1) (QoV @Cg.r1.eq_1 (QoV @Cg.r1.eq_2 @Cg.r1.eq_3)))) (QoV (QoV (QoV @Cg.rs.eq_1 @Cg.tt.eq_1) (QoV @Cg.tt.eq_2 @Cg.tt.eq_3)) (QoV (QoV @Cg.tt.eq_4 @Cg.tt.eq_5) (QoV @Cg.tt.eq_6 (QoV @Cg.tt.eq_7 @Cg.tt.eq_8))))))) (QoV (QoV (QoV (QoV (QoV (QoV @Cg.tt.eq_9 @Cg.tt.eq_10) (QoV @Cg.tt.eq_11 @Cg.tt.eq_12)) (QoV (QoV @Cg.tt.eq_13 @Cg.tt.eq_14) (QoV @Cg.tt.eq_15 @Cg.tt.eq_16))) (QoV (QoV (QoV @Cg.tt.eq_17 @Cg.tt.eq_18) (QoV @Cg.tt.eq_19 @Cg.tt.eq_20)) (QoV (QoV @Cg.tt.eq_21 @Cg.tt.eq_22) (QoV @Cg.tt.eq_23 (QoV @Cg.tt.eq_24 @Cg.tt.eq_25))))) (QoV (QoV (QoV (QoV @Cg.tt.eq_26 @Cg.tt.eq_27) (QoV @Cg.tt.eq_28 @Cg.tt.eq_29)) (QoV (QoV @Cg.tt.eq_30 @Cg.tt.eq_31) (QoV @Cg.tt.eq_32 (QoV @Cg.tt.eq_33 @Cg.tt.eq_34)))) (QoV (QoV (QoV @Cg.tt.eq_35 @Cg.tt.eq_36) (QoV @Cg.tt.eq_37 @Cg.tt.eq_38)) (QoV (QoV @Cg.tt.eq_39 @Cg.tt.eq_40) (QoV @Cg.tt.eq_41 (QoV @Cg.tt.eq_42 @Cg.tt.eq_43)))))) (QoV (QoV (QoV (QoV (QoV @Cg.tt.eq_44 @Cg.tt.eq_45) (QoV @Cg.tt.eq_46 @Cg.tt.eq_47)) (QoV (QoV @Cg.tt.eq_48 @Cg.tt.eq_49) (QoV @Cg.tt.eq_50 (QoV @Cg.tt.eq_51 @Cg.tt.eq_52)))) (QoV (QoV (QoV @Cg.tt.eq_53 @Cg.tt.eq_54) (QoV @Cg.tt.eq_55 @Cg.tt.eq_56)) (QoV (QoV @Cg.tt.eq_57 @Cg.tt.eq_58) (QoV @Cg.tt.eq_59 (QoV @Cg.tt.eq_60 @Cg.tt.eq_61))))) (QoV (QoV (QoV (QoV @Cg.tt.eq_62 @Cg.tt.eq_63) (QoV @Cg.tt.eq_64 @Cg.tt.eq_65)) (QoV (QoV @Cg.glo.eq_1 @Cg.glo.eq_2) (QoV @Cg.glo.eq_3 (QoV @cond_true.{0} @cond_true.{1})))) (QoV (QoV (QoV @cond_false.{0} @cond_false.{1}) (QoV @QoW @QoJ)) (QoV (QoV @Qoq @QoY) (QoV @Qny.{0} (QoV @Qnx.{0} @List.headD_cons.{0})))))))))
end Am
namespace Rc
open Go Am Cg
def hs:Nat->List Nat×List (Nat×List (Nat×HV))×List (Nat×List GO)×List (Nat×List GO)
 |3=>([],[(15,[(1,.lv 0 5),(4,.lr),(6,.lv 0 16),(10,.lr),(16,.lv 0 18)]),(16,[(0,.lv 0 15),(2,.lv 0 16),(6,.lr),(12,.lv 0 20)]),(17,[(6,.lv 0 20),(8,.lv 0 16),(12,.lr)])],[],[])
 |7=>([],[(2,[(2,.lv 0 1),(8,.lv 0 2)]),(4,[(2,.lv 0 1),(8,.lv 0 4)])],[],[])
 |9=>([],[(12,[(1,.lv 0 5),(2,.lv 0 6),(5,.lv 0 5),(7,.lv 0 8),(9,.cc),(12,.lv 0 10)])],[],[])
 |10=>([],[(11,[(1,.lv 0 5),(5,.lr),(7,.lv 0 9)]),(12,[(0,.lv 0 3),(1,.lv 0 9),(3,.lv 0 5),(7,.lr),(10,.lv 0 11)])],[(3,[.vecc 7 5 1100 8])],[])
 |13=>([],[(6,[(1,.lv 0 2),(4,.lr),(6,.lv 0 3),(9,.lr)]),(11,[(1,.lv 0 2),(5,.lr),(7,.lv 0 3),(11,.lr),(16,.lv 0 2),(20,.lr),(22,.lv 0 3),(26,.lr)]),(16,[(1,.lv 0 2),(5,.lr),(7,.lv 0 3),(11,.lr),(15,.lv 0 2),(19,.lr),(21,.lv 0 3),(25,.lr)]),(21,[(1,.lv 0 2),(4,.lr),(6,.lv 0 3),(9,.lr)])],[],[])
 |16=>([],[(9,[(2,.lv 0 1),(6,.lr),(9,.lv 0 1),(13,.lr)])],[],[])
 |17=>([],[(9,[(2,.lv 0 1),(6,.lr),(10,.lv 0 1),(14,.lr)])],[],[])
 |19=>([],[(4,[(0,.lv 0 6),(2,.lv 0 13),(3,.lv 0 5),(5,.lv 0 9),(13,.lv 0 15)])],[],[])
 |23=>([],[(3,[(0,.lv 0 3),(3,.lv 0 3),(6,.lr),(7,.lv 0 5)])],[],[])
 |24=>([],[(7,[(1,.lv 0 3),(4,.lr),(6,.lv 0 9),(12,.lv 0 10)])],[(1,[.vecc 7 5 1100 8])],[])
 |25=>([],[(6,[(8,.lr),(13,.lr)]),(8,[(3,.lr),(4,.bv),(7,.sp)])],[(1,[.lst 3]),(9,[.pub 3 42])],[])
 |26=>([],[(7,[(1,.lv 0 7),(2,.lv 0 3),(3,.lv 0 4),(5,.lv 0 5),(8,.lr),(13,.lv 0 7)]),(15,[(1,.lv 0 9),(6,.lr),(8,.lv 0 3),(9,.lv 0 4),(14,.lr),(20,.lv 0 9)])],[(3,[.vecc 7 3 1100 7]),(10,[.vecc 9 4 1101 14])],[])
 |35=>([],[(5,[(6,.lv 0 1),(11,.lr),(13,.lv 0 1),(17,.lr)]),(9,[(3,.lv 0 1),(7,.lr),(12,.lr),(14,.lv 0 1),(18,.lr),(22,.lr)]),(13,[(6,.lv 0 1),(11,.lr),(13,.lv 0 1),(17,.lr)]),(17,[(3,.lv 0 1),(7,.lr),(12,.lr),(14,.lv 0 1),(18,.lr),(22,.lr)])],[],[])
 |36=>([],[(8,[(3,.lv 0 1),(7,.lr),(9,.lv 0 1),(13,.lr)]),(16,[(6,.lr),(11,.lr)]),(27,[(6,.lr),(11,.lr)])],[],[])
 |37=>([],[(23,[(3,.lv 0 12),(8,.lv 0 12),(13,.lv 0 12),(15,.lv 0 12),(23,.lv 0 12),(25,.lv 0 8),(30,.lr)])],[],[])
 |38=>([],[(18,[(2,.lv 0 1),(4,.lv 0 1),(8,.lr),(11,.lr)])],[],[])
 |40=>([],[(5,[(1,.lv 0 4),(4,.lr),(6,.lv 0 5),(9,.lr),(10,.lv 0 8),(11,.lv 0 9)])],[],[])
 |44=>([],[(4,[(2,.lv 0 4),(5,.lr),(7,.lv 0 10),(13,.lv 0 11)]),(11,[(2,.lv 0 4),(5,.lr),(7,.lv 0 14),(13,.lv 0 15)]),(12,[(2,.lv 0 4),(5,.lr),(7,.lv 0 14),(13,.lv 0 17)])],[],[])
 |52=>([],[(7,[(7,.lv 0 6),(13,.lr)])],[(3,[.vec 4 4 8])],[])
 |54=>([],[(7,[(1,.lv 0 7),(2,.lv 0 3),(3,.lv 0 4),(4,.lv 0 9),(9,.lv 0 7)]),(15,[(1,.lv 0 10),(3,.lv 0 12),(5,.lv 0 3),(6,.lv 0 4),(8,.lv 0 12),(14,.lv 0 10)])],[(3,[.vecc 7 3 1100 7]),(11,[.vecc 10 4 1101 14])],[])
 |60=>([],[(9,[(6,.lr),(11,.lr)]),(12,[(9,.lr),(14,.lr)]),(14,[(3,.lr),(4,.bv),(7,.sp)])],[(1,[.lst 3]),(15,[.pub 3 68])],[])
 |73=>([],[(12,[(7,.lr),(13,.lr)]),(14,[(7,.lr),(13,.lr)])],[],[])
 |77=>([],[(13,[(1,.cg)]),(16,[(3,.cg)])],[],[])
 |80=>([],[(7,[(7,.lr),(9,.lv 0 11)])],[(2,[.vec 8 8 4])],[])
 |83=>([],[],[(5,[.vec 3 3 7])],[])
 |85=>([],[(4,[(2,.lv 0 5),(5,.lr),(7,.lv 0 13),(13,.lv 0 14)]),(5,[(2,.lv 0 5),(5,.lr),(7,.lv 0 13),(13,.lv 0 16)]),(10,[(1,.lv 0 8),(3,.lv 0 5),(5,.lv 0 13),(10,.lv 0 8)]),(8,[(1,.lv 0 5),(4,.lv 0 5),(8,.lr),(9,.lv 0 8),(11,.lv 0 5),(13,.lv 0 19),(20,.lv 0 8)])],[],[])
 |88=>([],[(1,[(2,.lv 0 4),(5,.lr),(8,.lv 0 4),(11,.lr),(14,.lv 0 10),(15,.lv 0 11)])],[],[])
 |90=>([],[(1,[(0,.lv 0 6),(5,.lr),(11,.lv 0 11)]),(13,[(0,.lv 0 5),(1,.lv 0 11),(6,.lr)])],[],[])
 |101=>([],[(7,[(7,.lv 0 6),(13,.lr)])],[(3,[.vec 4 4 14])],[])
 |126=>([],[(7,[(0,.lv 0 3),(2,.lv 0 3),(5,.lr),(8,.lv 0 5),(10,.ck 0 3)])],[],[])
 |129=>([],[(12,[(5,.cg)])],[],[])
 |131=>([],[],[(5,[.vec 3 3 7])],[])
 |132=>([],[(1,[(2,.lv 0 3),(5,.lr),(7,.lv 0 5),(13,.lv 0 7)]),(4,[(0,.lv 0 7),(2,.lv 0 3),(3,.lv 0 7),(5,.lv 0 5),(6,.cc)])],[],[])
 |133=>([],[],[(1,[.vecc 2215 1 2005 1])],[])
 |135=>([7],[],[],[])
 |137=>([],[(11,[(2,.lv 0 6),(5,.lr),(6,.lv 0 10),(7,.lv 0 9),(8,.lv 0 17),(10,.lv 0 12)])],[],[])
 |144=>([],[(12,[(1,.lv 0 7),(4,.lv 0 7),(8,.lr),(9,.lv 0 15)])],[(0,[.vecc 7 5 1100 8])],[])
 |155=>([17],[],[],[])
 |160=>([],[(4,[(8,.lr),(13,.lr),(14,.cc)]),(6,[(9,.lr),(13,.lr)])],[],[])
 |161=>([],[(5,[(4,.lr),(8,.lr),(9,.cc)]),(11,[(9,.lr),(13,.lr)]),(17,[(4,.lr),(8,.lr),(9,.cc)]),(23,[(9,.lr),(13,.lr)]),(35,[(6,.lr),(10,.lr),(11,.cc)])],[],[])
 |163=>([],[(4,[(3,.lr),(7,.lr)])],[],[])
 |164=>([],[(4,[(4,.lr),(9,.lr)]),(7,[(4,.lr),(9,.lr)])],[],[])
 |165=>([],[(4,[(4,.lr),(9,.lr)]),(7,[(4,.lr),(9,.lr)])],[],[])
 |166=>([],[(4,[(3,.lr),(7,.lr)])],[],[])
 |167=>([],[(13,[(0,.lv 0 2),(2,.lv 0 3)]),(15,[(0,.lv 0 2),(2,.lv 0 3)])],[],[])
 |184=>([],[(4,[(5,.lr),(9,.lr)])],[],[])
 |186=>([],[(4,[(5,.lr),(9,.lr)])],[],[])
 |189=>([],[(4,[(5,.lr),(9,.lr)])],[],[])
 |192=>([],[(4,[(5,.lr),(9,.lr)])],[],[])
 |203=>([],[(4,[(1,.lv 0 4),(5,.lv 0 4),(10,.lv 0 4),(12,.lv 0 4),(20,.lv 0 4),(22,.lv 0 1),(27,.lr)])],[],[])
 |205=>([],[(7,[(2,.lv 0 6),(5,.lv 0 6)])],[],[])
 |217=>([],[(3,[(0,.lv 0 1),(4,.lv 0 4)]),(5,[(0,.lv 0 1),(3,.lv 0 4)]),(7,[(0,.lv 0 1),(3,.lv 0 4)]),(8,[(6,.lv 0 7),(9,.lv 0 4)])],[],[])
 |218=>([],[(4,[(4,.cg)]),(6,[(4,.cg)]),(10,[(4,.cg)]),(11,[(4,.cg)])],[],[])
 |219=>([],[(3,[(1,.lv 0 1),(3,.lv 0 2),(4,.lv 0 3)]),(6,[(1,.lv 0 1),(3,.lv 0 2),(4,.lv 0 3)]),(10,[(1,.lv 0 1),(3,.lv 0 2),(4,.lv 0 3)]),(11,[(0,.lv 0 9),(1,.lv 0 7),(2,.lv 0 2),(3,.lv 0 3)])],[],[])
 |220=>([],[(2,[(1,.lv 0 2),(4,.sl),(5,.lv 0 3),(7,.ac),(9,.lv 0 2)])],[],[])
 |227=>([],[],[(1,[.vec 3 3 1])],[])
 |228=>([],[(1,[(3,.lo),(8,.lo)])],[],[])
 |229=>([2,3,5],[],[],[])
 |230=>([],[],[(1,[.vecc 12 3 1100 7])],[])
 |232=>([],[],[(0,[.vecc 5 5 1100 8])],[])
 |237=>([],[(10,[(0,.lv 0 4),(1,.lv 0 5),(2,.lv 0 6),(4,.lv 0 7),(6,.lr),(12,.lv 0 10)])],[],[])
 |239=>([1],[],[(1,[.vecc 6 4 1100 14])],[])
 |240=>([],[(2,[(0,.lv 0 4),(3,.lv 0 4),(5,.lv 0 5),(7,.lr),(8,.lv 0 6)])],[],[])
 |244=>([],[(4,[(8,.lr),(13,.lr),(14,.cc)]),(6,[(9,.lr),(13,.lr)])],[],[])
 |245=>([],[(5,[(4,.lr),(8,.lr),(9,.cc)]),(11,[(9,.lr),(13,.lr)]),(17,[(4,.lr),(8,.lr),(9,.cc)]),(23,[(9,.lr),(13,.lr)]),(35,[(6,.lr),(10,.lr),(11,.cc)])],[],[])
 |248=>([],[(10,[(1,.lv 0 2),(4,.lv 0 3)])],[],[])
 |251=>([],[(1,[(1,.lv 0 2),(3,.lv 0 3),(6,.lv 0 2),(8,.lv 0 3)])],[],[])
 |254=>([],[(1,[(1,.lv 0 2),(3,.lv 0 3),(6,.lv 0 2),(8,.lv 0 3)])],[],[])
 |256=>([],[(1,[(1,.lv 0 2),(3,.lv 0 3),(6,.lv 0 2),(8,.lv 0 3),(11,.lv 0 2),(13,.lv 0 3),(16,.lv 0 2),(18,.lv 0 3)])],[],[])
 |271=>([],[(1,[(1,.lv 0 3),(2,.cc),(5,.cc)])],[],[])
 |272=>([],[(1,[(1,.lv 0 3),(2,.cc),(5,.cc)])],[],[])
 |276=>([],[(1,[(2,.lv 0 4),(3,.mp),(8,.lv 0 9)])],[],[])
 |279=>([],[(3,[(0,.lv 0 1),(3,.lv 0 3)])],[],[])
 |280=>([],[(1,[(1,.cg)]),(5,[(2,.cg)]),(9,[(2,.cg)]),(25,[(5,.cg)]),(27,[(3,.cg)]),(30,[(2,.cg)]),(32,[(1,.lv 0 12),(4,.sl),(5,.lv 0 17),(7,.ac)]),(33,[(0,.lv 0 5),(1,.lv 0 6),(2,.lv 0 7),(7,.lv 0 8)])],[(32,[.pub 25 145])],[])
 |282=>([],[(1,[(1,.cg)]),(4,[(2,.cg)]),(13,[(1,.cg)]),(18,[(4,.cg)]),(21,[(2,.cg)])],[],[])
 |284=>([],[(7,[(5,.cg)]),(10,[(0,.lv 0 5),(1,.lv 0 6),(2,.lv 0 7),(3,.lv 0 10),(4,.lv 0 14),(7,.lv 0 8)]),(13,[(4,.cg)])],[],[])
 |285=>([],[(1,[(1,.cg)]),(4,[(3,.cg)]),(7,[(3,.lo),(4,.lv 0 7),(5,.lv 0 11),(11,.lv 0 13)]),(16,[(1,.cg)]),(19,[(0,.lv 0 5),(1,.lv 0 6),(2,.lv 0 7),(3,.lv 0 14),(4,.lv 0 13),(7,.lv 0 8)])],[],[])
 |286=>([],[(3,[(1,.lv 0 2),(5,.lo),(14,.lv 0 2)])],[],[])
 |287=>([],[(5,[(1,.lv 0 9),(4,.lv 0 3),(5,.lv 0 4),(7,.lv 0 9)]),(6,[(2,.lv 0 4)])],[(1,[.vec 7 7 4])],[])
 |288=>([],[(4,[(2,.bv)])],[],[])
 |289=>([],[(5,[(2,.lv 0 4),(3,.lv 0 3),(4,.lv 0 4),(5,.lv 0 9)])],[(1,[.vec 7 7 4])],[])
 |290=>([],[(1,[(1,.lv 0 4),(2,.lv 0 3),(3,.lv 0 4),(4,.lv 0 5)])],[],[])
 |291=>([],[(1,[(3,.sm)])],[],[])
 |297=>([],[],[(1,[.vecc 10 3 1100 7])],[])
 |298=>([],[],[(1,[.vecc 10 4 1100 14])],[])
 |306=>([],[(4,[(8,.lr),(13,.lr),(14,.cc)]),(6,[(9,.lr),(13,.lr)])],[],[])
 |307=>([],[(5,[(4,.lr),(8,.lr),(9,.cc)]),(11,[(9,.lr),(13,.lr)]),(17,[(4,.lr),(8,.lr),(9,.cc)]),(23,[(9,.lr),(13,.lr)]),(35,[(6,.lr),(10,.lr),(11,.cc)])],[],[])
 |311=>([],[(3,[(13,.lr),(19,.lr)])],[],[])
 |329=>([],[(4,[(4,.cg)]),(5,[(2,.cg)]),(8,[(3,.lo),(4,.lv 0 4),(5,.lv 0 8),(9,.lv 0 6)])],[],[])
 |330=>([],[(1,[(4,.lo),(9,.lo),(11,.lv 0 3),(13,.lv 0 3)])],[],[])
 |331=>([],[],[(1,[.vecc 9 5 1100 8])],[])
 |332=>([],[(2,[(0,.lv 0 1),(2,.lv 0 3)]),(3,[(1,.lv 0 1),(3,.lv 0 1),(5,.lv 0 1),(8,.lv 0 3)])],[],[])
 |334=>([],[(1,[(1,.cg)]),(8,[(2,.cg)]),(11,[(3,.cg)]),(14,[(1,.lv 0 12),(5,.lo)])],[],[])
 |335=>([],[(2,[(1,.lv 0 2),(4,.sl),(5,.lv 0 3),(7,.ac),(9,.lv 0 4)])],[],[])
 |336=>([],[(6,[(1,.cg)])],[],[])
 |337=>([],[(3,[(1,.lv 0 5),(2,.lv 0 4)])],[],[])
 |338=>([],[(3,[(0,.lv 0 1),(3,.lv 0 3)])],[],[])
 |339=>([],[(3,[(0,.lv 0 2),(3,.lv 0 5)]),(8,[(0,.lv 0 2),(2,.lv 0 5)]),(11,[(0,.lv 0 2),(2,.lv 0 5)]),(14,[(1,.lv 0 8),(4,.lv 0 8),(6,.lv 0 8),(8,.lv 0 5)])],[],[])
 |350=>([],[(3,[(13,.lr),(19,.lr)])],[],[])
 |355=>([],[(4,[(3,.ro (.xb true 373 (.t 16) (.t 18)))])],[],[])
 |361=>([],[(3,[(1,.lv 0 3),(3,.lv 0 3),(5,.lv 0 2),(7,.lv 0 2)])],[],[])
 |362=>([],[(2,[(0,.lv 0 2),(2,.lv 0 5)]),(4,[(0,.lv 0 2),(2,.lv 0 5)]),(6,[(0,.lv 0 2),(2,.lv 0 5)]),(8,[(0,.lv 0 2),(2,.lv 0 5)]),(9,[(0,.lv 0 2),(4,.lv 0 2),(8,.lv 0 5)])],[],[])
 |369=>([],[(1,[(2,.lv 0 4),(4,.lv 0 5),(6,.lr),(9,.lv 0 4),(11,.lv 0 6),(13,.lr),(16,.lv 0 10),(17,.lv 0 11)])],[],[])
 |370=>([],[(3,[(13,.lr),(19,.lr)])],[],[])
 |380=>([5,10],[],[],[])
 |381=>([],[(1,[(2,.ro (.xb false 385 (.t 5) (.t 6)))])],[],[])
 |_=>([],[],[],[])
def rk (k:Nat)(f:Func):RC:=cd (hs k).1 (hs k).2.1 (hs k).2.2.1 (hs k).2.2.2 (bo f.body)
def KM:Nat:=226503817846736087787258446266994625086768474765441137800473764454661292179076137846068253784215226800982620016459752
noncomputable def cx (k:Nat):Bool:=match prog.funcs[k]? with
 |some f=>f.body.isSome && !(f.name == "runtime.NumGoroutine")&&ZI prog f.ntmps (rk k f) (f.body.getD .skip)&&Wu prog f.results.toList (rs f)
 |none=>false
noncomputable def kq (a n:Nat):Bool:=(List.range' a n).all λk=>!bt KM k||cx k
def kq0:kq 0 80=true:=by decide +kernel
def Qiy:kq 80 80=true:=by decide +kernel
def Qhc:kq 160 80=true:=by decide +kernel
def Qhd:kq 240 80=true:=by decide +kernel
def Qhe:kq 320 67=true:=by decide +kernel
def kc {k:Nat}{f:Func}(hf:prog.funcs[k]? = some f)(hk:bt KM k=true)(hl:k<387):CK prog k f.ntmps (rk k f) (rs f):=by
 have h:(!bt KM k||cx k)=true:=by
  by_cases h0:k<80
  ·exact Qno.1 kq0 k (List.mem_range'_1.2 ⟨ψ,ψ⟩)
  by_cases bF:k<160
  ·exact Qno.1 Qiy k (List.mem_range'_1.2 ⟨ψ,ψ⟩)
  by_cases gm:k<240
  ·exact Qno.1 Qhc k (List.mem_range'_1.2 ⟨ψ,ψ⟩)
  by_cases mP:k<320
  ·exact Qno.1 Qhd k (List.mem_range'_1.2 ⟨ψ,ψ⟩)
  by_cases nq:k<387
  ·exact Qno.1 Qhe k (List.mem_range'_1.2 ⟨ψ,ψ⟩)
  omega
 rw[hk]at h;unfold cx at h;rw[hf]at h;exact ck hf rfl h
section
variable {k:Nat}{f:Func}{args:List AV}{m:Qk}(hf:prog.funcs[k]? = some f)
include hf
theorem wG {R:AV->Qk->Prop}(w:Q1 prog (rk k f) (St.enter args m) (Jk (rs f) m.length R))(hk:bt KM k=true:=by rfl)(hl:Nat.blt k 387=true:=by rfl)(ha:Nat.ble args.length f.ntmps=true:=by rfl):Qf prog k args m R:=(kc hf hk (QoG hl)).go (QoG ha) w
theorem wF {v:AV}(w:Q1 prog (rk k f) (St.enter args []) (Jk (rs f) 0 λx _=>x=v))(hk:bt KM k=true:=by rfl)(hl:Nat.blt k 387=true:=by rfl)(ha:Nat.ble args.length f.ntmps=true:=by rfl):Qi prog k args v:=(kc hf hk (QoG hl)).fn (QoG ha) w
end
noncomputable def ct (k:Nat):Option (RC×List RR×Nat):=bif bt KM k&&Nat.blt k 387 then prog.funcs[k]?.map λf=>(rk k f,rs f,f.ntmps)else none
def Qhf {k:Nat}{c:RC}{r:List RR}{n:Nat}(h:ct k=some (c,r,n)):CK prog k n c r:=by
 unfold ct at h;cases hb:(bt KM k&&Nat.blt k 387)with
 |false=>rw[hb]at h;cases h
 |true=>
  rw[hb,cond_true]at h;rw[Qnz]at hb;obtain⟨f,hf,e⟩:=Qnd.1 h;cases e;exact kc hf hb.1 (QoG hb.2)
set_option linter.defProp false
def eK:=(QoV (QoV (QoV (QoV (QoV (QoV eC (QoV @rk.eq_1 @hs.eq_1)) (QoV @hs.eq_2 (QoV @hs.eq_3 @hs.eq_4))) (QoV (QoV @hs.eq_5 (QoV @hs.eq_6 @hs.eq_7)) (QoV (QoV @hs.eq_8 @hs.eq_9) (QoV @hs.eq_10 @hs.eq_11)))) (QoV (QoV (QoV @hs.eq_12 (QoV @hs.eq_13 @hs.eq_14)) (QoV (QoV @hs.eq_15 @hs.eq_16) (QoV @hs.eq_17 @hs.eq_18))) (QoV (QoV @hs.eq_19 (QoV @hs.eq_20 @hs.eq_21)) (QoV (QoV @hs.eq_22 @hs.eq_23) (QoV @hs.eq_24 @hs.eq_25))))) (QoV (QoV (QoV (QoV @hs.eq_26 (QoV @hs.eq_27 @hs.eq_28)) (QoV @hs.eq_29 (QoV @hs.eq_30 @hs.eq_31))) (QoV (QoV @hs.eq_32 (QoV @hs.eq_33 @hs.eq_34)) (QoV (QoV @hs.eq_35 @hs.eq_36) (QoV @hs.eq_37 @hs.eq_38)))) (QoV (QoV (QoV @hs.eq_39 (QoV @hs.eq_40 @hs.eq_41)) (QoV (QoV @hs.eq_42 @hs.eq_43) (QoV @hs.eq_44 @hs.eq_45))) (QoV (QoV @hs.eq_46 (QoV @hs.eq_47 @hs.eq_48)) (QoV (QoV @hs.eq_49 @hs.eq_50) (QoV @hs.eq_51 @hs.eq_52)))))) (QoV (QoV (QoV (QoV (QoV @hs.eq_53 (QoV @hs.eq_54 @hs.eq_55)) (QoV @hs.eq_56 (QoV @hs.eq_57 @hs.eq_58))) (QoV (QoV @hs.eq_59 (QoV @hs.eq_60 @hs.eq_61)) (QoV (QoV @hs.eq_62 @hs.eq_63) (QoV @hs.eq_64 @hs.eq_65)))) (QoV (QoV (QoV @hs.eq_66 (QoV @hs.eq_67 @hs.eq_68)) (QoV (QoV @hs.eq_69 @hs.eq_70) (QoV @hs.eq_71 @hs.eq_72))) (QoV (QoV @hs.eq_73 (QoV @hs.eq_74 @hs.eq_75)) (QoV (QoV @hs.eq_76 @hs.eq_77) (QoV @hs.eq_78 @hs.eq_79))))) (QoV (QoV (QoV (QoV @hs.eq_80 (QoV @hs.eq_81 @hs.eq_82)) (QoV (QoV @hs.eq_83 @hs.eq_84) (QoV @hs.eq_85 @hs.eq_86))) (QoV (QoV @hs.eq_87 (QoV @hs.eq_88 @hs.eq_89)) (QoV (QoV @hs.eq_90 @hs.eq_91) (QoV @hs.eq_92 @hs.eq_93)))) (QoV (QoV (QoV @hs.eq_94 (QoV @hs.eq_95 @hs.eq_96)) (QoV (QoV @hs.eq_97 @hs.eq_98) (QoV @hs.eq_99 @hs.eq_100))) (QoV (QoV @hs.eq_101 (QoV @hs.eq_102 @hs.eq_103)) (QoV (QoV @hs.eq_104 @hs.eq_105) (QoV @hs.eq_106 @hs.eq_107)))))))
def Kq:RC->List RC
 |.seq a b=>Kq a++Kq b
 |.cond _ a b=>Kq a++Kq b
 |.block _ a=>Kq a
 |.loop a=>a :: Kq a
 |.scope a=>Kq a
 |.gho _ a=>Kq a
 |.jump _ a b=>Kq a++Kq b
 |.skip=>[]
 |.reg _=>[]
 |.draw _=>[]
 |.exit _=>[]
 |.lab=>[]
 |.ret=>[]
 |.no=>[]
 |.goto _=>[]
def E9:Nat->List RC->RC
 |0,x :: _=>x
 |i+1,_ :: l=>E9 i l
 |_,[]=>.no
def lp (k i:Nat)(f:Func):RC:=E9 i (Kq (rk k f))
def eL:=(QoV (QoV (QoV (QoV @lp.eq_1 @Kq.eq_1) (QoV @Kq.eq_2 @Kq.eq_3)) (QoV (QoV @Kq.eq_4 @Kq.eq_5) (QoV @Kq.eq_6 (QoV @Kq.eq_7 @Kq.eq_8)))) (QoV (QoV (QoV @Kq.eq_9 @Kq.eq_10) (QoV @Kq.eq_11 (QoV @Kq.eq_12 @Kq.eq_13))) (QoV (QoV @Kq.eq_14 @Kq.eq_15) (QoV @E9.eq_1 (QoV @E9.eq_2 @E9.eq_3)))))
end Rc
namespace Rc
open Go Am Cg
abbrev ja (a b:Nat):Am.Item:=⟨some a,.val (.mov (.t b)),none⟩
abbrev jb (a b c:Nat):Am.Item:=⟨some a,.val (.mov (.t b)),some (c,true)⟩
abbrev jc (a b c:Nat):Am.Item:=⟨some a,.val (.pick (.t b) (.t c) (.c (.bool false))),none⟩
abbrev jd (a:Nat)(b:Int):Am.Item:=⟨some a,.val (.mov (.c (.int .i64 b))),none⟩
abbrev je (a b c:Nat):Am.Item:=⟨some a,.val (.pick (.t b) (.c (.bool true)) (.t c)),none⟩
abbrev jf (a b c d:Nat):Am.Item:=⟨some a,.val (.faddr b (.t c)),some (d,true)⟩
abbrev jg (a b c d:Nat):Am.Item:=⟨some a,.val (.faddr b (.t c)),some (d,false)⟩
abbrev jh (a b c:Nat):Am.Item:=⟨some a,.val (.load none (.t b)),some (c,false)⟩
abbrev ji (a b c:Nat):Am.Item:=⟨some a,.val (.mov (.t b)),some (c,false)⟩
abbrev jj (a b:Nat)(c:Int)(d:Nat):Am.Item:=⟨some a,.val (.bin .num .add (.t b) (.c (.int .i64 c))),some (d,true)⟩
abbrev jk (a b c:Nat):Am.Item:=⟨some a,.val (.load none (.t b)),some (c,true)⟩
abbrev jl (a b c:Nat):Am.Item:=⟨some a,.val (.faddr b (.t c)),none⟩
abbrev jm (a b:Nat):Am.Item:=⟨some a,.val (.load none (.t b)),none⟩
abbrev jn (a:Nat):Am.Item:=⟨some a,.val (.mov (.c (.nils))),none⟩
abbrev jo (a b:Nat)(c:Int)(d:Nat):Am.Item:=⟨some a,.val (.bin .num .gtr (.t b) (.c (.int .i64 c))),some (d,false)⟩
abbrev jp (a b:Nat)(c:Int):Am.Item:=⟨some a,.val (.bin .num .add (.t b) (.c (.int .i64 c))),none⟩
abbrev jq (a b c d:Nat)(e:Int)(f:Nat):Am.Item:=⟨some a,.call (.f b) [(.t c),(.t d),(.c (.int .i64 e))],some (f,true)⟩
abbrev jr (a b c d:Nat):Am.Item:=⟨some a,.call (.f b) [(.t c),(.t d)],none⟩
abbrev js (a b:Nat)(c:Int):Am.Item:=⟨some a,.val (.bin .num .eql (.t b) (.c (.int .i64 c))),none⟩
abbrev jt (a b c:Nat):Am.Item:=⟨some a,.boxN b (.t c),none⟩
abbrev ju (a b c:Nat):Am.Item:=⟨some a,.val (.len b (.t c)),none⟩
abbrev jv (a:Nat):Am.Item:=⟨some a,.val (.mov (.c (.bool false))),none⟩
abbrev jQ (g:List Am.Item)(c:RC):RC:=.seq (.reg g) c
abbrev jX (a b:Nat):RC:=.cond (.t a) .skip (.exit b)
abbrev IL:=List Am.Item
abbrev CT (k n:Nat)(r:RC)(o:List RR):Prop:=CK prog k n r o
def An:IL:=[jn 2]
def Ao:IL:=[ja 3 0,⟨some 4,.isnil false (.t 3),none⟩]
def Ap:IL:=[jn 2]
def Aq:IL:=[⟨some 5,.bsl0 5 4,none⟩,ja 6 0,⟨some 7,.app 4 40 57 (.t 5) (.t 6),none⟩,ja 2 7]
def r51:RC:=jQ An (.seq (jQ Ao (.cond (.t 4) (jQ Ap (.gho (.vec 2 2 4) (.gho (.give 2 2 1 1000) (.ret)))) (.skip))) (jQ Aq (.gho (.give 2 5 1 1000) (.ret))))
def SA:List RR:=[.tmp 2]
def k51:CT 51 8 r51 SA:=ck func51 ntmps51 (by decide +kernel)
def QbT:IL:=[jt 3 3 0,jt 4 4 1,jt 5 5 2,jd 6 0]
def QbU:IL:=[jl 11 1 5,jm 12 11,⟨some 13,.val (.bin .num .leq (.t 12) (.c (.int .i64 2))),none⟩,ja 7 13]
def QbV:IL:=[⟨some 15,.val (.load (some 3) (.t 4)),none⟩,jl 16 0 5,jm 17 16,jr 18 53 15 17,ja 14 18,⟨some 19,.val (.ext (.t 14) 0),none⟩,⟨some 20,.val (.ext (.t 14) 1),none⟩,⟨some 8,.allocN 8 [.int .i64 0,.str [],.str [],.int .i64 0,.int .i64 0,.int .i64 0,.int .i64 0,.int .i64 0],none⟩,⟨none,.store 8 (.t 8) (.t 19),none⟩,ja 9 20]
def Gt:IL:=[jl 21 5 8,jm 22 21,js 23 22 9,ja 24 23,jf 25 3 8 24,jk 26 25 24,⟨some 27,.val (.bin .num .neq (.t 26) (.c (.int .i64 5))),(some (24,true))⟩,jc 28 24 27,ja 29 28,jf 30 1 5 29,jk 31 30 29,⟨some 32,.val (.bin .num .eql (.t 31) (.c (.int .i64 0))),(some (29,true))⟩,jc 33 29 32,ja 34 33,jf 35 2 5 34,jk 36 35 34,⟨some 37,.val (.bin .num .leq (.t 36) (.c (.int .u64 2147483647))),(some (34,true))⟩,jc 38 34 37,ja 39 38,jf 40 0 3 39,⟨some 41,.val (.load (some 2) (.t 40)),(some (39,true))⟩,jf 42 6 8 39,jk 43 42 39,jf 44 2 5 39,jk 45 44 39,⟨some 46,.call (.f 148) [(.t 41),(.t 43),(.t 45)],(some (39,true))⟩,⟨some 47,.val (.un .not (.t 46)),(some (39,true))⟩,jc 48 39 47,ja 10 48]
def QbW:IL:=[jl 50 0 5,jm 51 50,⟨some 52,.val (.bin .num .lss (.t 51) (.c (.int .i64 1))),none⟩,ja 53 52,jg 54 0 5 53,jh 55 54 53,jo 56 55 65535 53,je 57 53 56,ja 58 57,jg 59 1 5 58,jh 60 59 58,⟨some 61,.val (.bin .num .lss (.t 60) (.c (.int .i64 0))),(some (58,false))⟩,je 62 58 61,ja 63 62,jg 64 1 5 63,jh 65 64 63,jo 66 65 6 63,je 67 63 66,ja 49 67]
def Nv:IL:=[jd 6 1]
def QbX:IL:=[ja 69 7,ja 70 69,jf 71 3 5 70,jk 72 71 70,⟨some 73,.val (.bin .str .neq (.t 72) (.c (.str []))),(some (70,true))⟩,jc 74 70 73,ja 75 74,ji 76 7 75,⟨some 77,.val (.un .not (.t 76)),(some (75,false))⟩,ji 78 77 75,jf 79 2 5 78,jk 80 79 78,⟨some 81,.val (.bin .num .neq (.t 80) (.c (.int .u64 0))),(some (78,true))⟩,⟨some 82,.val (.pick (.t 78) (.t 81) (.c (.bool false))),(some (75,false))⟩,je 83 75 82,ja 84 83,ji 85 9 84,ji 86 85 84,jb 87 10 86,⟨some 88,.val (.un .not (.t 87)),(some (86,true))⟩,⟨some 89,.val (.pick (.t 86) (.t 88) (.c (.bool false))),(some (84,false))⟩,je 90 84 89,ja 68 90]
def Nw:IL:=[jd 6 1]
def Ar:IL:=[jl 92 1 5,jm 93 92,js 94 93 3,ja 95 94,jf 96 3 5 95,jk 97 96 95,⟨some 98,.val (.len 0 (.t 97)),(some (95,true))⟩,⟨some 99,.val (.bin .num .gtr (.t 98) (.c (.int .i64 4096))),(some (95,true))⟩,jc 100 95 99,ja 101 100,jg 102 3 5 101,jh 103 102 101,⟨some 104,.val (.len 0 (.t 103)),(some (101,false))⟩,jo 105 104 65536 101,je 106 101 105,ja 91 106]
def Au:IL:=[jd 6 3]
def MO:IL:=[jd 6 0]
def r93:RC:=jQ QbT (jQ QbU (jQ QbV (jQ Gt (.seq (.block 0 (jQ QbW (.cond (.t 49) (jQ Nv (.ret)) (jQ QbX (.cond (.t 68) (jQ Nw (.ret)) (jQ Ar (.cond (.t 91) (jQ Au (.ret)) (.skip)))))))) (jQ MO (.ret))))))
def o93:List RR:=[.tmp 6]
def k93:CT 93 107 r93 o93:=ck func93 ntmps93 (by decide +kernel)
def C4:IL:=[jn 2]
def C5:IL:=[ja 3 0,⟨some 4,.isnil false (.t 3),none⟩]
def Av:IL:=[jn 2]
def C6:IL:=[⟨some 5,.bsl0 5 8,none⟩,ja 6 0,⟨some 7,.app 8 136 50 (.t 5) (.t 6),none⟩,ja 2 7]
def Ia:RC:=jQ C4 (.seq (jQ C5 (.cond (.t 4) (jQ Av (.gho (.vec 2 2 8) (.gho (.give 2 2 1 1000) (.ret)))) (.skip))) (jQ C6 (.gho (.give 2 5 1 1000) (.ret))))
def MP:List RR:=[.tmp 2]
def k95:CT 95 8 Ia MP:=ck func95 ntmps95 (by decide +kernel)
def MQ:IL:=[jn 2]
def MS:IL:=[ja 3 0,⟨some 4,.isnil false (.t 3),none⟩]
def MT:IL:=[jn 2]
def MU:IL:=[⟨some 5,.bsl0 5 7,none⟩,ja 6 0,⟨some 7,.app 7 128 32 (.t 5) (.t 6),none⟩,ja 2 7]
def Aw:RC:=jQ MQ (.seq (jQ MS (.cond (.t 4) (jQ MT (.gho (.vec 2 2 7) (.gho (.give 2 2 1 1000) (.ret)))) (.skip))) (jQ MU (.gho (.give 2 5 1 1000) (.ret))))
def Vt:List RR:=[.tmp 2]
def Qat:CT 149 8 Aw Vt:=ck func149 ntmps149 (by decide +kernel)
def Ib:IL:=[jn 2]
def Ic:IL:=[ja 3 0,⟨some 4,.isnil false (.t 3),none⟩]
def Ie:IL:=[jn 2]
def Ig:IL:=[⟨some 5,.bsl0 5 14,none⟩,ja 6 0,⟨some 7,.app 14 256 68 (.t 5) (.t 6),none⟩,ja 2 7]
def Qau:RC:=jQ Ib (.seq (jQ Ic (.cond (.t 4) (jQ Ie (.gho (.vec 2 2 14) (.gho (.give 2 2 1 1000) (.ret)))) (.skip))) (jQ Ig (.gho (.give 2 5 1 1000) (.ret))))
def Ax:List RR:=[.tmp 2]
def Qfc:CT 152 8 Qau Ax:=ck func152 ntmps152 (by decide +kernel)
def Ih:IL:=[jd 4 0]
def Ii:IL:=[ja 14 1,ju 15 0 14,ja 5 15]
def Ij:IL:=[ja 17 5,js 18 17 0,ja 19 18,ji 20 1 19,ji 21 0 19,⟨some 22,.val (.bin .str .eql (.t 20) (.t 21)),(some (19,false))⟩,je 23 19 22,ja 16 23]
def Ik:IL:=[jd 4 0]
def Il:IL:=[ja 25 5,js 26 25 1,ja 24 26]
def Im:IL:=[ja 27 0,ja 28 1,⟨some 29,.val (.idx (.t 28) (.c (.int .i64 0))),none⟩,jr 30 381 27 29,ja 4 30]
def Io:IL:=[ja 32 5,ja 33 0,ju 34 0 33,⟨some 35,.val (.bin .num .geq (.t 32) (.t 34)),none⟩,ja 31 35]
def Ip:IL:=[jd 4 (-1)]
def Iq:IL:=[ja 45 0,ja 46 1,jr 47 382 45 46,ja 4 47]
def Qdt:IL:=[ja 48 1,⟨some 49,.val (.idx (.t 48) (.c (.int .i64 0))),none⟩,ja 6 49]
def Qdu:IL:=[ja 50 1,⟨some 51,.val (.idx (.t 50) (.c (.int .i64 1))),none⟩,ja 7 51]
def Qdv:IL:=[jd 8 0]
def Qdw:IL:=[ja 52 0,ju 53 0 52,ja 54 5,⟨some 55,.val (.bin .num .sub (.t 53) (.t 54)),none⟩,jp 56 55 1,ja 9 56]
def Qdx:IL:=[jd 10 0]
def Qdy:IL:=[ja 57 8,ja 58 9,⟨some 59,.val (.bin .num .lss (.t 57) (.t 58)),none⟩]
def Qdz:IL:=[ja 60 0,ja 61 8,⟨some 62,.val (.idx (.t 60) (.t 61)),none⟩,ja 63 6,⟨some 64,.val (.bin .num .neq (.t 62) (.t 63)),none⟩]
def QdA:IL:=[ja 65 0,ja 66 8,jp 67 66 1,ja 68 9,⟨some 69,.val (.slc none (.t 65) (some (.t 67)) (some (.t 68)) none),none⟩,ja 70 6,jr 71 381 69 70,ja 11 71]
def QdB:IL:=[ja 72 11,⟨some 73,.val (.bin .num .lss (.t 72) (.c (.int .i64 0))),none⟩]
def QdC:IL:=[jd 4 (-1)]
def QdD:IL:=[ja 74 8,ja 75 11,jp 76 75 1,⟨some 77,.val (.bin .num .add (.t 74) (.t 76)),none⟩,ja 8 77]
def QdE:IL:=[ja 78 0,ja 79 8,jp 80 79 1,⟨some 81,.val (.idx (.t 78) (.t 80)),none⟩,ja 82 7,⟨some 83,.val (.bin .num .eql (.t 81) (.t 82)),none⟩,ja 84 83,jb 85 0 84,jb 86 8 84,jb 87 8 84,jb 88 5 84,⟨some 89,.val (.bin .num .add (.t 87) (.t 88)),(some (84,true))⟩,⟨some 90,.val (.slc none (.t 85) (some (.t 86)) (some (.t 89)) none),(some (84,true))⟩,jb 91 1 84,⟨some 92,.val (.bin .str .eql (.t 90) (.t 91)),(some (84,true))⟩,jc 93 84 92]
def QdF:IL:=[ja 94 8,ja 4 94]
def QdG:IL:=[ja 95 8,jp 96 95 1,ja 8 96]
def QdH:IL:=[ja 97 10,jp 98 97 1,ja 10 98]
def QdI:IL:=[ja 108 0,ja 109 8,⟨some 110,.val (.slc none (.t 108) (some (.t 109)) none none),none⟩,ja 111 1,jr 112 382 110 111,ja 12 112]
def QdJ:IL:=[ja 113 12,⟨some 114,.val (.bin .num .geq (.t 113) (.c (.int .i64 0))),none⟩]
def QdK:IL:=[ja 115 12,ja 116 8,⟨some 117,.val (.bin .num .add (.t 115) (.t 116)),none⟩,ja 4 117]
def QdL:IL:=[jd 4 (-1)]
def QdM:IL:=[ja 133 0,ja 134 8,⟨some 135,.val (.slc none (.t 133) (some (.t 134)) none none),none⟩,ja 136 1,jr 137 384 135 136,ja 13 137]
def QdN:IL:=[ja 138 13,⟨some 139,.val (.bin .num .lss (.t 138) (.c (.int .i64 0))),none⟩]
def QdO:IL:=[jd 4 (-1)]
def QdP:IL:=[ja 140 8,ja 141 13,⟨some 142,.val (.bin .num .add (.t 140) (.t 141)),none⟩,ja 4 142]
def Qfd:RC:=.seq (jQ Qdy (jX 59 1)) (.block 2 (.seq (jQ Qdz (.cond (.t 64) (jQ QdA (.seq (jQ QdB (.cond (.t 73) (jQ QdC (.ret)) (.skip))) (.reg QdD))) (.skip))) (.seq (jQ QdE (.cond (.t 93) (jQ QdF (.ret)) (.skip))) (jQ QdG (jQ QdH (.seq (.no) (.cond (.t 107) (jQ QdI (.seq (jQ QdJ (.cond (.t 114) (jQ QdK (.ret)) (.skip))) (jQ QdL (.ret)))) (.seq (.no) (.cond (.t 132) (jQ QdM (.seq (jQ QdN (.cond (.t 139) (jQ QdO (.ret)) (.skip))) (jQ QdP (.ret)))) (.skip))))))))))
def QdQ:IL:=[jd 4 (-1)]
def Ay:RC:=jQ Ih (jQ Ii (.seq (.block 0 (jQ Ij (.cond (.t 16) (jQ Ik (.ret)) (jQ Il (.cond (.t 24) (jQ Im (.ret)) (jQ Io (.cond (.t 31) (jQ Ip (.ret)) (.seq (.no) (.cond (.t 36) (jQ Iq (.ret)) (.skip)))))))))) (jQ Qdt (jQ Qdu (jQ Qdv (jQ Qdw (jQ Qdx (.seq (.block 1 (.loop Qfd)) (jQ QdQ (.ret))))))))))
def Qav:List RR:=[.tmp 4]
def Qfe:CT 374 143 Ay Qav:=ck func374 ntmps374 (by decide +kernel)
def QbZ:IL:=[jt 2 2 0,jt 3 3 1,jv 4]
def Qb0:IL:=[jl 6 2 3,jm 7 6,⟨some 8,.call (.f 118) [(.t 7)],none⟩,⟨some 9,.val (.un .not (.t 8)),none⟩,ja 10 9,jg 11 2 3 10,jh 12 11 10,⟨some 13,.val (.len 0 (.t 12)),(some (10,false))⟩,jo 14 13 4096 10,je 15 10 14,ja 16 15,jg 17 3 3 16,jh 18 17 16,⟨some 19,.val (.bin .num .lss (.t 18) (.c (.int .i64 1))),(some (16,false))⟩,je 20 16 19,ja 21 20,jg 22 3 3 21,jh 23 22 21,jo 24 23 5 21,je 25 21 24,ja 26 25,jg 27 5 3 26,jh 28 27 26,⟨some 29,.val (.bin .num .lss (.t 28) (.c (.int .i64 1))),(some (26,false))⟩,je 30 26 29,ja 31 30,jg 32 5 3 31,jh 33 32 31,jo 34 33 10 31,je 35 31 34]
def Qb1:IL:=[jv 4]
def Qb2:IL:=[jl 36 4 3,jm 37 36,⟨some 38,.val (.bin .num .geq (.t 37) (.c (.int .i64 1))),none⟩,ja 39 38,jf 40 4 3 39,jk 41 40 39,⟨some 42,.val (.bin .num .leq (.t 41) (.c (.int .i64 5))),(some (39,true))⟩,jc 43 39 42,ja 44 43,jg 45 4 3 44,jh 46 45 44,⟨some 47,.val (.bin .num .eql (.t 46) (.c (.int .i64 7))),(some (44,false))⟩,je 48 44 47,ja 5 48]
def Qb3:IL:=[jl 49 3 3,jm 50 49,⟨some 51,.val (.bin .num .neq (.t 50) (.c (.int .i64 5))),none⟩]
def Qb4:IL:=[jl 52 4 3,jm 53 52,js 54 53 0,ja 5 54]
def Az:IL:=[ja 55 5,ja 56 55,⟨some 57,.val (.load (some 2) (.t 2)),(some (56,true))⟩,⟨some 58,.val (.load (some 8) (.t 3)),(some (56,true))⟩,⟨some 59,.call (.f 119) [(.t 57),(.t 58)],(some (56,true))⟩,jc 60 56 59,ja 61 60,jf 62 7 3 61,jk 63 62 61,⟨some 64,.val (.bin .num .eql (.t 63) (.c (.int .i64 (-1)))),(some (61,true))⟩,jb 65 64 61,jg 66 3 3 65,jh 67 66 65,⟨some 68,.val (.bin .num .eql (.t 67) (.c (.int .i64 2))),(some (65,false))⟩,⟨some 69,.val (.pick (.t 65) (.c (.bool true)) (.t 68)),(some (61,true))⟩,jc 70 61 69,ja 4 70]
def r75:RC:=jQ QbZ (.seq (jQ Qb0 (.cond (.t 35) (jQ Qb1 (.ret)) (.skip))) (jQ Qb2 (.seq (jQ Qb3 (.cond (.t 51) (.reg Qb4) (.skip))) (jQ Az (.ret)))))
def o75:List RR:=[.tmp 4]
def k75:CT 75 71 r75 o75:=ck func75 ntmps75 (by decide +kernel)
abbrev Qff:IL:=[jv 2]
abbrev Qfg:IL:=[ja 4 0,ju 5 0 4,js 6 5 0,ja 7 6,ji 8 0 7,⟨some 9,.val (.len 0 (.t 8)),(some (7,false))⟩,jo 10 9 40 7,je 11 7 10,ja 12 11,ji 13 0 12,⟨some 14,.val (.idx (.t 13) (.c (.int .i64 0))),(some (12,false))⟩,⟨some 15,.call (.f 168) [(.t 14)],(some (12,false))⟩,⟨some 16,.val (.un .not (.t 15)),(some (12,false))⟩,ji 17 16 12,jb 18 0 17,⟨some 19,.val (.idx (.t 18) (.c (.int .i64 0))),(some (17,true))⟩,⟨some 20,.call (.f 169) [(.t 19)],(some (17,true))⟩,⟨some 21,.val (.un .not (.t 20)),(some (17,true))⟩,⟨some 22,.val (.pick (.t 17) (.t 21) (.c (.bool false))),(some (12,false))⟩,je 23 12 22]
abbrev Qfh:IL:=[jv 2]
abbrev Qfi:IL:=[jd 3 1]
abbrev Qfj:IL:=[ja 24 3,ja 25 0,ju 26 0 25,⟨some 27,.val (.bin .num .lss (.t 24) (.t 26)),none⟩]
abbrev Qfk:IL:=[ja 30 0,ja 31 3,⟨some 32,.val (.idx (.t 30) (.t 31)),none⟩,⟨some 33,.call (.f 168) [(.t 32)],none⟩,⟨some 34,.val (.un .not (.t 33)),none⟩,ja 35 34,jb 36 0 35,jb 37 3 35,⟨some 38,.val (.idx (.t 36) (.t 37)),(some (35,true))⟩,⟨some 39,.call (.f 169) [(.t 38)],(some (35,true))⟩,⟨some 40,.val (.un .not (.t 39)),(some (35,true))⟩,jc 41 35 40,ja 42 41,jb 43 0 42,jb 44 3 42,⟨some 45,.val (.idx (.t 43) (.t 44)),(some (42,true))⟩,⟨some 46,.val (.bin .num .neq (.t 45) (.c (.int .u8 95))),(some (42,true))⟩,jc 47 42 46,ja 48 47,jb 49 0 48,jb 50 3 48,⟨some 51,.val (.idx (.t 49) (.t 50)),(some (48,true))⟩,⟨some 52,.val (.bin .num .lss (.t 51) (.c (.int .u8 48))),(some (48,true))⟩,jb 53 52 48,ji 54 0 53,ji 55 3 53,⟨some 56,.val (.idx (.t 54) (.t 55)),(some (53,false))⟩,⟨some 57,.val (.bin .num .gtr (.t 56) (.c (.int .u8 57))),(some (53,false))⟩,⟨some 58,.val (.pick (.t 53) (.c (.bool true)) (.t 57)),(some (48,true))⟩,jc 59 48 58]
abbrev Qfl:IL:=[jv 2]
abbrev Qfm:IL:=[ja 28 3,jp 29 28 1,ja 3 29]
abbrev Ir:RC:=.seq (jQ Qfj (jX 27 0)) (.seq (.block 1 (jQ Qfk (.cond (.t 59) (jQ Qfl (.ret)) (.skip)))) (.reg Qfm))
abbrev Qfn:IL:=[⟨some 2,.val (.mov (.c (.bool true))),none⟩]
abbrev Qiz:RC:=jQ Qff (.seq (jQ Qfg (.cond (.t 23) (jQ Qfh (.ret)) (.skip))) (.seq (jQ Qfi (.block 0 (.loop Ir))) (jQ Qfn (.ret))))
abbrev QiA:List RR:=[.tmp 2]
def QiB:CT 114 60 Qiz QiA:=ck func114 ntmps114 (by decide +kernel)
def Is:IL:=[jd 4 0]
def It:IL:=[ja 6 0,ja 7 1,⟨some 8,.val (.idx (.t 6) (.t 7)),none⟩,ja 5 8]
def Iu:IL:=[ja 10 5,⟨some 11,.val (.bin .num .lss (.t 10) (.c (.int .u8 128))),none⟩,ja 9 11]
def Iv:IL:=[jd 4 1]
def MV:IL:=[ja 13 5,⟨some 14,.val (.bin .num .geq (.t 13) (.c (.int .u8 194))),none⟩,ja 15 14,jb 16 5 15,⟨some 17,.val (.bin .num .leq (.t 16) (.c (.int .u8 223))),(some (15,true))⟩,jc 18 15 17,ja 19 18,jb 20 0 19,jb 21 1 19,jj 22 21 1 19,jq 23 313 20 22 1 19,jc 24 19 23,ja 12 24]
def Iw:IL:=[jd 4 2]
def MX:IL:=[ja 26 5,⟨some 27,.val (.bin .num .eql (.t 26) (.c (.int .u8 224))),none⟩,ja 28 27,jb 29 0 28,jb 30 1 28,jj 31 30 1 28,⟨some 32,.call (.f 314) [(.t 29),(.t 31),(.c (.int .u8 160)),(.c (.int .u8 191))],(some (28,true))⟩,jc 33 28 32,ja 34 33,jb 35 0 34,jb 36 1 34,jj 37 36 2 34,jq 38 313 35 37 1 34,jc 39 34 38,ja 25 39]
def Iy:IL:=[jd 4 3]
def MY:IL:=[ja 41 5,⟨some 42,.val (.bin .num .eql (.t 41) (.c (.int .u8 237))),none⟩,ja 43 42,jb 44 0 43,jb 45 1 43,jj 46 45 1 43,⟨some 47,.call (.f 314) [(.t 44),(.t 46),(.c (.int .u8 128)),(.c (.int .u8 159))],(some (43,true))⟩,jc 48 43 47,ja 49 48,jb 50 0 49,jb 51 1 49,jj 52 51 2 49,jq 53 313 50 52 1 49,jc 54 49 53,ja 40 54]
def Iz:IL:=[jd 4 3]
def Vu:IL:=[ja 56 5,⟨some 57,.val (.bin .num .geq (.t 56) (.c (.int .u8 225))),none⟩,ja 58 57,jb 59 5 58,⟨some 60,.val (.bin .num .leq (.t 59) (.c (.int .u8 239))),(some (58,true))⟩,jc 61 58 60,ja 62 61,jb 63 5 62,⟨some 64,.val (.bin .num .neq (.t 63) (.c (.int .u8 237))),(some (62,true))⟩,jc 65 62 64,ja 66 65,jb 67 0 66,jb 68 1 66,jj 69 68 1 66,jq 70 313 67 69 2 66,jc 71 66 70,ja 55 71]
def SB:IL:=[jd 4 3]
def Vv:IL:=[ja 73 5,⟨some 74,.val (.bin .num .eql (.t 73) (.c (.int .u8 240))),none⟩,ja 75 74,jb 76 0 75,jb 77 1 75,jj 78 77 1 75,⟨some 79,.call (.f 314) [(.t 76),(.t 78),(.c (.int .u8 144)),(.c (.int .u8 191))],(some (75,true))⟩,jc 80 75 79,ja 81 80,jb 82 0 81,jb 83 1 81,jj 84 83 2 81,jq 85 313 82 84 2 81,jc 86 81 85,ja 72 86]
def SC:IL:=[jd 4 4]
def Vw:IL:=[ja 88 5,⟨some 89,.val (.bin .num .geq (.t 88) (.c (.int .u8 241))),none⟩,ja 90 89,jb 91 5 90,⟨some 92,.val (.bin .num .leq (.t 91) (.c (.int .u8 243))),(some (90,true))⟩,jc 93 90 92,ja 94 93,jb 95 0 94,jb 96 1 94,jj 97 96 1 94,jq 98 313 95 97 3 94,jc 99 94 98,ja 87 99]
def SD:IL:=[jd 4 4]
def Vx:IL:=[ja 101 5,⟨some 102,.val (.bin .num .eql (.t 101) (.c (.int .u8 244))),none⟩,ja 103 102,jb 104 0 103,jb 105 1 103,jj 106 105 1 103,⟨some 107,.call (.f 314) [(.t 104),(.t 106),(.c (.int .u8 128)),(.c (.int .u8 143))],(some (103,true))⟩,jc 108 103 107,ja 109 108,jb 110 0 109,jb 111 1 109,jj 112 111 2 109,jq 113 313 110 112 2 109,jc 114 109 113,ja 100 114]
def SE:IL:=[jd 4 4]
def SF:IL:=[jd 4 0]
def Qfo:RC:=jQ Is (jQ It (.seq (.block 0 (jQ Iu (.cond (.t 9) (jQ Iv (.ret)) (jQ MV (.cond (.t 12) (jQ Iw (.ret)) (jQ MX (.cond (.t 25) (jQ Iy (.ret)) (jQ MY (.cond (.t 40) (jQ Iz (.ret)) (jQ Vu (.cond (.t 55) (jQ SB (.ret)) (jQ Vv (.cond (.t 72) (jQ SC (.ret)) (jQ Vw (.cond (.t 87) (jQ SD (.ret)) (jQ Vx (.cond (.t 100) (jQ SE (.ret)) (.skip)))))))))))))))))) (jQ SF (.ret))))
def Qfp:List RR:=[.tmp 4]
def QiC:CT 262 115 Qfo Qfp:=ck func262 ntmps262 (by decide +kernel)
end Rc
namespace Bt
open Go
def Jl (n:Int):IntKind.u64.wrap n=n % 18446744073709551616:=þ
def wu8 (n:Int):IntKind.u8.wrap n=n % 256:=þ
def QD (n:Int):IntKind.i64.wrap n=(n+9223372036854775808) % 18446744073709551616-9223372036854775808:=IntKind.wrap_i64 n
def W3 {n:Nat}(h:n<18446744073709551616):(BitVec.ofInt 64 (n:Int)).toNat=n:=by
 simp;omega
def SG (a b:Nat)(ha:a<18446744073709551616)(hb:b<18446744073709551616):bits .xor .u64 (a:Int) (b:Int)=((a ^^^ b:Nat):Int):=by
 have hx:a ^^^ b<2 ^ 64:=Nat.xor_lt_two_pow ψ ψ;show IntKind.u64.wrap ((BitVec.ofInt 64 (a:Int) ^^^ BitVec.ofInt 64 (b:Int)).toNat:Int)=_;rw[BitVec.toNat_xor,W3 ha,W3 hb,Jl];omega
def HN (a b:Nat)(ha:a<18446744073709551616)(hb:b<18446744073709551616):bits .and .u64 (a:Int) (b:Int)=((a &&& b:Nat):Int):=by
 have hx:a &&& b<2 ^ 64:=Nat.and_lt_two_pow _ ψ;show IntKind.u64.wrap ((BitVec.ofInt 64 (a:Int) &&& BitVec.ofInt 64 (b:Int)).toNat:Int)=_;rw[BitVec.toNat_and,W3 ha,W3 hb,Jl];omega
def IA (a b:Nat)(ha:a<18446744073709551616)(hb:b<18446744073709551616):bits .or .u64 (a:Int) (b:Int)=((a ||| b:Nat):Int):=by
 have hx:a ||| b<2 ^ 64:=Nat.or_lt_two_pow ψ ψ
 show IntKind.u64.wrap ((BitVec.ofInt 64 (a:Int) ||| BitVec.ofInt 64 (b:Int)).toNat:Int)=_;rw[BitVec.toNat_or,W3 ha,W3 hb,Jl];omega
def Dw (a:Nat)(ha:a<18446744073709551616):a ^^^ 18446744073709551615=18446744073709551615-a:=by
 have h1:(BitVec.ofNat 64 a ^^^ BitVec.allOnes 64).toNat=a ^^^ 18446744073709551615:=by
  rw[BitVec.toNat_xor,BitVec.toNat_ofNat,BitVec.toNat_allOnes,Nat.mod_eq_of_lt ψ]
 rw[<-h1,BitVec.xor_allOnes,BitVec.toNat_not,BitVec.toNat_ofNat,Nat.mod_eq_of_lt ψ]
def MZ (a:Int)(h0:0<=a)(h1:a<18446744073709551616):bits .xor .u64 a 0=a:=by
 obtain⟨n,rfl⟩:=QoZ h0;have:=SG n 0 ψ ψ;rw[Nat.xor_zero]at this;exact this
def M0 (a:Int)(h0:0<=a)(h1:a<18446744073709551616):bits .xor .u64 a 18446744073709551615=18446744073709551615-a:=by
 obtain⟨n,rfl⟩:=QoZ h0;have:=SG n 18446744073709551615 ψ ψ;rw[Dw n ψ]at this;rw[show((18446744073709551615:Nat):Int)=18446744073709551615 from rfl]at this;rw[this];omega
def Se (a:Int)(h0:0<=a)(h1:a<18446744073709551616):bits .and .u64 a 1=a % 2:=by
 obtain⟨n,rfl⟩:=QoZ h0;have:=HN n 1 ψ ψ;rw[Nat.and_one_is_mod]at this;rw[show((1:Nat):Int)=1 from rfl]at this;rw[this];omega
def M1 (a:Int)(h0 : -9223372036854775808<=a)(h1:a<9223372036854775808):bits .xor .i64 a 0=a:=by
 show IntKind.i64.wrap ((BitVec.ofInt 64 a ^^^ BitVec.ofInt 64 0).toNat:Int)=_;rw[BitVec.toNat_xor,show(BitVec.ofInt 64 0).toNat=0 from rfl,Nat.xor_zero,BitVec.toNat_ofInt,QD];omega
def M2 (a:Int)(h0 : -9223372036854775808<=a)(h1:a<9223372036854775808):bits .xor .i64 a (-1) = -1-a:=by
 show IntKind.i64.wrap ((BitVec.ofInt 64 a ^^^ BitVec.ofInt 64 (-1)).toNat:Int)=_;rw[BitVec.toNat_xor,show(BitVec.ofInt 64 (-1)).toNat=18446744073709551615 from rfl,BitVec.toNat_ofInt,Dw _ ψ,QD];omega
end Bt
set_option linter.unusedSimpArgs false
namespace Va
open Go Am Rc Bt
def isk (k:Int):Bool:=decide (k>=1)&&decide (k<=9)
def Zz (k:Int):Bool:=k==7||k==8
def wk (k:Int):Int:=if k=1\/k=4\/k=5\/k=9 then 0 else if k=2\/k=3 then 1 else if k=6 then 2 else if k=7\/k=8 then 3 else if k=10 then 4 else -1
def Qaw (k:Int):Qi prog 108 [.int .i64 k] (.bool (isk k)):=by
 refine wF func108 ?_;simp only[eK,f108,seval];exact F_
def Vy (k:Int):Qi prog 158 [.int .i64 k] (.bool (isk k)):=by
 refine wF func158 ?_;simp only[eK,f158,seval];exact F_
def Vz (k:Int):Qi prog 260 [.int .i64 k] (.bool (Zz k)):=by
 refine wF func260 ?_;simp only[eK,f260,seval];exact ς
def Qfr (k:Int):Qi prog 257 [.int .i64 k] (.bool (Zz k)):=by
 refine wF func257 ?_;simp only[eK,f257,seval];exact ς
def oc (n:Int)(s a:List UInt8)(c k kd t u:Int):AV:=.agg [.int .i64 n,.str s,.str a,.int .i64 c,.int .i64 k,.int .i64 kd,.int .i64 t,.int .i64 u]
def pk (c kd:Int):Bool:=c==4&&((decide (kd>=1)&&decide (kd<=6))||kd==9)
def M3 (c kd:Int):Int:=if c=5 then 6 else if pk c kd=true then 5 else wk kd
section
variable (n:Int)(s a:List UInt8)(c k kd t u:Int)
theorem Qax:Qi prog 281 [oc n s a c k kd t u] (.bool (pk c kd)):=by
 refine wF func281 ?_;simp only[eK,f281,seval];simp only[oc,pk,eE,seval];cases h0:(c==4)<;>cases h1:decide (kd>=1)<;>cases h2:decide (kd<=6)<;>simp only[h1,h2,QoW,QoJ,Qo0,Qo1,eE,seval]
theorem Qfs:Qi prog 333 [oc n s a c k kd t u] (.int .i64 (M3 c kd)):=by
 have hP:=Qax n s a c k kd t u;simp only[oc]at hP;refine wF func333 ?_;simp only[eK,f333,seval];simp only[oc,eE,seval];by_cases hc:c=5
 ·have b0:(c==5)=true:=Ļ
  simp only[b0,M3,Qnj hc,Qa,seval]
 ·have b0:(c==5)=false:=Ļ
  simp only[b0,M3,Qni hc,eE,seval];refine aC hP ?_;cases pk c kd
  ·simp only[Qnu,eE,seval]
   repeat' (first|(refine Q4 (λh=>?_) (λh=>?_)<;>simp only[h,Qa,seval])|(refine Zb (λh=>?_) (λh=>?_)<;>simp only[h,Ql,eE,seval])|(refine Zc (λh=>?_) (λh=>?_)<;>simp only[h,Ql,eE,seval]))
   all_goals((try simp only[Qng,Qo2,ne_eq]at *)<;>unfold wk<;>(repeat' split)<;>first|rfl|(exfalso;omega))
  ·simp only[Qa,seval]
end
def Qv (i:Nat)(n:Nat)(h:i<n)(hn:n<=maxLen):IntKind.i64.wrap ((i:Int)+1)=((i+1:Nat):Int):=by
 simp only[maxLen]at hn;rw[QD];omega
def QE {i n:Nat}(h:i<n):decide ((i:Int)<(n:Int))=true:=Ϗ
def QM {i n:Nat}(h:¬i<n):decide ((i:Int)<(n:Int))=false:=Ϗ
def Qs (i:Nat):(0<=(i:Int))=True:=ό
end Va
namespace Br
open Go Am Go.RowKit Go.WideShapes Go.ChangeShapes Go.ChangeAt Go.Joins Go.Deep Go.WideElems Go.Maps
section
variable {H:Type}{dH:TypeId×Value->H}{P:Program}{W:World}{base:Nat}{sp:Nat->Bool}{held:Bool}
end
def FY {X α:Type}{f:X->List α}{sz:Nat}(aX:0<sz)(hf:∀x,(f x).length=sz):∀(xs:List X) (j:Nat),(xs.flatMap f)[j]? = (xs[j / sz]?).bind λx=>(f x)[j % sz]?
 | [],j=>ό
 |x :: xs,j=>by
  rw[QoH];by_cases hj:j<sz
  ·rw[QoD (by rw[hf];exact hj),Nat.div_eq_of_lt hj,Nat.mod_eq_of_lt hj];rfl
  ·obtain⟨i,rfl⟩:∃i,j=sz+i:=⟨j-sz,ψ⟩;rw[QoE (by rw[hf];omega),hf,FY aX hf xs,show sz+i-sz=i by omega,show(sz+i) / sz=i / sz+1 by rw[Nat.add_div_left _ aX],Nat.add_mod_left];rfl
section
variable {H:Type}{dH:TypeId×Value->H}{P:Program}{W:World}
structure El (dH:TypeId×Value->H)(P:Program)(e:TypeId)(sz:Nat)(X:Type) where
 av:X->AV
 vals:X->List Value
 Kv:X->DataW H
 ok:X->Prop
 pos:0<sz
 len:∀x,(vals x).length=sz
 cells:∀x,(av x).cells.length=sz
 rfl':∀x,AV.rfL (av x).cells=true
 leaf:∀x,(av x).cells.all AV.leaf=true
 rep:∀(G:Gh) x,RepL G (av x).cells (vals x)
 opened:∀ {W:World} {n:Nat} {cs:List Value} {d:DataW H} {pl:List MemPlace},cs.length=sz->DataW.trod dH P W 0 (λ_=>true) true n e cs=some (d,pl)->∃x,ok x/\cs=vals x/\d=Kv x/\pl=[]
 shut:∀(W:World) (sp:Nat->Bool) x,ok x->∃n,DataW.trod dH P W 0 sp true n e (vals x)=some (Kv x,[])
end
end Br
end Go.Proofs.YtmlohboeoeoamaaGreatDoor

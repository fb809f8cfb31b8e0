/- Parts of the proof, in order. -/
import Derived.Laws.MakeOwn
import Derived.Lib.UnsafeStr
import Derived.Laws.RangeString
import Derived.Lib.Bytealg
import Derived.Deep.LoopGhost
import Derived.Scope
import Derived.Orders
import Derived.ScopeJumps
import Derived.Defers
import Derived.Below
import Derived.ChangeSame
import Derived.ProofKit
import Derived.OpenShut
import Derived.ChangeArms
import Derived.Test.YtmlohboeoeoamaaGreatDoorProg
import Derived.WalkKit
import Derived.Lib.SmallJoins
import Derived.Deep.Slices
import Derived.DataShut
import Derived.Test.YtmlohboeoeoamaaGreatDoorMLensKeeps0

set_option linter.defProp false
namespace Go.Proofs.YtmlohboeoeoamaaGreatDoor.Am
open Go

def ZS (sz:Nat)(z:List AV):AV:=if sz=1 then z.headD .top else .agg z

theorem Fo {sz:Nat}{z:List AV}(hz:z.length=sz)(hl:z.all AV.leaf=true):(ZS sz z).cells=z:=by
 unfold ZS;split
 ·rename_i h;subst h
  match z,hz with
  | [x],_=>
   show x.cells=[x];exact AV.leaf_cells kD
 ·rfl

theorem JQ {sz:Nat}{z:List AV}(hz:z.length=sz)(hl:z.all AV.leaf=true):∀(n:Nat),QP (List.replicate n (ZS sz z))=(List.replicate n z).flatten
 |0=>rfl
 |n+1=>by
  rw[List.replicate_succ,Ze,Fo hz hl,JQ hz hl n];rfl

theorem HP {z:List AV}(hz:z.length≠0):∀(n j:Nat),j<n*z.length→(List.replicate n z).flatten[j]? = z[j % z.length]?
 |0,j,h=>xw
 |n+1,j,h=>by
  rw[List.replicate_succ,List.flatten_cons];by_cases hj:j<z.length
  ·rw[QmQ hj,Nat.mod_eq_of_lt hj]
  ·rw[QmR xw,HP hz n (j-z.length) (by rw[Nat.succ_mul]at h;omega)];rw[←Nat.mod_eq_sub_mod xw]

theorem Yf {sz:Nat}{z:List AV}(hz:z.length=sz)(hf:AV.rfL z=true)(hl:z.all AV.leaf=true)(n:Nat):Elems sz (List.replicate n (ZS sz z)):=by
 refine⟨fun x hx=>?_,?_,?_⟩
 ·rw[(List.mem_replicate.1 hx).2,Fo hz hl,hz]
 ·rw[JQ hz hl];rw[P0]at hf ⊢;rw[QlB]at hf ⊢;intro x hx;obtain⟨l,h1,h2⟩:=List.mem_flatten.1 hx;rw[(List.mem_replicate.1 h1).2]at h2;exact hf x h2
 ·rw[JQ hz hl];rw[QlB]at hl ⊢;intro x hx;obtain⟨l,h1,h2⟩:=List.mem_flatten.1 hx;rw[(List.mem_replicate.1 h1).2]at h2;exact hl x h2

section
variable {P:Program}{N:Nat}{st:St}{Q:St→Prop}

theorem Ih {G:Gh}{z:List AV}{zs:Array Value}{sz:Nat}(rz:RepL G z zs.toList)(hz:z.length=sz)(h0:sz≠0)(hlf:z.all AV.leaf=true)(n:Nat):RepL G (QP (List.replicate n (ZS sz z))) (Builtin.zeroCells zs n).toList:=by
 have hzl:zs.size=sz:=by
  have:=rz.length;simp only[QlU]at this;omega
 rw[JQ hz hlf];have hfl:((List.replicate n z).flatten).length=n*sz:=by simp[hz]
 refine RepL.of_all (by rw[hfl,QlU,size_zeroCells,hzl]) fun j u v hju hjv=>?_
 have hj:j<n*sz:=by
  rw[←hfl];exact(Qlm.1 hju).1
 rw[HP (by rw[hz];exact h0) n j (by rw[hz];exact hj),hz]at hju;obtain⟨v',hv',hrep⟩:=rz.at_ hju;have:v=v':=by
  simp only[Builtin.zeroCells,Array.toList_map,Array.toList_range,QmN]at hjv;rw[List.getElem?_range (by rw[hzl];exact hj)]at hjv;exact zW
 rw[this];exact hrep

theorem Qy.clr {d:Option Nat}{sz:Nat}{z:List AV}{r:RA}{its:List Item}{l s g o n:Nat}{q:Bool}{xs:List AV}(hr0:r.ev st.f=.vec l s g o n q)(hlk:Qc st.m l s=.vec g sz xs)(hon:o+n≤xs.length)(hn:0<n)
  (h:Qy P N its { st with m:=Am.put st.m l s (.vec g sz (xs.take o++List.replicate n (ZS sz z)++xs.drop (o+n))),f:=Ql st.f d (.tup []) } Q):Qy P N (⟨d,.clr sz z r,none⟩ :: its) st Q:=by
 refine Qy.step rfl fun G B a w op hr hd hdN hc K QQ hK=>?_
 cases ho:op.op<;>rw[ho]at hc<;>simp only[X4,QlH]at hc;rename_i cl;split at hc
 case h_2=>cases hc
 rename_i o1 x t o2;cases o2;simp only[QlM]at hc;obtain⟨hty,hcr⟩:=hc;cases hu:P.underlying t with
 |none=>simp[hu]at hty
 |some dd=>
  cases dd with
  |slice e=>
   simp only[hu,QlM,Qmo,QlR,Qls]at hty;obtain⟨⟨⟨⟨i,hi,⟨rfl,hz⟩⟩,hsz0⟩,hrf⟩,hlf⟩:=hty;cases hzv:i.zero with
   |none=>rw[hzv]at hz;cases hz
   |some zv=>
    rw[hzv]at hz;simp only[QlM,Qls]at hz;have rx:=Qv hr hcr;rw[hr0]at rx;obtain⟨e1,e2,e3,e4⟩:=hr.mr.vec l s g i.size xs hlk;have rz:RepL G z zv.cells.toList:=isCL_ok hz.1;have hzl:zv.cells.size=i.size:=by
     have:=rz.length;simp only[QlU]at this;omega
    generalize hv:a.eval x=v at rx;cases rx with
    |vec hv1 hg hh=>
     rcases hh e1.symm with⟨_,_,hn0,_⟩|⟨b,A,c,hb,hoc,rfl,hnc,hcm,_,hA⟩
     ·omega
     have hA:=hA ⟨xw,.inr hn⟩;subst hA;rw[e2]at hv;rcases e4 with⟨e4,_⟩|⟨b',e4,hrow⟩
     ·rw[hb]at e4;cases e4
     ·rw[hb]at e4;cases e4;obtain⟨⟨cur,hsoft,hcs,hrep⟩,hle,hmax⟩:=hrow;have rep0:=Ih rz hz.2 hsz0 hlf n;have hel0:=Yf hz.2 hrf hlf n;have hls:(Builtin.zeroCells zv.cells n).toList.length=n*i.size:=by rw[QlU,size_zeroCells,hzl]
      have hbig:o*i.size+n*i.size≤xs.length*i.size:=by rw[←QlZ];exact Qmv _ hon
      have hbig2:xs.length*i.size≤cur.size:=by rw[hcs];exact Qmv _ hle
      obtain⟨w',hst,hs',htn⟩:=ZL P s b (o*i.size) (Builtin.zeroCells zv.cells n).toList 0 w cur hsoft xw (rep0.leaves hel0.leaf);have hrun:(Builtin.clear_ #[t] op.type #[a.eval x]).run P w=.ok (.tuple #[]) w':=by
       cases n with
       |zero=>omega
       |succ n=>simp only[Builtin.clear_,hv,List.getElem?_toArray,Qmr,Sem.run_bind,run_underlying hu,Result.andThen_ok,Sem.run_pure,zeroValue,typeInfo,run_program,hi,hzv,hst]
      have hexec:(execOp a.eval op).run P w=.ok (.value (.tuple #[])) w':=by
       exact ym
      have hfl:QP (xs.take o++List.replicate n (ZS i.size z)++xs.drop (o+n))=(QP xs).take (o*i.size)++QP (List.replicate n (ZS i.size z))++(QP xs).drop (o*i.size+n*i.size):=by
       rw[Z3,Z3,J2 e3.size,←QlZ,Jt e3.size]
      have hxl:(xs.take o++List.replicate n (ZS i.size z)++xs.drop (o+n)).length=xs.length:=xD
      have hels:Elems i.size (xs.take o++List.replicate n (ZS i.size z)++xs.drop (o+n)):=by
       refine⟨fun y hy=>?_,?_,?_⟩
       ·rcases QmJ.1 hy with hy|hy
        ·rcases QmJ.1 hy with hy|hy
         ·exact e3.size y (Qmc hy)
         ·exact hel0.size y hy
        ·exact e3.size y (Qmb hy)
       ·rw[hfl];simp only[K6,QlM];exact⟨⟨Jp e3.rf fun y hy=>Qmc hy,hel0.rf⟩,Jp e3.rf fun y hy=>Qmb hy⟩
       ·rw[hfl];simp only[QmI,QlM];exact⟨⟨Zr e3.leaf fun y hy=>Qmc hy,hel0.leaf⟩,Zr e3.leaf fun y hy=>Qmb hy⟩
      have hr':Rel G B N { st with m:=Am.put st.m l s (.vec g i.size (xs.take o++List.replicate n (ZS i.size z)++xs.drop (o+n))) } a w':=by
       refine⟨?_,hr.size,hr.slots,hr.ds,hr.base,kX,Wi hr.ne⟩;refine hr.mr.rowset hlk hb htn hels ⟨⟨_,hs',?_,?_⟩,by rw[hxl];exact hle,hmax⟩
       ·simp only[Qmt,Ql2,Qml,Ql5,QlU,hls];rw[QlU]at hls;omega
       ·rw[hfl,hxl];have h6:(cur.toList.take (o*i.size+0)++(Builtin.zeroCells zv.cells n).toList++cur.toList.drop (o*i.size+0+(Builtin.zeroCells zv.cells n).toList.length)).toArray.toList.take (xs.length*i.size)=(cur.toList.take (xs.length*i.size)).take (o*i.size)++(Builtin.zeroCells zv.cells n).toList++(cur.toList.take (xs.length*i.size)).drop (o*i.size+(Builtin.zeroCells zv.cells n).toList.length):=by
         simp only[QlV];exact Fk _ _ _ _ xw j_
        rw[h6,hls];exact((hrep.take _).append rep0).append (hrep.drop _)
      unfold Oper.wp;rw[hexec];have hd':op.dst=d:=hd;show K (a.put op.dst _) _;rw[hd'];exact hK _ _ _ _ h (hr'.put hdN (.tup .nil)) (Ext.turned htn (.inr ⟨l,s,hb⟩))
  |_=>simp[hu]at hty

theorem Qy.mk {d:Option Nat}{site el sz bytes:Nat}{z:List AV}{l c:RA}{its:List Item}{kl kc:IntKind}{n m:Nat}(hl:l.ev st.f=.int kl (n:Int))(hcv:c.ev st.f=.int kc (m:Int))(hnm:n≤m)(hm:m≤9223372036854775807)(hb:bytes*m≤281474976710656)
  (hro:Qn (Qc st.m 0 site)=true)
  (h:Qy P N its { st with m:=Am.put st.m 0 site (.vec (Qz st.m 0 site) sz (List.replicate n (ZS sz z))),f:=Ql st.f d (.vec 0 site (Qz st.m 0 site) 0 n false) } Q):Qy P N (⟨d,.mk site el sz bytes z l c,none⟩ :: its) st Q:=by
 refine Qy.step rfl fun G B a w o hr hd hdN hc K QQ hK=>?_
 cases ho:o.op<;>rw[ho]at hc<;>simp only[X4,QlH]at hc;rename_i t x y;simp only[QlM]at hc;obtain⟨⟨hty,hcl⟩,hcc⟩:=hc;cases hu:P.underlying t with
 |none=>simp[hu]at hty
 |some dd=>
  cases dd with
  |slice e=>
   simp only[hu,QlM,Qmo,QlR,Qls]at hty;obtain⟨⟨⟨⟨⟨⟨i,hi,⟨rfl,rfl⟩,hz⟩,hsz0⟩,rfl⟩,hte⟩,hrf⟩,hlf⟩:=hty;cases hzv:i.zero with
   |none=>rw[hzv]at hz;cases hz
   |some zv=>
    rw[hzv]at hz;simp only[QlM,Qls]at hz;have rl:=Qv hr hcl;have rc:=Qv hr hcc;rw[hl]at rl;rw[hcv]at rc;have hxv:a.eval x=.int kl (n:Int):=by
     revert rl
     generalize a.eval x=v;intro rl;cases rl;rfl
    have hyv:a.eval y=.int kc (m:Int):=by
     revert rc
     generalize a.eval y=v;intro rc;cases rc;rfl
    have hbb:(i.bytes:Int)*(m:Int)≤281474976710656:=by
     have h:((i.bytes*m:Nat):Int)≤281474976710656:=xw
     rwa [Int.natCast_mul]at h
    have hrun:=run_make (P:=P) w t e i zv hu hi hzv kl kc (n:Int) (m:Int) xw xw hbb xw;simp only[QmS]at hrun;have rz:RepL G z zv.cells.toList:=isCL_ok hz.1;have hzl:zv.cells.size=i.size:=by
     have:=rz.length;simp only[QlU]at this;omega
    have hsize:(madeCells zv.cells (m*i.size)).size=m*i.size:=size_madeCells _ _;have hrow:RowIs G site (w.alloc (.cells (madeCells zv.cells (m*i.size)) e)) w.heap.size m i.size (List.replicate n (ZS i.size z)):=by
     refine⟨⟨_,X3.new w _ e hte,hsize,?_⟩,by simpa using hnm,xC⟩;rw[JQ hz.2 hlf,List.length_replicate];have hfl:((List.replicate n z).flatten).length=n*i.size:=by simp[hz.2]
     have hle:n*i.size≤m*i.size:=Qmv _ hnm;refine RepL.of_all (by rw[hfl,Qml,QlU,hsize];exact QmG hle) fun j u v hju hjv=>?_
     have hj:j<n*i.size:=by
      rw[←hfl];exact(Qlm.1 hju).1
     rw[HP (by rw[hz.2];exact hsz0) n j (by rw[hz.2];exact hj),hz.2]at hju;have hmod:j % i.size<i.size:=Nat.mod_lt _ xw;obtain⟨v',hv',hrep⟩:=rz.at_ hju;rw[List.getElem?_take_of_lt hj]at hjv;have:v=v':=by
      simp only[madeCells,Array.toList_map,Array.toList_range,QmN]at hjv;rw[List.getElem?_range xw]at hjv;exact zW
     rw[this];exact hrep
    have hgl:=J3 hr.mr hro;have hl0:0<st.m.length:=QmL.2 hr.ne;obtain⟨hr',he⟩:=hr.vecput (w':=w.alloc (.cells (madeCells zv.cells (m*i.size)) e)) (cap:=m) (b:=some w.heap.size) hl0 hro hgl rfl rfl rfl xA (fun k hk _=>RowKit.Below.heap_alloc w _ k hk) (fun k e=>kQ) (Yf hz.2 hrf hlf n) (.inr ⟨_,rfl,hrow⟩);have hexec:(execOp a.eval o).run P w=.ok (.value (.slice (some ⟨w.heap.size,0,none⟩) n m)) (w.alloc (.cells (madeCells zv.cells (m*i.size)) e)):=by
     simp only[execOp,ho,Sem.run_bind,hxv,hyv,hrun,Result.andThen_ok];rfl
    unfold Oper.wp;rw[hexec];have hd':o.dst=d:=hd;show K (a.put o.dst _) _;rw[hd'];refine hK _ _ _ _ h (hr'.put hdN (.vec rfl (Ql8 j4) fun _=>.inr ⟨w.heap.size,⟨w.heap.size,0,none⟩,m,j4,by simp[Gh.row];exact hnm,rfl,hnm,xC,fun _=>j4,fun _=>xA⟩)) he
  |_=>simp[hu]at hty

theorem Qy.s2b {d:Option Nat}{site el:Nat}{r:RA}{its:List Item}{s:List UInt8}(hs:r.ev st.f=.str s)(hm:s.length≤9223372036854775807)(hro:Qn (Qc st.m 0 site)=true)
  (h:Qy P N its { st with m:=Am.put st.m 0 site (.vec (Qz st.m 0 site) 1 (Qw s)),f:=Ql st.f d (.vec 0 site (Qz st.m 0 site) 0 s.length false) } Q):Qy P N (⟨d,.s2b site el r,none⟩ :: its) st Q:=by
 refine Qy.step rfl fun G B a w o hr hd hdN hc K QQ hK=>?_
 cases ho:o.op<;>rw[ho]at hc<;>simp only[X4,QlH]at hc;rename_i src dst x;simp only[QlM]at hc;obtain⟨⟨hst,hty⟩,hcx⟩:=hc;cases hu:P.underlying dst with
 |none=>simp[hu]at hty
 |some dd=>
  cases dd with
  |slice e=>
   simp only[hu,QlM,Qls]at hty;obtain⟨⟨hint,rfl⟩,hte⟩:=hty;have he8:P.underlying e=some (.int .u8):=by
    unfold Y6 at hint;split at hint
    ·rename_i k hk;simp only[Qls]at hint;rw[hk,←hint]
    ·cases hint
   have rx:=Qv hr hcx;rw[hs]at rx;have hxv:a.eval x=.string ⟨⟨s⟩⟩:=by
    revert rx
    generalize a.eval x=v;intro rx;cases rx;rfl
   have hrun:=run_bytes_of_string (P:=P) w src dst e ⟨⟨s⟩⟩ (KQ hst) hu he8;have hsz:(⟨⟨s⟩⟩:ByteArray).size=s.length:=rfl;rw[hsz]at hrun;have hge:=grownCap_ge w s.length 0 e;have hcm:=grownCap_le_maxLen w s.length 0 e xC;generalize hcap:grownCap w s.length 0 e=cap at hrun hge hcm;have hrs:(bytesRow ⟨⟨s⟩⟩ cap).size=cap*1:=by
    simp only[bytesRow,Array.size_append,Array.size_map,Array.size_replicate,hsz,Qmt];omega
   have hrow:RowIs G site (w.drew.alloc (.cells (bytesRow ⟨⟨s⟩⟩ cap) e ((bytesRow ⟨⟨s⟩⟩ cap).size,(bytesRow ⟨⟨s⟩⟩ cap).size+1))) w.heap.size cap 1 (Qw s):=by
    refine⟨⟨bytesRow ⟨⟨s⟩⟩ cap,⟨e,_,_,heap_alloc_new w.drew _,hte,fun o ho=>xw⟩,hrs,?_⟩,by simpa [Qw]using hge,hcm⟩;rw[KR];have:(bytesRow ⟨⟨s⟩⟩ cap).toList.take ((Qw s).length*1)=s.map fun b=>Value.int .u8 (b.toNat:Int):=by
     have hl:(Qw s).length*1=(s.map fun b=>Value.int .u8 (b.toNat:Int)).length:=v5
     rw[hl];simp only[bytesRow,Array.toList_append,Array.toList_map];exact List.take_left
    rw[this];exact Fm s
   have hgl:=J3 hr.mr hro;have hl0:0<st.m.length:=QmL.2 hr.ne;obtain⟨hr',he⟩:=hr.vecput (w':=w.drew.alloc (.cells (bytesRow ⟨⟨s⟩⟩ cap) e ((bytesRow ⟨⟨s⟩⟩ cap).size,(bytesRow ⟨⟨s⟩⟩ cap).size+1))) (cap:=cap) (b:=some w.heap.size) hl0 hro hgl rfl rfl rfl xA (fun k hk _=>RowKit.Below.heap_alloc w.drew _ k hk) (fun k e=>kQ) (GA s) (.inr ⟨_,rfl,hrow⟩);have hexec:(execOp a.eval o).run P w=.ok (.value (.slice (some ⟨w.heap.size,0,none⟩) s.length cap)) (w.drew.alloc (.cells (bytesRow ⟨⟨s⟩⟩ cap) e ((bytesRow ⟨⟨s⟩⟩ cap).size,(bytesRow ⟨⟨s⟩⟩ cap).size+1))):=by
    simp only[execOp,ho,Sem.run_bind,hxv,hrun,Result.andThen_ok];rfl
   unfold Oper.wp;rw[hexec];have hd':o.dst=d:=hd;show K (a.put o.dst _) _;rw[hd'];refine hK _ _ _ _ h (hr'.put hdN (.vec rfl (Ql8 j4) fun _=>.inr ⟨w.heap.size,⟨w.heap.size,0,none⟩,cap,j4,by simp[Gh.row];exact hge,rfl,hge,hcm,fun _=>j4,fun _=>xA⟩)) he
  |_=>simp[hu]at hty

theorem Rel.other {G:Gh}{B:Nat}{a:Act}{w:World}(hr:Rel G B N st a w)(o:Obj):Rel G B N st a (w.alloc o)∧Ext 1 G w G (w.alloc o):=by
 have hold:∀b,b<w.heap.size→(w.alloc o).heap[b]? = w.heap[b]?:=fun b hb=>RowKit.Below.heap_alloc w _ b hb
 have hs:∀b k v,G.stab b k=some v→rd (w.alloc o) b k v:=fun b k v e=>KO (hold b (HJ (hr.mr.stab b k v e))) (hr.mr.stab b k v e)
 have hmr:MR G st.m (w.alloc o):=hr.mr.kept (stab:=G.stab) hold hs (fun _ _ _ h=>h) fun b hb=>(hr.mr.mine hb).2
 refine⟨⟨hmr,hr.size,hr.slots,hr.ds,hr.base,Qll hr.top xA,hr.ne⟩,rfl,rfl,rfl,xA,fun _ _ _ h=>h,fun _ _ _=>rfl,fun _ _=>Qlk _,fun _ _ _=>⟨rfl,rfl,rfl⟩,fun b hb _=>⟨hold b hb,fun _=>rfl⟩,fun _ h=>.inl h,fun l s _ h=>.inl ⟨l,s,Qlk _,h⟩⟩

theorem Qy.usd {d:Option Nat}{r:RA}{its:List Item}{l s g n:Nat}{sz:Nat}{xs:List AV}(hs2:2000≤s)(hx:r.ev st.f=.vec l s g 0 n false)(hlk:Qc st.m l s=.vec g sz xs)
  (h:Qy P N its { st with f:=Ql st.f d (if n=0 then .anyp else .vptr l s g 0 0) } Q):Qy P N (⟨d,.usd r,none⟩ :: its) st Q:=by
 refine Qy.stepT rfl fun G B a w o hr hd hdN hc hT K QQ hK=>?_
 cases ho:o.op<;>rw[ho]at hc<;>simp only[X4,QlH]at hc;rename_i cl;split at hc
 case h_2=>cases hc
 rename_i o1 x ts o2;cases o2;simp only[Sm]at hT;split at hT
 case h_2=>cases hT
 rename_i pe hpe;have rx:=Qv hr hc;rw[hx]at rx;have hd':o.dst=d:=hd;have fin:∀(v:Value) (w':World),(Builtin.unsafeSliceData_ ts o.type #[a.eval x]).run P w=.ok v w'→(Rel G B N st a w'∧Ext 1 G w G w')→Rep G (if n=0 then .anyp else .vptr l s g 0 0) v→o.wp P a w K QQ:=by
  intro v w' hrun hrel hrep;have hexec:(execOp a.eval o).run P w=.ok (.value v) w':=by
   exact ym
  unfold Oper.wp;rw[hexec];show K (a.put o.dst v) w';rw[hd'];exact hK _ _ _ _ h (hrel.1.put hdN hrep) hrel.2
 obtain⟨e1,e2,e3,e4⟩:=hr.mr.vec l s g sz xs hlk;generalize a.eval x=v at rx fin;cases rx with
 |vec hone hg hh=>
  rcases hh e1.symm with⟨hvm,_,rfl,A0,rfl,hA0⟩|⟨b,A,c,hvm,hok,rfl,hkc,hcm,hq,hA⟩
  ·rw[hA0 hs2]at fin;exact fin _ w (Lib.run_unsafeSliceData_nil w _ _ 0 0) ⟨hr,Ext.refl 1 G w⟩ (by rw[Qlv rfl];exact .anyp none)
  ·have hA':=hA ⟨.inr rfl,.inl rfl⟩;simp only[Nat.zero_mul]at hA';subst hA';by_cases hc0:c=0
   ·subst hc0;have hn:n=0:=xw
    subst hn;rcases e4 with⟨e,_⟩|⟨b',e,hrow⟩
    ·rw[hvm]at e;cases e
    ·rw[hvm]at e;cases e;obtain⟨cur,⟨t',lo,hi,hheap,_⟩,_⟩:=hrow.cur;have hsh:w.shape? b=some (t',cur.size):=by unfold World.shape?;rw[hheap]
     exact fin _ _ (Lib.run_unsafeSliceData_zero w _ _ pe hpe ⟨b,0,none⟩ 0 _ hsh) (hr.other _) (by rw[Qlv rfl];exact .anyp _)
   ·refine fin _ w (Lib.run_unsafeSliceData_row w _ _ _ _ _ hc0) ⟨hr,Ext.refl 1 G w⟩ ?_;by_cases hn:n=0
    ·rw[Qlv hn];exact .anyp _
    ·rw[Qlu hn];exact .vptr rfl hg fun _=>⟨b,hvm,xA⟩

theorem Qy.ustr0 {d:Option Nat}{el:Nat}{p r:RA}{its:List Item}(hp:p.ev st.f=.anyp)(hx:r.ev st.f=.int .i64 0)
  (h:Qy P N its { st with f:=Ql st.f d (.str []) } Q):Qy P N (⟨d,.ustr el p r,none⟩ :: its) st Q:=by
 refine Qy.step rfl fun G B a w o hr hd hdN hc K QQ hK=>?_
 cases ho:o.op<;>rw[ho]at hc<;>simp only[X4,QlH]at hc;rename_i cl;split at hc
 case h_2=>cases hc
 rename_i o1 x y pt it o2;cases o2;simp only[QlM]at hc;obtain⟨⟨h1,h2⟩,h3⟩:=hc;have r1:=Qv hr h2;have r2:=Qv hr h3;rw[hp]at r1;rw[hx]at r2;have hyv:a.eval y=.int .i64 0:=by
  revert r2
  generalize a.eval y=v;intro r2;cases r2;rfl
 obtain⟨q,hxv⟩:∃q,a.eval x=.pointer q:=by
  revert r1
  generalize a.eval x=v;intro r1;cases r1;exact⟨_,rfl⟩
 have hrun:=Lib.run_unsafeString_none (P:=P) w pt it o.type q;have hexec:(execOp a.eval o).run P w=.ok (.value (.string .empty)) w:=by
  exact yd
 unfold Oper.wp;rw[hexec];have hd':o.dst=d:=hd;show K (a.put o.dst _) _;rw[hd'];exact hK _ _ _ _ h (hr.put hdN (.str [])) (Ext.refl 1 G w)

theorem Qy.ustr {d:Option Nat}{el:Nat}{p r:RA}{its:List Item}{l g n:Nat}{xs:List AV}{s:List UInt8}(hp:p.ev st.f=.vptr l (el+2000) g 0 0)(hx:r.ev st.f=.int .i64 (n:Int))(hlk:Qc st.m l (el+2000)=.vec g 1 xs)(hn:n≤xs.length)(hn0:n≠0)(hs:xs.take n=Qw s)
  (h:Qy P N its { st with m:=Am.put st.m l (el+2000) (.vec (g+1) 1 []),f:=Ql st.f d (.str s) } Q):Qy P N (⟨d,.ustr el p r,none⟩ :: its) st Q:=by
 refine Qy.step rfl fun G B a w o hr hd hdN hc K QQ hK=>?_
 cases ho:o.op<;>rw[ho]at hc<;>simp only[X4,QlH]at hc;rename_i cl;split at hc
 case h_2=>cases hc
 rename_i o1 x y pt it o2;cases o2;simp only[QlM]at hc;obtain⟨⟨h1,h2⟩,h3⟩:=hc;split at h1
 case h_2=>cases h1
 rename_i e hpt;simp only[QlM,Qls]at h1;obtain⟨rfl,hco⟩:=h1;have r1:=Qv hr h2;have r2:=Qv hr h3;rw[hp]at r1;rw[hx]at r2;have hyv:a.eval y=.int .i64 (n:Int):=by
  revert r2
  generalize a.eval y=v;intro r2;cases r2;rfl
 obtain⟨e1,e2,e3,e4⟩:=hr.mr.vec l (e+2000) g 1 xs hlk;have hsl:s.length=n:=by
  have:=congrArg List.length hs;simp only[Qml,Qw,Qmj]at this;omega
 obtain⟨b,hvm,hrow⟩:∃b,G.vm l (e+2000)=some b∧RowIs G (e+2000) w b (G.vc l (e+2000)) 1 xs:=by
  rcases e4 with⟨_,e⟩|h'
  ·subst e;simp at hn;exact absurd hn hn0
  ·exact h'
 have hxv:a.eval x=.pointer (some ⟨b,0,none⟩):=by
  revert r1
  generalize a.eval x=v;intro r1;cases r1 with
  |vptr _ _ hh=>
   obtain⟨b',e',rfl⟩:=hh e1.symm;rw[hvm]at e';cases e';simp
 obtain⟨⟨cur,⟨t',lo,hi,hheap,hty,hfr⟩,hcsz,hrep⟩,hle,hmx⟩:=hrow;have ht:t'=e:=PY (s:=e+2000) hty (by simp[Zk]) xw;subst ht;have hsh:w.shape? b=some (t',cur.size):=by unfold World.shape?;rw[hheap]
 have hne:s≠[]:=by rintro rfl;simp at hsl;exact hn0 hsl.symm
 have hcell:∀j u,s[j]? = some u→w.cell? ((⟨b,0,none⟩:Addr).add j)=some (.int .u8 u.toNat):=by
  intro j u hj;rw[XV,QlN,cell_of_row w b j cur t' (lo,hi) hheap,←QlS];have hjl:j<s.length:=(Qlm.1 hj).1;have hrep':=hrep.take n;rw[Nat.mul_one,QmF,QmG hn]at hrep';have hft:(QP xs).take n=Qw s:=by
   have:=J2 e3.size n;rw[Nat.mul_one]at this;rw[this,hs,KR]
  rw[hft]at hrep';have hb:(Qw s)[j]? = some (.int .u8 (u.toNat:Int)):=by simp[Qw,hj]
  obtain⟨v,hv,hr1⟩:=hrep'.at_ hb;cases hr1;rw[Ql3]at hv;split at hv
  ·exact hv
  ·cases hv
 have hlc:s.length≤cur.size:=by rw[hcsz,hsl];omega
 have hrun:=Lib.run_unsafeString_row (P:=P) w pt it o.type t' hpt hco b cur.size hsh s hne hlc (by simp only[maxLen]at hmx;omega) hcell;rw[hsl]at hrun;have hexec:(execOp a.eval o).run P w=.ok (.value (.string ⟨s.toArray⟩)) (w.freeze ⟨b,0,none⟩ n):=by
  exact yd
 have hfz:(w.freeze ⟨b,0,none⟩ n).os=w.os∧(w.freeze ⟨b,0,none⟩ n).tape=w.tape∧(w.freeze ⟨b,0,none⟩ n).output=w.output∧(w.freeze ⟨b,0,none⟩ n).heap.size=w.heap.size∧∀k,k≠b→(w.freeze ⟨b,0,none⟩ n).heap[k]? = w.heap[k]?:=by
  unfold World.freeze;split
  ·exact⟨rfl,rfl,rfl,rfl,fun _ _=>rfl⟩
  ·refine⟨rfl,rfl,rfl,xA,fun k hk=>?_⟩;simp only[Array.getElem?_modify];rw[Qlu (fun e=>hk e.symm)]
 have hlm:l<st.m.length:=Xm qL;obtain⟨hr',he⟩:=hr.vecput (w':=w.freeze ⟨b,0,none⟩ n) (l:=l) (s:=t'+2000) (g:=g+1) (sz:=1) (cap:=0) (b:=none) (ys:=[]) hlm wv xw hfz.1 hfz.2.1 hfz.2.2.1 (by rw[hfz.2.2.2.1];exact Qlk _) (fun k _ hk=>hfz.2.2.2.2 k (fun e=>hk (by rw[e,hvm]))) (fun k e=>kZ) ⟨xA,rfl,rfl⟩ (.inl ⟨rfl,rfl⟩);unfold Oper.wp;rw[hexec];have hd':o.dst=d:=hd;show K (a.put o.dst _) _;rw[hd'];exact hK _ _ _ _ h (hr'.put hdN (.str s)) he

end

theorem Ii {G G':Gh}{m:Qk}{w:World}(h:MR G m w){s g sz o n:Nat}{q:Bool}{xs:List AV}{v:Value}(hlk:Qc m 0 s=.vec g sz xs)(hle:o+n≤xs.length)(hr:Rep G (.vec 0 s g o n q) v)
  (hst:G.sameStab G') (hpub:∀b o v,G.vm 0 s=some b→w.cell? ⟨b,o,none⟩=some v→G'.stab b o=some (.cell v)):Rep G' (.list ((xs.drop o).take n)) v:=by
 obtain⟨e1,e2,e3,e4⟩:=h.vec 0 s g sz xs hlk;have hmem:∀x∈(xs.drop o).take n,x∈xs:=fun x hx=>Qmb (Qmc hx)
 cases hr with
 |vec hone hg hh'=>
  rcases hh' e1.symm with⟨hvm,rfl,rfl,A0,rfl,hA0⟩|⟨b,A,c,hvm,hok,rfl,hkc,hcm,hq,hA⟩
  ·simp only[Qmy];exact oS
  ·rcases e4 with⟨e,_⟩|⟨b',e,hrow⟩
   ·rw[hvm]at e;cases e
   ·rw[hvm]at e;cases e;obtain⟨cur,hsoft,hcs,hrep⟩:=hrow.cur;have hr:=(RepL.rfd hst e3.rf hrep).takeDrop (o*sz) (n*sz);rw[Jt e3.size,J2 (fun x hx=>e3.size x (Qmb hx))]at hr;refine .list (sz:=sz) hr (fun x hx=>e3.size x (hmem x hx)) (Jp e3.rf (JF hmem)) (Zr e3.leaf (JF hmem)) (fun j u hu=>?_) xD hkc xw;rw[Ql3]at hu;split at hu
    ·rename_i hj;rw[Ql4,Ql3]at hu;split at hu
     ·have hk:0<n:=by
       rcases Qmd n with h0|h0
       ·subst h0;simp at hj
       ·exact h0
      have hovc:o<G.vc 0 s:=Qlw (Nat.lt_add_of_pos_right hk) hok;have hA':=hA ⟨.inl hovc,.inr hk⟩;rw[e2]at hA';refine⟨b,o*sz,by rw[hA'],hpub b (o*sz+j) u hvm ?_⟩;rw[hsoft.cell]
      simpa using hu
     ·cases hu
    ·cases hu

theorem Rel.pub0 {G:Gh}{B N:Nat}{st:St}{a:Act}{w:World}(h:Rel G B N st a w){site g sz:Nat}{xs:List AV}(hlk:Qc st.m 0 site=.vec g sz xs) :
  ∃G',Rel G' B N { st with m:=Am.put st.m 0 site (.vec (g+1) sz []) } a w∧Ext 1 G w G' w∧(∀o n q v,o+n≤xs.length→Rep G (.vec 0 site g o n q) v→Rep G' (.list ((xs.drop o).take n)) v)∧G'.nm=G.nm:=by
 have hl:0<st.m.length:=QmL.2 h.ne;have hro:Qn (Qc st.m 0 site)=true:=wv
 have hvg:=(h.mr.vec 0 site g sz xs hlk).1;obtain⟨h1,h2⟩:=h.vecput (w':=w) (sz:=sz) (cap:=0) (b:=none) (g:=g+1) (ys:=[]) hl hro xw rfl rfl rfl (Qlk _) (fun _ _ _=>rfl) (fun k e=>kZ) ⟨xA,rfl,rfl⟩ (.inl ⟨rfl,rfl⟩);generalize hG1:G.row 0 site none 0 (g+1) sz=G1 at h1 h2;have hst1:G1.stab=G.stab:=by rw[←hG1];rfl
 have hnm1:G1.nm=G.nm:=by rw[←hG1];rfl
 have hvm1:∀l s,G1.vm l s=if l=0∧s=site then none else G.vm l s:=by rw[←hG1];exact fun _ _=>rfl
 have hle1:Gle G1 (G1.pub w fun b=>G.vm 0 site=some b):=Gh.pub_gle h1.mr.stab;have nS:∀l s b,G1.nm l s=some b→¬G.vm 0 site=some b:=fun l s b e=>by rw[hnm1]at e;exact h.mr.inj3 _ _ _ _ _ e
 have vS:∀l s b,G1.vm l s=some b→¬G.vm 0 site=some b:=fun l s b e e'=>by
  rw[hvm1]at e;split at e
  ·cases e
  ·rename_i hh;exact hh (h.mr.inj2 _ _ _ _ _ e e')
 refine⟨G1.pub w fun b=>G.vm 0 site=some b,⟨⟨?_,?_,?_,?_,?_,h1.mr.gone,h1.mr.inj1,h1.mr.inj2,h1.mr.inj3,h1.mr.iter⟩,h.size,?_,h1.ds.mono hle1,h1.base,h1.top,h1.ne⟩,?_,?_,hnm1⟩
 ·intro b o v e;by_cases hS:G.vm 0 site=some b∧∀o,JO b o=none
  ·rw[Gh.pub_c hS]at e;exact V9 e
  ·rw[Gh.pub_n hS]at e;exact h1.mr.stab b o v e
 ·intro l s zs e;obtain⟨b,cs,e',hc,hr⟩:=h1.mr.cells l s zs e;exact⟨b,cs,e',hc,hr.mono (hle1.dn l)⟩
 ·intro l s b e;obtain⟨g1,g2⟩:=h1.mr.nm l s b e;exact⟨g1,fun o=>by rw[Gh.pub_out (nS l s b e)];exact g2 o⟩
 ·intro l s g' z zs e;obtain⟨a1,a2,a3,a4⟩:=h1.mr.vec l s g' z zs e;exact⟨a1,a2,a3,a4.imp id fun⟨b,e',r⟩=>⟨b,e',r.of rfl fun vs hv=>RepL.rfd hle1.stab a3.rf hv⟩⟩
 ·intro l s b e;obtain⟨g1,g2⟩:=h1.mr.vm l s b e;exact⟨g1,fun o=>by rw[Gh.pub_out (vS l s b e)];exact g2 o⟩
 ·exact fun i=>(h1.slots i).mono hle1
 ·refine⟨rfl,rfl,rfl,Qlk _,fun b o v e=>hle1.stab b o v (by rw[hst1];exact e),fun l s _=>by show G1.nm l s=_;rw[hnm1],h2.vg,h2.vs,fun b hb hm=>⟨rfl,fun o=>?_⟩,h2.mine,h2.mv⟩;rw[Gh.pub_out (fun e=>hm (.inr ⟨0,site,e⟩)),hst1]
 ·intro o n q v hle hr;refine Ii h.mr hlk hle hr (fun b o v e=>?_) (fun b o v e hv=>?_)
  ·exact hle1.stab b o v (by rw[hst1];exact e)
  ·rw[Gh.pub_in e (Gh.notab (h.mr.vm 0 site b e).2)];exact DH hv

theorem Rel.publish {G:Gh}{B N:Nat}{st:St}{a:Act}{w:World}(h:Rel G B N st a w){slot site g sz o n:Nat}{q:Bool}{xs:List AV}(hs:st.f slot=.vec 0 site g o n q)(hlk:Qc st.m 0 site=.vec g sz xs)(hle:o+n≤xs.length) :
  ∃G',Rel G' B N { st with m:=Am.put st.m 0 site (.vec (g+1) sz []),f:=QJ st.f slot (.list ((xs.drop o).take n)) } a w∧Ext 1 G w G' w:=by
 obtain⟨G',h1,h2,h3,h4⟩:=h.pub0 hlk;refine⟨G',⟨h1.mr,h1.size,fun i=>?_,h1.ds,h1.base,h1.top,h1.ne⟩,h2⟩;by_cases hi:i=slot
 ·subst hi;show Rep _ (QJ st.f i _ i) _;rw[QZ];have hr:=h.slots i;rw[hs]at hr;exact h3 _ _ _ _ hle hr
 ·show Rep _ (QJ st.f slot _ i) _;rw[Q6 _ _ hi];exact h1.slots i

theorem Rel.give {G:Gh}{B N:Nat}{st:St}{a:Act}{w:World}(h:Rel G B N st a w){slot site g sz o n l S:Nat}{q:Bool}{xs:List AV}(hs:st.f slot=.vec 0 site g o n q)(hlk:Qc st.m 0 site=.vec g sz xs)(hl:l<st.m.length)(hl0:l≠0)(hro:Qn (Qc st.m l S)=true)(hS:S<2000) :
  ∃G',Rel G' B N { st with m:=Am.put (Am.put st.m 0 site (.vec (g+1) sz [])) l S (.vec (Qz st.m l S) sz xs),f:=QJ st.f slot (.vec l S (Qz st.m l S) o n q) } a w∧Ext 1 G w G' w:=by
 have hlp:0<st.m.length:=QmL.2 h.ne;have hro0:Qn (Qc st.m 0 site)=true:=wv
 obtain⟨e1,e2,e3,e4⟩:=h.mr.vec 0 site g sz xs hlk;obtain⟨h1,h2⟩:=h.vecput (w':=w) (sz:=sz) (cap:=0) (b:=none) (g:=g+1) (ys:=[]) hlp hro0 xw rfl rfl rfl (Qlk _) (fun _ _ _=>rfl) (fun k e=>kZ) ⟨xA,rfl,rfl⟩ (.inl ⟨rfl,rfl⟩);have hlen:(Am.put st.m 0 site (.vec (g+1) sz [])).length=st.m.length:=by
  cases st.m<;>rfl
 have hlk1:Qc (Am.put st.m 0 site (.vec (g+1) sz [])) l S=Qc st.m l S:=QE (.inl hl0);have hng:Qz (Am.put st.m 0 site (.vec (g+1) sz [])) l S=Qz st.m l S:=by unfold Qz;rw[hlk1]
 have hgl:(G.row 0 site none 0 (g+1) sz).vg l S<Qz st.m l S:=by
  rw[←hng];exact J3 h1.mr (by rw[hlk1];exact hro)
 have hvm1:∀i t,(G.row 0 site none 0 (g+1) sz).vm i t=if i=0∧t=site then none else G.vm i t:=fun _ _=>rfl
 have hfree:∀k,G.vm 0 site=some k→¬(G.row 0 site none 0 (g+1) sz).mine k∧∀o,(G.row 0 site none 0 (g+1) sz).stab k o=none:=by
  intro k e;refine⟨?_,(h.mr.vm 0 site k e).2⟩;rintro(⟨i,t,e'⟩|⟨i,t,e'⟩)
  ·exact h.mr.inj3 _ _ _ _ _ e' e
  ·rw[hvm1]at e';split at e'
   ·cases e'
   ·rename_i hh;exact hh (h.mr.inj2 _ _ _ _ _ e' e)
 have hrow:(G.vm 0 site=none∧xs=[])∨∃k,G.vm 0 site=some k∧RowIs (G.row 0 site none 0 (g+1) sz) S w k (G.vc 0 site) sz xs:=by
  rcases e4 with e|⟨b,e,hr⟩
  ·exact .inl e
  ·refine .inr ⟨b,e,⟨?_,hr.le,hr.max⟩⟩;obtain⟨cs,⟨t,lo,hi,hh,_,hb⟩,hsz,hrep⟩:=hr.cur;exact⟨cs,⟨t,lo,hi,hh,by simp[Zk,hS],hb⟩,hsz,RepL.rfd (G:=G) (G':=G.row 0 site none 0 (g+1) sz) (fun _ _ _ h=>h) e3.rf hrep⟩
 have hmr:=h1.mr.vecput' (l:=l) (s:=S) (g:=Qz st.m l S) (sz:=sz) (cap:=G.vc 0 site) (b:=G.vm 0 site) (ys:=xs) (w':=w) (by rw[hlen];exact hl) (by rw[hlk1];exact hro) hgl (fun _ _ _=>rfl) (fun k e=>.inr (hfree k e)) e3 hrow;have hgle:=Gh.row_gle (G:=G.row 0 site none 0 (g+1) sz) (l:=l) (s:=S) (cap:=G.vc 0 site) (sz:=sz) (b:=G.vm 0 site) hgl;have hnm2:((G.row 0 site none 0 (g+1) sz).row l S (G.vm 0 site) (G.vc 0 site) (Qz st.m l S) sz).nm=G.nm:=rfl;have hvm2:∀i t,((G.row 0 site none 0 (g+1) sz).row l S (G.vm 0 site) (G.vc 0 site) (Qz st.m l S) sz).vm i t=if i=l∧t=S then G.vm 0 site else if i=0∧t=site then none else G.vm i t:=fun _ _=>rfl
 have hvc2:((G.row 0 site none 0 (g+1) sz).row l S (G.vm 0 site) (G.vc 0 site) (Qz st.m l S) sz).vc l S=G.vc 0 site:=j4
 have hvz2:((G.row 0 site none 0 (g+1) sz).row l S (G.vm 0 site) (G.vc 0 site) (Qz st.m l S) sz).vz l S=sz:=j4
 have hvg2:((G.row 0 site none 0 (g+1) sz).row l S (G.vm 0 site) (G.vc 0 site) (Qz st.m l S) sz).vg l S=Qz st.m l S:=j4
 refine⟨(G.row 0 site none 0 (g+1) sz).row l S (G.vm 0 site) (G.vc 0 site) (Qz st.m l S) sz,⟨hmr,h1.size,fun i=>?_,h1.ds.mono hgle,fun s' b' e=>?_,h1.top,Wi h1.ne⟩,⟨rfl,rfl,rfl,Qlk _,h2.stab,fun _ _ _=>rfl,fun i t=>Qll (h2.vg i t) (hgle.vg i t),?_,h2.old,fun b e=>?_,fun i t b e=>?_⟩⟩
 ·by_cases hi:i=slot
  ·subst hi;show Rep _ (QJ st.f i _ i) _;rw[QZ];have hr:=h.slots i;rw[hs]at hr;generalize a.tmps.getD i undef=v at hr;cases hr with
   |vec hone hg hh=>
    refine .vec hone (by rw[hvg2];exact Qlk _) fun _=>?_
    rcases hh e1.symm with⟨hvm,ho,hn,A,hv,_⟩|⟨b,A,c,hvm,hok,hv,hkc,hcm,hq,hA⟩
    ·exact .inl ⟨by rw[hvm2,Qlv ⟨rfl,rfl⟩];exact hvm,ho,hn,A,hv,fun h=>xw⟩
    ·refine .inr ⟨b,A,c,by rw[hvm2,Qlv ⟨rfl,rfl⟩];exact hvm,by rw[hvc2];exact hok,hv,hkc,hcm,by rw[hvc2];exact hq,?_⟩;rw[hvc2,hvz2,←e2];exact hA
  ·show Rep _ (QJ st.f slot _ i) _;rw[Q6 _ _ hi];exact(h1.slots i).mono hgle
 ·rw[hnm2,hvm2]at e;rw[Qlu xw]at e;exact h1.base s' b' (by rw[hvm1];exact e)
 ·intro i t e;have hb1:=h2.vg i t;have hb2:=hgle.vg i t;obtain⟨a1,a2,a3⟩:=h2.vs i t xw;obtain⟨b1,b2,b3⟩:=hgle.vs i t xw;exact⟨b1.trans a1,b2.trans a2,b3.trans a3⟩
 ·refine .inl ?_;rcases e with⟨i,t,e⟩|⟨i,t,e⟩
  ·exact .inl ⟨i,t,e⟩
  ·rw[hvm2]at e;split at e
   ·exact .inr ⟨0,site,e⟩
   ·split at e
    ·cases e
    ·exact .inr ⟨i,t,e⟩
 ·refine .inl ?_;rw[hvm2]at e;split at e
  ·exact⟨0,site,Qlx _,e⟩
  ·split at e
   ·cases e
   ·exact⟨i,t,Qlk _,e⟩

def X6 (t:List UInt8)(p:Nat):Nat×Nat:=Utf8.decode ⟨⟨t⟩⟩ p

theorem MR.moved {G:Gh}{m:Qk}{w w':World}(h:MR G m w){l s b q:Nat}{p:Nat}{t u:IT}(hx:Qc m l s=.iter t p)(hb:G.nm l s=some b)(ht:Turned b w w')(hs:w'.heap[b]? = some (u.obj q)) :
  MR G (Am.put m l s (.iter u q)) w' where
 stab k o v e:=by
  exact yl
 cells l' s' zs e:=by
  by_cases hh:l'=l∧s'=s
  ·obtain⟨rfl,rfl⟩:=hh;rw[Qs (Xm kg)]at e;cases e
  ·exact zB
 nm l' s' b' e:=by
  obtain⟨hz,h2⟩:=h.nm l' s' b' e;refine⟨?_,h2⟩;by_cases hh:l'=l∧s'=s
  ·obtain⟨rfl,rfl⟩:=hh;rw[Qs (Xm kg)];rfl
  ·rw[QE xw];exact hz
 vec l' s' g sz zs e:=by
  exact oU
 vm l' s' b' e:=by
  obtain⟨⟨g,sz,zs,hz⟩,h2⟩:=h.vm l' s' b' e;refine⟨?_,h2⟩;by_cases hh:l'=l∧s'=s
  ·obtain⟨rfl,rfl⟩:=hh;rw[hx]at hz;cases hz
  ·exact⟨g,sz,zs,qm⟩
 gone l' s' e:=by
  exact zY
 inj1:=h.inj1
 inj2:=h.inj2
 inj3:=h.inj3
 iter l' s' t' p' e:=by
  by_cases hh:l'=l∧s'=s
  ·obtain⟨rfl,rfl⟩:=hh;rw[Qs (Xm kg)]at e;cases e;exact⟨b,hb,hs⟩
  ·rw[QE xw]at e;obtain⟨b',e',hc⟩:=h.iter l' s' t' p' e;exact yy

theorem V5 {P:Program}{w:World}{b p:Nat}{s:ByteArray}(hh:w.heap[b]? = some (.stringIter s p))(h:p<s.size)(ty:TypeId) :
  (Instr.next (.pointer (some ⟨b,0,none⟩)) true ty).run P w=.ok (.tuple #[.bool true,.int .i64 p,.int .i32 (Utf8.decode s p).1]) { w with heap:=w.heap.setIfInBounds b (.stringIter s (p+(Utf8.decode s p).2)) }:=by
 simp only[Instr.next,getObj,setObj,Sem.run_bind,Sem.run,hh,Result.andThen,h,if_true];simp[goInt]
theorem V6 {P:Program}{w:World}{b p:Nat}{s:ByteArray}(hh:w.heap[b]? = some (.stringIter s p))(h:¬p<s.size)(ty:TypeId) :
  (Instr.next (.pointer (some ⟨b,0,none⟩)) true ty).run P w=.ok (.tuple #[.bool false]) w:=by
 simp[Instr.next,getObj,Sem.run,hh,h]

section
variable {P:Program}{N:Nat}{st:St}{Q:St→Prop}

theorem Qy.rngs {d:Option Nat}{s:Nat}{r:RA}{its:List Item}{t:List UInt8}(ht:r.ev st.f=.str t)(hn:Zs st.m s=true)(h:Qy P N its { st with m:=Am.put st.m 0 s (.iter (.str t) 0),f:=Ql st.f d (.ptr 0 s 0) } Q) :
  Qy P N (⟨d,.rngs s r,none⟩ :: its) st Q:=by
 refine Qy.step rfl fun G B a w o hr hd hdN hc K QQ hK=>?_
 cases ho:o.op<;>rw[ho]at hc<;>simp only[X4,QlH,QlM]at hc;rename_i ty x;have hx:=Qv hr hc.2;rw[ht]at hx;have hv:a.eval x=.string ⟨⟨t⟩⟩:=by
  generalize a.eval x=v at hx;cases hx;rfl
 obtain⟨hr',he⟩:=hr.freshO s hn (ob:=.iter (.str t) 0) (x:=.stringIter ⟨⟨t⟩⟩ 0) rfl (fun _ e=>kZ) (fun _ _ e=>by cases e;rfl);have hrun:(execOp a.eval o).run P w=.ok (.value (.pointer (some ⟨w.heap.size,0,none⟩))) (w.alloc (.stringIter ⟨⟨t⟩⟩ 0)):=by
  simp only[execOp,ho,hv,Sem.run_bind,run_range_string w ty _ (KQ hc.1),Result.andThen_ok,Sem.run_pure];rfl
 exact oI

theorem Qy.nxts {d:Option Nat}{r:RA}{its:List Item}{l s p:Nat}{t:List UInt8}(hp:r.ev st.f=.ptr l s 0)(hl:Qc st.m l s=.iter (.str t) p)
  (h1:p<t.length→Qy P N its { st with m:=Am.put st.m l s (.iter (.str t) (p+(X6 t p).2)),f:=Ql st.f d (.tup [.bool true,.int .i64 (p:Nat),.int .i32 ((X6 t p).1:Nat)]) } Q)
  (h2:t.length≤p→Qy P N its { st with f:=Ql st.f d (.tup [.bool false]) } Q) :
  Qy P N (⟨d,.nxts r,none⟩ :: its) st Q:=by
 refine Qy.step rfl fun G B a w o hr hd hdN hc K QQ hK=>?_
 cases ho:o.op<;>rw[ho]at hc<;>simp only[X4,QlH]at hc;rename_i x str;cases str with
 |false=>cases hc
 |true=>
 have hx:=Qv hr hc;rw[hp]at hx;obtain⟨b,hb,hh⟩:=hr.mr.iter l s (.str t) p hl;have hv:a.eval x=.pointer (some ⟨b,0,none⟩):=by
  generalize a.eval x=v at hx;cases hx;rename_i b' hb';rw[hb]at hb';cases hb';rfl
 have hd':o.dst=d:=hd;unfold Oper.wp;by_cases hlt:p<t.length
 ·have hrun:(execOp a.eval o).run P w=.ok (.value (.tuple #[.bool true,.int .i64 p,.int .i32 (X6 t p).1])) { w with heap:=w.heap.setIfInBounds b (.stringIter ⟨⟨t⟩⟩ (p+(X6 t p).2)) }:=by
   simp only[execOp,ho,hv,Sem.run_bind,V5 hh (show p<ByteArray.size ⟨⟨t⟩⟩from hlt),Result.andThen_ok,Sem.run_pure];rfl
  rw[hrun];show K (a.put o.dst _) _;rw[hd'];have hlen:b<w.heap.size:=(Qlt.1 hh).1;have htn:Turned b w { w with heap:=w.heap.setIfInBounds b (.stringIter ⟨⟨t⟩⟩ (p+(X6 t p).2)) } :=
   ⟨rfl,rfl,rfl,xA,fun k hk=>by
    show(w.heap.setIfInBounds b _)[k]? = _;rw[Array.getElem?_setIfInBounds_ne (fun e=>hk e.symm)]⟩
  have hnew:(w.heap.setIfInBounds b (.stringIter ⟨⟨t⟩⟩ (p+(X6 t p).2)))[b]? = some (.stringIter ⟨⟨t⟩⟩ (p+(X6 t p).2)):=by
   rw[Qlz,Qlv hlen]
  have hm:=hr.mr.moved (u:=.str t) hl hb htn hnew;have hr':Rel G B N { st with m:=Am.put st.m l s (.iter (.str t) (p+(X6 t p).2)) } a { w with heap:=w.heap.setIfInBounds b (.stringIter ⟨⟨t⟩⟩ (p+(X6 t p).2)) } :=
   ⟨hm,hr.size,hr.slots,hr.ds,hr.base,kX,Wi hr.ne⟩
  exact hK _ _ _ _ (h1 hlt) (hr'.put hdN (.tup (.cons (.bool _) (.cons (.int _ _) (.cons (.int _ _) .nil))))) (Ext.turned htn (.inl ⟨l,s,hb⟩))
 ·have hrun:(execOp a.eval o).run P w=.ok (.value (.tuple #[.bool false])) w:=by
   simp only[execOp,ho,hv,Sem.run_bind,V6 hh (show ¬p<ByteArray.size ⟨⟨t⟩⟩from hlt),Result.andThen_ok,Sem.run_pure]
  rw[hrun];show K (a.put o.dst _) _;rw[hd'];exact hK _ _ _ _ (h2 xw) (hr.put hdN (.tup (.cons (.bool _) .nil))) (Ext.refl 1 G w)

def Bq (cnt:Bool)(t:List UInt8)(b:Int):Int:=if cnt then(Lib.countByte t b.toNat.toUInt8:Nat)else Lib.indexByte t b.toNat.toUInt8

theorem Qbo {fn:Func} (h1:fn.name = "internal/bytealg.CountString") (h2:fn.origin = ""):Extern.findNext fn=none∧Extern.find fn=some Extern.BytealgCount.count := by
 exact yT
theorem Qbp {fn:Func} (h1:fn.name = "internal/bytealg.IndexByteString") (h2:fn.origin = ""):Extern.findNext fn=none∧Extern.find fn=some Extern.BytealgIndexByte.indexByte := by
 exact yT

theorem Qy.xb {d:Option Nat}{cnt:Bool}{k:Nat}{s c:RA}{its:List Item}{t:List UInt8}{b:Int}(hs:s.ev st.f=.str t)(hb:c.ev st.f=.int .u8 b)(h:Qy P N its { st with f:=Ql st.f d (.int .i64 (Bq cnt t b)) } Q) :
  Qy P N (⟨d,.xb cnt k s c,none⟩ :: its) st Q:=by
 refine Qy.step rfl fun G B a w o hr hd hdN hc K QQ hK=>?_
 cases ho:o.op<;>rw[ho]at hc<;>simp only[X4,QlH]at hc;rename_i cl;split at hc
 case h_2=>cases hc
 rename_i o1 k' x y ts o2;cases o2;simp only[QlM,Qls]at hc;obtain⟨⟨⟨hk,hf⟩,hx⟩,hy⟩:=hc;subst hk;cases hfn:P.funcs[k]? with
 |none=>rw[hfn]at hf;cases hf
 |some fn=>
 rw[hfn]at hf;simp only[QlM,Qls]at hf;obtain⟨⟨hname,hor⟩,hbody⟩:=hf;have rs:=Qv hr hx;have rc:=Qv hr hy;rw[hs]at rs;rw[hb]at rc;have ev:a.eval x=.string ⟨⟨t⟩⟩:=by
  generalize a.eval x=v at rs;cases rs;rfl
 have ec:a.eval y=.int .u8 b:=by
  generalize a.eval y=v at rc;cases rc;rfl
 have hrun:(execOp a.eval o).run P w=.ok (.value (.int .i64 (Bq cnt t b))) w:=by
  cases cnt with
  |true=>
   have hname:fn.name = "internal/bytealg.CountString" := hname
   obtain⟨e1,e2⟩:=Qbo hname hor;have hcf:=run_callFunc_extern (P:=P) hfn (by rw[hname];decide) hbody e1 e2 #[.string ⟨⟨t⟩⟩,.int .u8 b] w;rw[Lib.run_countString]at hcf;simp only[execOp,ho,resolve,Act.eval,Deferred.ofValue,Sem.run_bind,Sem.run_pure,Result.andThen_ok,invoke];simp[ev,ec,hcf,Bq,Result.andThen]
  |false=>
   have hname:fn.name = "internal/bytealg.IndexByteString" := hname
   obtain⟨e1,e2⟩:=Qbp hname hor;have hcf:=run_callFunc_extern (P:=P) hfn (by rw[hname];decide) hbody e1 e2 #[.string ⟨⟨t⟩⟩,.int .u8 b] w;rw[Lib.run_indexByteString]at hcf;simp only[execOp,ho,resolve,Act.eval,Deferred.ofValue,Sem.run_bind,Sem.run_pure,Result.andThen_ok,invoke];simp[ev,ec,hcf,Bq,Result.andThen]
 unfold Oper.wp;rw[hrun];have hd':o.dst=d:=hd;show K (a.put o.dst _) _;rw[hd'];exact hK _ _ _ _ h (hr.put hdN (.int _ _)) (Ext.refl 1 G w)

theorem Qy.mkm {d:Option Nat}{s:Nat}{its:List Item}(hn:Zs st.m s=true)(h:Qy P N its { st with m:=Am.put st.m 0 s (.iter (.mp [] []) 0),f:=Ql st.f d (.mptr 0 s) } Q) :
  Qy P N (⟨d,.mkm s,none⟩ :: its) st Q:=by
 refine Qy.step rfl fun G B a w o hr hd hdN hc K QQ hK=>?_
 cases ho:o.op<;>rw[ho]at hc<;>simp only[X4,QlH]at hc;rename_i ty hint;cases hint with
 |some _=>cases hc
 |none=>
 obtain⟨hr',he⟩:=hr.freshO s hn (ob:=.iter (.mp [] []) 0) (x:=.map #[] 0) rfl (fun _ e=>kZ) (fun _ _ e=>by cases e;rfl);have hrun:(execOp a.eval o).run P w=.ok (.value (.map (some w.heap.size))) (w.alloc (.map #[] 0)):=by
  simp only[execOp,ho,Sem.run_bind,Option.map_none,show(Instr.makeMap ty none).run P w=.ok (.map (some w.heap.size)) (w.alloc (.map #[] 0))from rfl,Result.andThen_ok,Sem.run_pure]
 unfold Oper.wp;rw[hrun];have hd':o.dst=d:=hd;show K (a.put o.dst _) _;rw[hd'];refine hK _ _ _ _ h (hr'.put hdN (.mptr ?_)) he;show(if (0:Nat)=0∧s=s then some w.heap.size else G.nm 0 s)=some w.heap.size;simp

theorem Qy.mput {d:Option Nat}{tx:Bool}{x i v:RA}{its:List Item}{l s p:Nat}{ks:List MK}{vs:List AV}{k:MK}(hx:x.ev st.f=.mptr l s)(hl:Qc st.m l s=.iter (.mp ks vs) p)(hi:K5 tx (i.ev st.f)=some k)(hks:keys tx ks=true)(hg:(v.ev st.f).gr=true)(_hgs:AV.grL vs=true)(hlen:ks.length=vs.length)
  (h:Qy P N its { st with m:=Am.put st.m l s (.iter (.mp (Am.Zn k (v.ev st.f) ks vs).1 (Am.Zn k (v.ev st.f) ks vs).2) p),f:=Ql st.f d (.tup []) } Q) :
  Qy P N (⟨d,.mput tx x i v,none⟩ :: its) st Q:=by
 refine Qy.step rfl fun G B a w o hr hd hdN hc K QQ hK=>?_
 obtain⟨ty,ox,oi,ov,hc,hex⟩:∃ty ox oi ov,((((match P.underlying ty with|some (.map kt _)=>Cn P tx kt|_=>false)&&QM ox x)&&QM oi i)&&QM ov v)=true∧
   ∀w',(Instr.mapUpdate ty (a.eval ox) (a.eval oi) (a.eval ov)).run P w=.ok () w'→(execOp a.eval o).run P w=.ok .skip w':=by
  cases ho:o.op<;>rw[ho]at hc<;>simp only[X4,QlH]at hc
  ·exact yp
  ·exact yp
 simp only[QlM]at hc;obtain⟨⟨⟨hty,h1⟩,h2⟩,h3⟩:=hc;split at hty
 case h_2=>cases hty
 rename_i kt et hu;have r1:=Qv hr h1;have r2:=Qv hr h2;have r3:=Qv hr h3;rw[hx]at r1;obtain⟨hkt,ei⟩:=FF hi r2;obtain⟨b,hb,hh⟩:=hr.mr.iter l s (.mp ks vs) p hl;have ex:a.eval ox=.map (some b):=by
  generalize a.eval ox=u at r1;cases r1;rename_i b' hb';rw[hb]at hb';cases hb';rfl
 have ev:a.eval ov=(v.ev st.f).gv:=LO hg r3;have hrun:(execOp a.eval o).run P w=.ok .skip { w with heap:=w.heap.setIfInBounds b (IT.obj (.mp (Am.Zn k (v.ev st.f) ks vs).1 (Am.Zn k (v.ev st.f) ks vs).2) p) }:=by
  refine hex _ ?_;rw[ex,ei,ev];exact FG hkt hks hlen hu (NG hty) hh
 unfold Oper.wp;rw[hrun];have hd':o.dst=d:=hd;show K (a.put o.dst undef) _;rw[hd'];have hlt:b<w.heap.size:=(Qlt.1 hh).1;generalize hu':IT.mp (Am.Zn k (v.ev st.f) ks vs).1 (Am.Zn k (v.ev st.f) ks vs).2=u at *;have htn:Turned b w { w with heap:=w.heap.setIfInBounds b (u.obj p) } :=
  ⟨rfl,rfl,rfl,xA,fun k hk=>by
   show(w.heap.setIfInBounds b _)[k]? = _;rw[Array.getElem?_setIfInBounds_ne (fun e=>hk e.symm)]⟩
 have hnew:(w.heap.setIfInBounds b (u.obj p))[b]? = some (u.obj p):=by
  rw[Qlz,Qlv hlt]
 have hm:=hr.mr.moved (u:=u) hl hb htn hnew;have hr':Rel G B N { st with m:=Am.put st.m l s (.iter u p) } a { w with heap:=w.heap.setIfInBounds b (u.obj p) } :=
  ⟨hm,hr.size,hr.slots,hr.ds,hr.base,kX,Wi hr.ne⟩
 exact hK _ _ _ _ h (hr'.put hdN (v:=undef) (.tup .nil)) (Ext.turned htn (.inl ⟨l,s,hb⟩))

end

def Qh (P:Program)(k:FuncId)(args:List AV)(v:AV):Prop:=Fn? P k args (· = v)

def GC (P:Program)(d:Option Nat)(op:RO)(st:St)(K:St→Prop):Prop :=
 match op with
 |.val vo=>∃x,Qx st.f st.m vo=some x∧K { st with f:=Ql st.f d x }
 |.allocN s z=>Zs st.m s=true∧K { st with m:=Am.put st.m 0 s (.cells z),f:=Ql st.f d (.ptr 0 s 0) }
 |.boxN s r=>Zs st.m s=true∧(r.ev st.f).cells.all AV.leaf=true∧K { st with m:=Am.put st.m 0 s (.cells (r.ev st.f).cells),f:=Ql st.f d (.ptr 0 s 0) }
 |.store n p r=>(r.ev st.f).cells.length=n∧(r.ev st.f).cells.all AV.leaf=true∧∃m',Xp st.m (p.ev st.f) (r.ev st.f).cells=some m'∧K { st with m:=m',f:=Ql st.f d (.tup []) }
 |.app sz bytes el s r=>∃l site g n xs ys,s.ev st.f=.vec l site g 0 n false∧Qc st.m l site=.vec g sz xs∧Zk site el=true∧n≤xs.length∧Q1 st.m (r.ev st.f)=some ys∧ys.all (fun e=>e.cells.length==sz)=true∧n+ys.length≤maxLen∧(n+ys.length)*bytes≤140737488355328∧
   K { st with m:=Am.put st.m l site (.vec (g+1) sz (xs.take n++ys)),f:=Ql st.f d (.vec l site (g+1) 0 (n+ys.length) false) }
 |.storev l s n p r=>(∃o,p.ev st.f=.ptr l s o)∧(r.ev st.f).cells.length=n∧(r.ev st.f).cells.all AV.leaf=true∧∃m',Xp st.m (p.ev st.f) (r.ev st.f).cells=some m'∧K { st with m:=m',f:=Ql st.f d (.tup []) }
 |.call f args=>∃k fa fb ys v,f.ev st.f=.fn (.func k) fa fb∧AV.stillL false st.m (fa++args.map (RA.ev st.f)++fb)=some ys∧AV.rfL ys=true∧Qh P k ys v∧v.rf=true∧(AV.rfL (fa++args.map (RA.ev st.f)++fb)=true∨v.nl=true)∧K { st with f:=Ql st.f d v }
 |.callF f args=>∃k fa fb v m',f.ev st.f=.fn (.func k) fa fb∧Qe P k (fa++args.map (RA.ev st.f)++fb) st.m (fun x m=>x=v∧m=m')∧K { st with m:=m',f:=Ql st.f d v }
 |.callG f args=>∃k fa fb R,f.ev st.f=.fn (.func k) fa fb∧Qe P k (fa++args.map (RA.ev st.f)++fb) st.m R∧∀x m',R x m'→m'.length=st.m.length→K { st with m:=m',f:=Ql st.f d x }
 |.bsl sz len z ps=>∃y,fill st.f ps (X5 z sz len)=some y∧AV.rfL y=true∧y.all AV.leaf=true∧K { st with f:=Ql st.f d (.list (Zz sz len (y.map nn0))) }
 |.bslv site sz len z ps=>∃y,fill st.f ps (X5 z sz len)=some y∧AV.rfL y=true∧y.all AV.leaf=true∧Qn (Qc st.m 0 site)=true∧
   K { st with m:=Am.put st.m 0 site (.vec (Qz st.m 0 site) sz (Zz sz len (y.map nn0))),f:=Ql st.f d (.vec 0 site (Qz st.m 0 site) 0 len false) }
 |.bsl0 site sz=>Qn (Qc st.m 0 site)=true∧K { st with m:=Am.put st.m 0 site (.vec (Qz st.m 0 site) sz []),f:=Ql st.f d (.vec 0 site (Qz st.m 0 site) 0 0 false) }
 |.appc site sz bytes _ s r=>∃xs ys,s.ev st.f=.lcap xs∧Q1 st.m (r.ev st.f)=some ys∧ys≠[]∧xs.all (fun e=>e.cells.length==sz)=true∧ys.all (fun e=>e.cells.length==sz)=true∧xs.length+ys.length≤maxLen∧(xs.length+ys.length)*bytes≤140737488355328∧Qn (Qc st.m 0 site)=true∧
   K { st with m:=Am.put st.m 0 site (.vec (Qz st.m 0 site) sz (xs++ys)),f:=Ql st.f d (.vec 0 site (Qz st.m 0 site) 0 (xs.length+ys.length) false) }
 |.clr sz z r=>∃l s g o n q xs,r.ev st.f=.vec l s g o n q∧Qc st.m l s=.vec g sz xs∧o+n≤xs.length∧0<n∧K { st with m:=Am.put st.m l s (.vec g sz (xs.take o++List.replicate n (ZS sz z)++xs.drop (o+n))),f:=Ql st.f d (.tup []) }
 |.isnil neg r=>∃ys,Q1 st.m (r.ev st.f)=some ys∧(r.ev st.f≠.nils→K { st with f:=Ql st.f d (.bool neg) })∧((r.ev st.f=.nils∨QP ys=[])→K { st with f:=Ql st.f d (.bool (!neg)) })
 |.callK l s f args=>∃k fa fb v m',f.ev st.f=.fn (.func k) fa fb∧Qe P k (fa++args.map (RA.ev st.f)++fb) st.m (fun x m=>x=v∧m=m')∧Qc m' l s=Qc st.m l s∧K { st with m:=m',f:=Ql st.f d v }
 |.callO l s f args=>∃k fa fb g z xs v,f.ev st.f=.fn (.func k) fa fb∧Qc st.m l s=.vec g z xs∧(∀m',Qc m' l s=.vec g z xs→Qe P k (fa++args.map (RA.ev st.f)++fb) m' (fun x m=>x=v∧m=m'))∧K { st with f:=Ql st.f d v }
 |.xb cnt _ s c=>∃t b,s.ev st.f=.str t∧c.ev st.f=.int .u8 b∧K { st with f:=Ql st.f d (.int .i64 (Bq cnt t b)) }
 |.rngs s r=>∃t,r.ev st.f=.str t∧Zs st.m s=true∧K { st with m:=Am.put st.m 0 s (.iter (.str t) 0),f:=Ql st.f d (.ptr 0 s 0) }
 |.mkm s=>Zs st.m s=true∧K { st with m:=Am.put st.m 0 s (.iter (.mp [] []) 0),f:=Ql st.f d (.mptr 0 s) }
 |.mput tx x i v=>∃l s ks vs p k,x.ev st.f=.mptr l s∧Qc st.m l s=.iter (.mp ks vs) p∧K5 tx (i.ev st.f)=some k∧keys tx ks=true∧(v.ev st.f).gr=true∧AV.grL vs=true∧ks.length=vs.length∧K { st with m:=Am.put st.m l s (.iter (.mp (Zn k (v.ev st.f) ks vs).1 (Zn k (v.ev st.f) ks vs).2) p),f:=Ql st.f d (.tup []) }
 |.nxts r=>∃l s t p,r.ev st.f=.ptr l s 0∧Qc st.m l s=.iter (.str t) p∧
   (p<t.length→K { st with m:=Am.put st.m l s (.iter (.str t) (p+(X6 t p).2)),f:=Ql st.f d (.tup [.bool true,.int .i64 (p:Nat),.int .i32 ((X6 t p).1:Nat)]) })∧(t.length≤p→K { st with f:=Ql st.f d (.tup [.bool false]) })
 |.appS el s r=>∃l site g n xs t,s.ev st.f=.vec l site g 0 n false∧Qc st.m l site=.vec g 1 xs∧Zk site el=true∧n≤xs.length∧r.ev st.f=.str t∧n+t.length≤140737488355328∧
   K { st with m:=Am.put st.m l site (.vec (g+1) 1 (xs.take n++Qw t)),f:=Ql st.f d (.vec l site (g+1) 0 (n+t.length) false) }
 |.mk site _ sz bytes z l c=>∃(kl kc:IntKind) (n k:Nat),l.ev st.f=.int kl (n:Int)∧c.ev st.f=.int kc (k:Int)∧n≤k∧k≤9223372036854775807∧bytes*k≤281474976710656∧Qn (Qc st.m 0 site)=true∧
   K { st with m:=Am.put st.m 0 site (.vec (Qz st.m 0 site) sz (List.replicate n (ZS sz z))),f:=Ql st.f d (.vec 0 site (Qz st.m 0 site) 0 n false) }
 |.s2b site _ r=>∃s,r.ev st.f=.str s∧s.length≤9223372036854775807∧Qn (Qc st.m 0 site)=true∧
   K { st with m:=Am.put st.m 0 site (.vec (Qz st.m 0 site) 1 (Qw s)),f:=Ql st.f d (.vec 0 site (Qz st.m 0 site) 0 s.length false) }
 |.usd r=>∃l s g n sz xs,2000≤s∧r.ev st.f=.vec l s g 0 n false∧Qc st.m l s=.vec g sz xs∧K { st with f:=Ql st.f d (if n=0 then .anyp else .vptr l s g 0 0) }
 |.ustr el p r=>(p.ev st.f=.anyp∧r.ev st.f=.int .i64 0∧K { st with f:=Ql st.f d (.str []) })∨
   ∃l g n xs s,p.ev st.f=.vptr l (el+2000) g 0 0∧r.ev st.f=.int .i64 ((n:Nat):Int)∧Qc st.m l (el+2000)=.vec g 1 xs∧n≤xs.length∧n≠0∧xs.take n=Qw s∧K { st with m:=Am.put st.m l (el+2000) (.vec (g+1) 1 []),f:=Ql st.f d (.str s) }

def ZQ (P:Program)(it:Item)(st:St)(K:St→Prop):Prop :=
 match it.g with
 |none=>GC P it.dst it.op st K
 |some (j,want)=>match st.f j with
  |.bool b=>(b=want→GC P it.dst it.op st K)∧(b=(!want)→K { st with f:=Ql st.f it.dst (.tup []) })
  |.tup l=>l=[]∧K { st with f:=Ql st.f it.dst (.tup []) }
  |_=>False

def QD (P:Program):List Item→St→(St→Prop)→Prop
 | [],st,K=>K st
 |it :: its,st,K=>ZQ P it st fun st'=>QD P its st' K

section
variable {P:Program}{N:Nat}

theorem TK {d:Option Nat}{op:RO}{its:List Item}{st:St}{Q:St→Prop}(h:GC P d op st fun st'=>Qy P N its st' Q):Qy P N (⟨d,op,none⟩ :: its) st Q:=by
 cases op with
 |val vo=>obtain⟨x,hx,h⟩:=h;exact .val hx h
 |allocN s z=>exact .allocN h.1 h.2
 |boxN s r=>exact .boxN h.1 h.2.1 h.2.2
 |store n p r=>obtain⟨h1,h2,m',h3,h⟩:=h;exact .store h1 h2 h3 h
 |app sz bytes el s r=>obtain⟨l,site,g,n,xs,ys,h1,h2,ht,h3,h4,h5,h6,h7,h⟩:=h;exact .app h1 h2 ht h3 h4 h5 h6 h7 h
 |appS el s r=>obtain⟨l,site,g,n,xs,t,h1,h2,ht,h3,h4,h5,h⟩:=h;exact .appS h1 h2 ht h3 h4 h5 h
 |mk site el sz bytes z l c=>obtain⟨kl,kc,n,k,h1,h2,h3,h4,h5,h6,h⟩:=h;exact .mk h1 h2 h3 h4 h5 h6 h
 |s2b site el r=>obtain⟨s,h1,h2,h3,h⟩:=h;exact .s2b h1 h2 h3 h
 |usd r=>obtain⟨l,s,g,n,sz,xs,h0,h1,h2,h⟩:=h;exact .usd h0 h1 h2 h
 |ustr el p r=>
  rcases h with⟨h1,h2,h⟩|⟨l,g,n,xs,s,h1,h2,h3,h4,h5,h6,h⟩
  ·exact .ustr0 h1 h2 h
  ·exact .ustr h1 h2 h3 h4 h5 h6 h
 |storev l s n p r=>obtain⟨_,h1,h2,m',h3,h⟩:=h;exact .same (ro:=.store n p r) (fun _=>rfl) (.store h1 h2 h3 h)
 |call f args=>
  obtain⟨k,fa,fb,ys,v,hf,h1,h2,h3,h4,h5,h⟩:=h;exact .callPure hf h1 h2 h3 (fun x hx=>by subst hx;exact⟨h4,h5⟩) fun x hx=>by subst hx;exact h
 |callF f args=>
  obtain⟨k,fa,fb,v,m',hf,h1,h⟩:=h;exact .same (ro:=.call f args) (fun _=>rfl) (.callFull hf h1 fun x m hx _=>qZ)
 |callG f args=>
  obtain⟨k,fa,fb,R,hf,h1,h⟩:=h;exact .same (ro:=.call f args) (fun _=>rfl) (.callFull hf h1 h)
 |bsl sz len z ps=>obtain⟨y,h1,h2,h3,h⟩:=h;exact .bsl h1 h2 h3 h
 |bslv site sz len z ps=>obtain⟨y,h1,h2,h3,h4,h⟩:=h;exact .bslv h1 h2 h3 h4 h
 |bsl0 site sz=>exact .bsl0 h.1 h.2
 |clr sz z r=>obtain⟨l,s,g,o,n,q,xs,h1,h2,h3,h4,h⟩:=h;exact .clr h1 h2 h3 h4 h
 |isnil neg r=>obtain⟨ys,h1,h2,h3⟩:=h;exact .isnil h1 h2 h3
 |appc site sz bytes el s r=>obtain⟨xs,ys,h1,h2,h3,h4,h5,h6,h7,h8,h⟩:=h;exact .appc h1 h2 h3 h4 h5 h6 h7 h8 h
 |callK l s f args=>
  obtain⟨k,fa,fb,v,m',hf,h1,_,h⟩:=h;exact .same (ro:=.call f args) (fun _=>rfl) (.callFull hf h1 fun x m hx _=>qZ)
 |callO l s f args=>
  obtain⟨k,fa,fb,g,z,xs,v,hf,hl,h1,h⟩:=h;exact .same (ro:=.call f args) (fun _=>rfl) (.callFull hf (h1 _ hl) fun x m hx _=>qZ)
 |xb cnt k s c=>obtain⟨t,b,h1,h2,h⟩:=h;exact .xb h1 h2 h
 |rngs s r=>obtain⟨t,h1,h2,h⟩:=h;exact .rngs h1 h2 h
 |nxts r=>obtain⟨l,s,t,p,h1,h2,h3,h4⟩:=h;exact .nxts h1 h2 h3 h4
 |mkm s=>obtain⟨h1,h⟩:=h;exact .mkm h1 h
 |mput tx x i v=>obtain⟨l,s,ks,vs,p,k,h1,h2,h3,h7,h4,h5,h6,h⟩:=h;exact .mput h1 h2 h3 h7 h4 h5 h6 h

theorem CB {it:Item}{its:List Item}{st:St}{Q:St→Prop}(h:ZQ P it st fun st'=>Qy P N its st' Q):Qy P N (it :: its) st Q:=by
 obtain⟨d,op,g⟩:=it;cases g with
 |none=>exact TK h
 |some p=>
  obtain⟨j,want⟩:=p;simp only[ZQ]at h;split at h
  ·rename_i b hj;by_cases hb:b=want
   ·subst hb;exact .yes hj (TK (h.1 rfl))
   ·have hb':b=!want:=by cases b<;>cases want<;>first|rfl|exact absurd rfl hb
    subst hb';exact .no (.inl hj) (h.2 rfl)
  ·rename_i l hj;obtain⟨rfl,h⟩:=h;exact .no (.inr hj) h
  ·exact h.elim

theorem CC {d:Option Nat}{op:RO}{st:St}{K K':St→Prop}(hk:∀s,K s→K' s)(h:GC P d op st K):GC P d op st K':=by
 cases op<;>simp only[GC]at h ⊢
 case val=>obtain⟨x,a,b⟩:=h;exact⟨x,a,hk _ b⟩
 case allocN=>exact⟨h.1,hk _ h.2⟩
 case boxN=>exact⟨h.1,h.2.1,hk _ h.2.2⟩
 case store=>obtain⟨h1,h2,m',h3,h⟩:=h;exact⟨h1,h2,m',h3,hk _ h⟩
 case app=>obtain⟨l,site,g,n,xs,ys,h1,h2,ht,h3,h4,h5,h6,h7,h⟩:=h;exact⟨l,site,g,n,xs,ys,h1,h2,ht,h3,h4,h5,h6,h7,hk _ h⟩
 case appS=>obtain⟨l,site,g,n,xs,t,h1,h2,ht,h3,h4,h5,h⟩:=h;exact⟨l,site,g,n,xs,t,h1,h2,ht,h3,h4,h5,hk _ h⟩
 case mk=>obtain⟨kl,kc,n,k,h1,h2,h3,h4,h5,h6,h⟩:=h;exact⟨kl,kc,n,k,h1,h2,h3,h4,h5,h6,hk _ h⟩
 case s2b=>obtain⟨s,h1,h2,h3,h⟩:=h;exact⟨s,h1,h2,h3,hk _ h⟩
 case usd=>obtain⟨l,s,g,n,sz,xs,h0,h1,h2,h⟩:=h;exact⟨l,s,g,n,sz,xs,h0,h1,h2,hk _ h⟩
 case ustr=>
  rcases h with⟨h1,h2,h⟩|⟨l,g,n,xs,s,h1,h2,h3,h4,h5,h6,h⟩
  ·exact .inl ⟨h1,h2,hk _ h⟩
  ·exact .inr ⟨l,g,n,xs,s,h1,h2,h3,h4,h5,h6,hk _ h⟩
 case bsl=>obtain⟨y,h1,h2,h3,h⟩:=h;exact⟨y,h1,h2,h3,hk _ h⟩
 case bslv=>obtain⟨y,h1,h2,h3,h4,h⟩:=h;exact⟨y,h1,h2,h3,h4,hk _ h⟩
 case bsl0=>exact⟨h.1,hk _ h.2⟩
 case clr=>obtain⟨l,s,g,o,n,q,xs,h1,h2,h3,h4,h⟩:=h;exact⟨l,s,g,o,n,q,xs,h1,h2,h3,h4,hk _ h⟩
 case appc=>obtain⟨xs,ys,h1,h2,h3,h4,h5,h6,h7,h8,h⟩:=h;exact⟨xs,ys,h1,h2,h3,h4,h5,h6,h7,h8,hk _ h⟩
 case isnil=>obtain⟨ys,h1,h2,h3⟩:=h;exact⟨ys,h1,fun e=>hk _ (h2 e),fun e=>hk _ (h3 e)⟩
 case callK=>obtain⟨k,fa,fb,v,m',hf,h1,h2,h⟩:=h;exact⟨k,fa,fb,v,m',hf,h1,h2,hk _ h⟩
 case callO=>obtain⟨k,fa,fb,g,z,xs,v,hf,hl,h1,h⟩:=h;exact⟨k,fa,fb,g,z,xs,v,hf,hl,h1,hk _ h⟩
 case xb=>obtain⟨t,b,h1,h2,h⟩:=h;exact⟨t,b,h1,h2,hk _ h⟩
 case rngs=>obtain⟨t,h1,h2,h⟩:=h;exact⟨t,h1,h2,hk _ h⟩
 case mkm=>obtain⟨h1,h⟩:=h;exact⟨h1,hk _ h⟩
 case mput=>obtain⟨l,s,ks,vs,p,k,h1,h2,h3,h7,h4,h5,h6,h⟩:=h;exact⟨l,s,ks,vs,p,k,h1,h2,h3,h7,h4,h5,h6,hk _ h⟩
 case nxts=>obtain⟨l,s,t,p,h1,h2,h3,h4⟩:=h;exact⟨l,s,t,p,h1,h2,fun e=>hk _ (h3 e),fun e=>hk _ (h4 e)⟩
 case storev=>obtain⟨h0,h1,h2,m',h3,h⟩:=h;exact⟨h0,h1,h2,m',h3,hk _ h⟩
 case call=>obtain⟨k,fa,fb,ys,v,hf,h1,h2,h3,h4,h5,h⟩:=h;exact⟨k,fa,fb,ys,v,hf,h1,h2,h3,h4,h5,hk _ h⟩
 case callF=>obtain⟨k,fa,fb,v,m',hf,h1,h⟩:=h;exact⟨k,fa,fb,v,m',hf,h1,hk _ h⟩
 case callG=>obtain⟨k,fa,fb,R,hf,h1,h⟩:=h;exact⟨k,fa,fb,R,hf,h1,fun x m' hr hl=>hk _ (h x m' hr hl)⟩

theorem HQ {it:Item}{st:St}{K K':St→Prop}(hk:∀s,K s→K' s)(h:ZQ P it st K):ZQ P it st K':=by
 unfold ZQ at h ⊢;split at h
 ·exact CC hk h
 ·split at h
  ·exact⟨fun e=>CC hk (h.1 e),fun e=>hk _ (h.2 e)⟩
  ·exact⟨h.1,hk _ h.2⟩
  ·exact h.elim

theorem P5:∀ {its:List Item} {st:St} {Q:St→Prop},QD P its st Q→Qy P N its st Q
 | [],_,_,h=>.nil h
 |_ :: _,_,_,h=>CB (HQ (fun _ hs=>P5 hs) h)

end

inductive GO where
 |vec (slot site sz:Nat)
 |drop (s:Nat)
 |vecc (s idx site sz:Nat)
 |pub (slot site:Nat)
 |give (slot site l S:Nat)
 |lst (slot:Nat)

def JL (g:GO)(st:St):Option St :=
 match g with
 |.vec slot site sz=>match st.f slot with
  |.nils=>bif Qn (Qc st.m 0 site)then some { st with m:=Am.put st.m 0 site (.vec (Qz st.m 0 site) sz []),f:=QJ st.f slot (.vec 0 site (Qz st.m 0 site) 0 0 false) } else none
  |_=>none
 |.drop s=>bif HK st.m s then some (st.drop s)else none
 |.vecc s idx site sz=>match Qc st.m 0 s with
  |.cells xs=>match xs[idx]? with
   |some .nils=>bif Qn (Qc st.m 0 site) && !(Nat.beq site s)then some { st with m:=Am.put (Am.put st.m 0 site (.vec (Qz st.m 0 site) sz [])) 0 s (.cells (xs.set idx (.vec 0 site (Qz st.m 0 site) 0 0 false))) } else none
   |some _=>some st
   |none=>none
  |_=>none
 |.pub slot site=>match st.f slot with
  |.vec 0 s' g o n _=>match Qc st.m 0 site with
   |.vec g' sz xs=>bif Nat.beq s' site&&Nat.beq g g'&&Nat.ble (o+n) xs.length then some { st with m:=Am.put st.m 0 site (.vec (g+1) sz []),f:=QJ st.f slot (.list ((xs.drop o).take n)) } else none
   |_=>none
  |.list _=>some st
  |_=>none
 |.give slot site l S=>match st.f slot with
  |.vec 0 s' g o n q=>match Qc st.m 0 site with
   |.vec g' sz xs=>bif Nat.beq s' site&&Nat.beq g g'&&Nat.blt l st.m.length && !(Nat.beq l 0)&&Qn (Qc st.m l S)&&Nat.blt S 2000 then some { st with m:=Am.put (Am.put st.m 0 site (.vec (g+1) sz [])) l S (.vec (Qz st.m l S) sz xs),f:=QJ st.f slot (.vec l S (Qz st.m l S) o n q) } else none
   |_=>none
  |_=>none
 |.lst slot=>match st.f slot with
  |.nils=>some { st with f:=QJ st.f slot (.list []) }
  |.list l=>some { st with f:=QJ st.f slot (.list l) }
  |_=>none

inductive RC where
 |skip
 |reg (its:List Item)
 |draw (its:List Item)
 |seq (a b:RC)
 |cond (c:RA) (a b:RC)
 |block (id:Nat) (a:RC)
 |loop (a:RC)
 |exit (id:Nat)
 |scope (a:RC)
 |lab
 |ret
 |gho (g:GO) (a:RC)
 |no
 |goto (l:Nat)
 |jump (l:Nat) (a b:RC)

def Ks (f:St→Prop)(Q:Exit→St→Prop):Exit→St→Prop
 |.normal,st=>f st
 |e,st=>Q e st
def Kb (id:Nat)(Q:Exit→St→Prop):Exit→St→Prop
 |.exit i,st=>if i=id then Q .normal st else Q (.exit i) st
 |e,st=>Q e st
def Kg (Q:Exit→St→Prop):Exit→St→Prop
 |.goto _,_=>False
 |e,st=>Q e st

def Kj (l:Nat)(J:St→Prop)(Q:Exit→St→Prop):Exit→St→Prop
 |.goto i,st=>i=l∧J st
 |e,st=>Q e st

def QU (P:Program):RC→St→(Exit→St→Prop)→Prop
 |.skip,st,Q=>Q .normal st
 |.reg its,st,Q=>QD P its st (Q .normal)
 |.draw its,st,Q=>QD P its st (Q .normal)
 |.seq a b,st,Q=>QU P a st (Ks (fun st'=>QU P b st' Q) Q)
 |.cond c a b,st,Q=>∃t,c.ev st.f=.bool t∧(t=true→QU P a st Q)∧(t=false→QU P b st Q)
 |.block id a,st,Q=>QU P a st (Kb id Q)
 |.loop a,st,Q=>∃(I:Nat→St→Prop) (n:Nat),I n st∧∀n st',I n st'→QU P a st' (Ks (fun s=>∃k,k<n∧I k s) Q)
 |.exit id,st,Q=>Q (.exit id) st
 |.scope a,st,Q=>QU P a st (Kg Q)
 |.lab,st,Q=>Q .normal st
 |.ret,st,Q=>Q .ret st
 |.gho g a,st,Q=>∃st',JL g st=some st'∧QU P a st' Q
 |.no,_,_=>False
 |.goto l,st,Q=>Q (.goto l) st
 |.jump l a b,st,Q=>∃I:Nat→St→Prop,QU P a st (Kj l (fun s=>∃n,I n s) Q)∧∀n st',I n st'→QU P b st' (Kj l (fun s=>∃k,k<n∧I k s) Q)

theorem GM {G:Gh}{f:Fr}{a:Act}(hs:∀i,Rep G (f i) (a.tmps.getD i undef)){d:Nat}{x:AV}(hx:Rep G x (a.tmps.getD d undef)):∀i,Rep G (QJ f d x i) (a.tmps.getD i undef):=by
 intro i;by_cases hi:i=d
 ·subst hi;rw[QZ];exact hx
 ·rw[Q6 _ _ hi];exact hs i

theorem Ij {G:Gh}{B N:Nat}{st st':St}{a:Act}{w:World}(h:Rel G B N st a w){g:GO}(hg:JL g st=some st'):∃G',Rel G' B N st' a w∧Ext 1 G w G' w:=by
 cases g with
 |vec slot site sz=>
  simp only[JL]at hg;split at hg
  ·rename_i hn;cases hro:Qn (Qc st.m 0 site)with
   |false=>rw[hro]at hg;cases hg
   |true=>
    rw[hro]at hg;simp only[cond_true,QlP]at hg;subst hg;have hl:0<st.m.length:=QmL.2 h.ne;obtain⟨h1,h2⟩:=h.vecput (w':=w) (sz:=sz) (cap:=0) (b:=none) (ys:=[]) hl hro (J3 h.mr hro) rfl rfl rfl (Qlk _) (fun _ _ _=>rfl) (fun k e=>kZ) ⟨xA,rfl,rfl⟩ (.inl ⟨rfl,rfl⟩);refine⟨_,⟨h1.mr,h1.size,GM h1.slots ?_,h1.ds,h1.base,h1.top,h1.ne⟩,h2⟩;have hs:=h.slots slot;rw[hn]at hs;generalize a.tmps.getD slot undef=v at hs;cases hs;exact .vec rfl (Ql8 j4) fun _=>.inl ⟨j4,rfl,rfl,none,rfl,fun _=>rfl⟩
  ·cases hg
 |drop s=>
  simp only[JL]at hg;cases hro:HK st.m s with
  |false=>rw[hro]at hg;cases hg
  |true=>
   rw[hro]at hg;simp only[cond_true,QlP]at hg;subst hg;exact⟨_,h.drop s hro⟩
 |vecc s idx site sz=>
  simp only[JL]at hg;split at hg
  ·rename_i xs hlk;split at hg
   ·rename_i hn;cases hro:(Qn (Qc st.m 0 site) && !(Nat.beq site s))with
    |false=>rw[hro]at hg;cases hg
    |true=>
     rw[hro]at hg;simp only[cond_true,QlP]at hg;subst hg;rw[QlM]at hro;have hne:s≠site:=fun e=>by
      have h2:=hro.2;rw[e]at h2;simp at h2
     have hl:0<st.m.length:=QmL.2 h.ne;obtain⟨h1,h2⟩:=h.vecput (w':=w) (sz:=sz) (cap:=0) (b:=none) (ys:=[]) hl hro.1 (J3 h.mr hro.1) rfl rfl rfl (Qlk _) (fun _ _ _=>rfl) (fun k e=>kZ) ⟨xA,rfl,rfl⟩ (.inl ⟨rfl,rfl⟩);have hlk':Qc (Am.put st.m 0 site (.vec (Qz st.m 0 site) sz [])) 0 s=.cells xs:=by
      rw[QE (.inr hne)];exact hlk
     obtain⟨b,cs,hb,hsoft,hrep⟩:=h1.mr.cells 0 s xs hlk';obtain⟨v,hv,hr⟩:=hrep.at_ hn;have hvn:v=.slice none 0 0:=by cases hr;rfl
     subst hvn;have hset:cs.toList.set idx (.slice none 0 0)=cs.toList:=by
      obtain⟨hi,he⟩:=Qlm.1 hv;rw[←he,List.set_getElem_self]
     have hrep':=hrep.set idx (x:=.vec 0 site (Qz st.m 0 site) 0 0 false) (v:=.slice none 0 0) (.vec rfl (Ql8 (by simp[Gh.row,Gh.dn])) fun _=>.inl ⟨by simp[Gh.row,Gh.dn],rfl,rfl,none,rfl,fun _=>rfl⟩);rw[hset]at hrep';exact⟨_,⟨h1.mr.stored hlk' hb (Turned.refl b w) hsoft hrep',h1.size,h1.slots,h1.ds,h1.base,h1.top,Wi h1.ne⟩,h2⟩
   ·cases hg;exact⟨G,h,Ext.refl 1 G w⟩
   ·cases hg
  ·cases hg
 |pub slot site=>
  simp only[JL]at hg;split at hg
  ·rename_i s' g o n q hs;split at hg
   ·rename_i g' sz xs hlk;cases hb:(Nat.beq s' site&&Nat.beq g g'&&Nat.ble (o+n) xs.length)with
    |false=>rw[hb]at hg;cases hg
    |true=>
     rw[hb]at hg;simp only[cond_true,QlP]at hg;subst hg;simp only[QlM]at hb;obtain⟨⟨b1,b2⟩,b3⟩:=hb;have e1:=Qli b1;have e2:=Qli b2;subst e1 e2;exact h.publish hs hlk (QmT b3)
   ·cases hg
  ·cases hg;exact⟨G,h,Ext.refl 1 G w⟩
  ·cases hg
 |give slot site l S=>
  simp only[JL]at hg;split at hg
  ·rename_i s' g o n q hs;split at hg
   ·rename_i g' sz xs hlk;cases hb:(Nat.beq s' site&&Nat.beq g g'&&Nat.blt l st.m.length && !(Nat.beq l 0)&&Qn (Qc st.m l S)&&Nat.blt S 2000)with
    |false=>rw[hb]at hg;cases hg
    |true=>
     rw[hb]at hg;simp only[cond_true,QlP]at hg;subst hg;simp only[QlM]at hb;obtain⟨⟨⟨⟨⟨b1,b2⟩,b3⟩,b4⟩,b5⟩,b6⟩:=hb;have e1:=Qli b1;have e2:=Qli b2;subst e1 e2;have b4':l≠0:=fun e=>by rw[e]at b4;simp at b4
     exact h.give hs hlk (QmT b3) b4' b5 (QmT b6)
   ·cases hg
  ·cases hg
 |lst slot=>
  simp only[JL]at hg;split at hg
  ·rename_i hs;cases hg;refine⟨G,⟨h.mr,h.size,GM h.slots ?_,h.ds,h.base,h.top,h.ne⟩,Ext.refl 1 G w⟩;have hr:=h.slots slot;rw[hs]at hr;exact hr.nn0
  ·rename_i l hs;cases hg;refine⟨G,⟨h.mr,h.size,GM h.slots ?_,h.ds,h.base,h.top,h.ne⟩,Ext.refl 1 G w⟩;have hr:=h.slots slot;rw[hs]at hr;exact hr
  ·cases hg

def RA.sl:RA→List Nat
 |.t n=>[n]
 |_=>[]
def CD:Option RA→List Nat
 |some r=>r.sl
 |none=>[]
def VO.sl:VO→List Nat
 |.mov x=>x.sl
 |.pick c a b=>c.sl++(a.sl++b.sl)
 |.build _ ps=>ps.flatMap fun p=>p.2.2.sl
 |.load _ x=>x.sl
 |.loadv _ _ _ x=>x.sl
 |.loado _ x=>x.sl
 |.loadr _ x=>x.sl
 |.nilck x=>x.sl
 |.un _ x=>x.sl
 |.cvi _ x=>x.sl
 |.b2s x=>x.sl
 |.faddr _ x=>x.sl
 |.fld _ _ x=>x.sl
 |.ext x _=>x.sl
 |.len _ x=>x.sl
 |.bin _ _ x y=>x.sl++y.sl
 |.eqs _ _ x y=>x.sl++y.sl
 |.iaddr _ _ x y=>x.sl++y.sl
 |.idx x y=>x.sl++y.sl
 |.mnx _ x y=>x.sl++y.sl
 |.slc _ x lo hi mx=>x.sl++(CD lo++(CD hi++CD mx))
 |.slcl x hi mx=>x.sl++(hi.sl++mx.sl)
 |.slcp _ x lo hi mx=>x.sl++(CD lo++(CD hi++CD mx))
 |.mkfn _ a b=>a.flatMap RA.sl++b.flatMap RA.sl
 |.toU x=>x.sl
 |.ofU _ _ x=>x.sl
 |.same x=>x.sl
 |.mget _ _ _ x y=>x.sl++y.sl
 |.mgetp _ _ _ x y=>x.sl++y.sl
 |.mki _ x=>x.sl
 |.tas _ _ _ x=>x.sl
def RO.sl:RO→List Nat
 |.val v=>v.sl
 |.allocN _ _=>[]
 |.boxN _ r=>r.sl
 |.store _ p r=>p.sl++r.sl
 |.storev _ _ _ p r=>p.sl++r.sl
 |.app _ _ _ s r=>s.sl++r.sl
 |.appS _ s r=>s.sl++r.sl
 |.mk _ _ _ _ _ l c=>l.sl++c.sl
 |.s2b _ _ r=>r.sl
 |.usd r=>r.sl
 |.ustr _ p r=>p.sl++r.sl
 |.bsl _ _ _ ps=>ps.flatMap fun p=>p.2.2.sl
 |.call f rs=>f.sl++rs.flatMap RA.sl
 |.callF f rs=>f.sl++rs.flatMap RA.sl
 |.bslv _ _ _ _ ps=>ps.flatMap fun p=>p.2.2.sl
 |.bsl0 _ _=>[]
 |.clr _ _ r=>r.sl
 |.isnil _ x=>x.sl
 |.appc _ _ _ _ s r=>s.sl++r.sl
 |.callG f rs=>f.sl++rs.flatMap RA.sl
 |.xb _ _ s c=>s.sl++c.sl
 |.callK _ _ f rs=>f.sl++rs.flatMap RA.sl
 |.callO _ _ f rs=>f.sl++rs.flatMap RA.sl
 |.rngs _ r=>r.sl
 |.nxts r=>r.sl
 |.mkm _=>[]
 |.mput _ x y z=>x.sl++(y.sl++z.sl)
def Item.sl (it:Item):List Nat:=it.op.sl++(match it.g with|some (j,_)=>[j]|none=>[])

def JG (l:List Nat)(f f':Fr):Prop:=∀t,t∈l→f t=f' t
theorem JG.left {a b:List Nat}{f f':Fr}(h:JG (a++b) f f'):JG a f f':=fun t ht=>h t (List.mem_append_left _ ht)
theorem JG.right {a b:List Nat}{f f':Fr}(h:JG (a++b) f f'):JG b f f':=fun t ht=>h t (List.mem_append_right _ ht)

theorem RA.ev_same {r:RA}{f f':Fr}(h:JG r.sl f f'):r.ev f=r.ev f':=by
 cases r with
 |t n=>exact h n (by simp[RA.sl])
 |c x=>rfl
 |f k=>rfl
 |g k l=>rfl

theorem Wt:∀ {rs:List RA} {f f':Fr},JG (rs.flatMap RA.sl) f f'→rs.map (RA.ev f)=rs.map (RA.ev f')
 | [],_,_,_=>rfl
 |r :: rs,f,f',h=>by
  rw[QmU]at h;rw[QlW,QlW,RA.ev_same h.left,Wt h.right]

theorem UT {f f':Fr}:∀ {ps:List (Nat×Nat×RA)} {z:List AV},JG (ps.flatMap fun p=>p.2.2.sl) f f'→fill f ps z=fill f' ps z
 | [],_,_=>rfl
 |(o,n,r) :: ps,z,h=>by
  rw[QmU]at h;simp only[fill,RA.ev_same h.left,UT h.right]

theorem Ym {f f':Fr}{d:Nat}{r:Option RA}(h:JG (CD r) f f'):Js f d r=Js f' d r:=by
 cases r with
 |none=>rfl
 |some r=>simp only[Js,RA.ev_same (r:=r) h]

theorem Ik {f f':Fr}{m:Qk}{vo:VO}(h:JG vo.sl f f'):Qx f m vo=Qx f' m vo:=by
 cases vo with
 |mov x=>simp only[Qx,RA.ev_same (r:=x) h]
 |pick c a b=>simp only[Qx,RA.ev_same (r:=c) h.left,RA.ev_same (r:=a) h.right.left,RA.ev_same (r:=b) h.right.right]
 |build z ps=>simp only[Qx,UT (ps:=ps) h]
 |load k x=>simp only[Qx,RA.ev_same (r:=x) h]
 |loadv l s k x=>simp only[Qx,RA.ev_same (r:=x) h]
 |loado k x=>simp only[Qx,RA.ev_same (r:=x) h]
 |loadr k x=>simp only[Qx,RA.ev_same (r:=x) h]
 |nilck x=>simp only[Qx,RA.ev_same (r:=x) h]
 |un o x=>simp only[Qx,RA.ev_same (r:=x) h]
 |cvi k x=>simp only[Qx,RA.ev_same (r:=x) h]
 |b2s x=>simp only[Qx,RA.ev_same (r:=x) h]
 |faddr o x=>simp only[Qx,RA.ev_same (r:=x) h]
 |fld o k x=>simp only[Qx,RA.ev_same (r:=x) h]
 |ext x i=>simp only[Qx,RA.ev_same (r:=x) h]
 |toU x=>simp only[Qx,RA.ev_same (r:=x) h]
 |ofU t n x=>simp only[Qx,RA.ev_same (r:=x) h]
 |same x=>simp only[Qx,RA.ev_same (r:=x) h]
 |len k x=>simp only[Qx,RA.ev_same (r:=x) h]
 |bin t o x y=>simp only[Qx,RA.ev_same (r:=x) h.left,RA.ev_same (r:=y) h.right]
 |eqs n ks x y=>simp only[Qx,RA.ev_same (r:=x) h.left,RA.ev_same (r:=y) h.right]
 |iaddr sz len x y=>simp only[Qx,RA.ev_same (r:=x) h.left,RA.ev_same (r:=y) h.right]
 |idx x y=>simp only[Qx,RA.ev_same (r:=x) h.left,RA.ev_same (r:=y) h.right]
 |mget tx ok z x y=>simp only[Qx,RA.ev_same (r:=x) h.left,RA.ev_same (r:=y) h.right]
 |mgetp tx ok z x y=>simp only[Qx,RA.ev_same (r:=x) h.left,RA.ev_same (r:=y) h.right]
 |mki t x=>simp only[Qx,RA.ev_same (r:=x) h]
 |tas t ok z x=>simp only[Qx,RA.ev_same (r:=x) h]
 |mnx b x y=>simp only[Qx,RA.ev_same (r:=x) h.left,RA.ev_same (r:=y) h.right]
 |slc sz x lo hi mx=>
  have h1:=h.right.left;have h2:=h.right.right.left;have h3:=h.right.right.right;simp only[Qx,RA.ev_same (r:=x) h.left,Ym (r:=lo) h1,Ym (r:=hi) h2];cases mx with
  |none=>rfl
  |some r=>simp only[Ym (r:=some r) h3]
 |slcp sz x lo hi mx=>
  have h1:=h.right.left;have h2:=h.right.right.left;have h3:=h.right.right.right;simp only[Qx,RA.ev_same (r:=x) h.left,Ym (r:=lo) h1,Ym (r:=hi) h2];cases mx with
  |none=>rfl
  |some r=>simp only[Ym (r:=some r) h3]
 |mkfn fn a b=>simp only[Qx,Wt (rs:=a) h.left,Wt (rs:=b) h.right]
 |slcl x hi mx=>simp only[Qx,RA.ev_same (r:=x) h.left,RA.ev_same (r:=hi) h.right.left,RA.ev_same (r:=mx) h.right.right]

inductive MC where
 |no
 |shape
 |rows
 |cell (l s:Nat)
 |outer
 |all
 deriving DecidableEq

def VO.mc:VO→MC
 |.load _ _=>.all
 |.loadv l s _ _=>.cell l s
 |.loado _ _=>.outer
 |.loadr _ _=>.rows
 |.b2s _=>.rows
 |.nilck _=>.shape
 |.faddr _ _=>.shape
 |.len _ _=>.shape
 |.slc .. => .shape
 |.iaddr .. => .shape
 |.toU _=>.all
 |.ofU .. => .all
 |.mget .. => .all
 |_=>.no

def Ob.sh:Ob→Option (Nat×Nat)
 |.vec g z _=>some (g,z)
 |_=>Option.none
def Ob.row:Ob→Option (Nat×Nat×List AV)
 |.vec g z xs=>some (g,z,xs)
 |_=>Option.none

def XU:MC→Qk→Qk→Prop
 |.no,_,_=>True
 |.shape,m,m'=>∀l s,(Qc m l s).sh=(Qc m' l s).sh
 |.rows,m,m'=>∀l s,(Qc m l s).row=(Qc m' l s).row
 |.cell l s,m,m'=>Qc m l s=Qc m' l s∨((Qc m l s).isRow=true∧(Qc m' l s).isRow=true)
 |.outer,m,m'=>∀l s,Qc m (l+1) s=Qc m' (l+1) s
 |.all,m,m'=>m=m'

theorem XU.refl (c:MC)(m:Qk):XU c m m:=by
 cases c<;>simp[XU]

theorem GN {m m':Qk}{l s:Nat}(h:(Qc m l s).sh=(Qc m' l s).sh):YT m l s=YT m' l s:=by
 unfold YT;exact zT

theorem Sp {m m':Qk}(h:XU .rows m m')(x:AV):Q1 m x=Q1 m' x:=by
 cases x with
 |vec l s g o n q=>
  have h:=h l s;simp only[Q1];exact xa
 |_=>rfl

theorem CE {m m':Qk}(h:XU .shape m m')(sz:Option Nat)(x:AV)(lo hi:Nat)(mx:Option Nat):Xo m sz x lo hi mx=Xo m' sz x lo hi mx:=by
 cases sz with
 |none=>rfl
 |some z=>
  cases x with
  |vec l s g o n q=>
   have h:=h l s;simp only[Xo];exact zT
  |_=>rfl

theorem CF {m m':Qk}(h:XU .shape m m')(sz:Nat)(len:Option Nat)(x:AV)(i:Int):Qf m sz len x i=Qf m' sz len x i:=by
 unfold Qf;cases len with
 |none=>
  cases x with
  |vec l s g o n q=>
   have h:=h l s;simp only;exact zT
  |_=>rfl
 |some k=>rfl

def Il (F:Nat→List AV→Option AV):Ob→Option AV
 |.vec g _ xs=>F g xs
 |_=>none

theorem TL {o o':Ob}(h:o.row=o'.row)(F:Nat→List AV→Option AV):Il F o=Il F o':=by
  cases o<;>cases o'<;>simp only[Ob.row,QlP,QmV,reduceCtorEq]at h<;>first
    |rfl
    | (obtain⟨rfl,_,rfl⟩:=h
       rfl)

theorem Bs (m:Qk)(k:Option Nat)(l s g i o:Nat):Xn m k (.vptr l s g i o)=Il (fun g' xs=>if g=g' then match xs[i]? with
  |some e=>part e.cells o k
  |none=>none
 else none) (Qc m l s):=by
 simp only[Xn];cases Qc m l s<;>rfl

theorem Qbq {f:Fr}{m m':Qk}{vo:VO}(h:XU vo.mc m m'):Qx f m vo=Qx f m' vo:=by
 cases vo<;>simp only[VO.mc]at h<;>try rfl
 case load k x=>have h:m=m':=h;subst h;rfl
 case toU x=>have h:m=m':=h;subst h;rfl
 case ofU t n x=>have h:m=m':=h;subst h;rfl
 case mget tx ok z x i=>have h:m=m':=h;subst h;rfl
 case loado k x=>
  have h:∀l s,Qc m (l+1) s=Qc m' (l+1) s:=h;simp only[Qx];split
  ·simp only[Xn,h]
  ·rfl
 case loadv l s k x=>
  have h:Qc m l s=Qc m' l s∨((Qc m l s).isRow=true∧(Qc m' l s).isRow=true):=h;simp only[Qx];split
  ·split
   ·rename_i hh;obtain⟨rfl,rfl⟩:=hh;rcases h with h|⟨h1,h2⟩
    ·simp only[Xn,h]
    ·simp only[Xn];cases e1:Qc m _ _<;>cases e2:Qc m' _ _<;>rw[e1]at h1<;>rw[e2]at h2<;>first|rfl|(simp[Ob.isRow]at h1;done)|(simp[Ob.isRow]at h2;done)
   ·rfl
  ·rfl
 case b2s x=>simp only[Qx,Sp h]
 case loadr k x=>
  simp only[Qx];split
  ·rfl
  ·rename_i l s g i o e;have h4:(Qc m l s).row=(Qc m' l s).row:=h l s;rw[Bs,Bs,TL h4]
  ·rfl
 case nilck x=>simp only[Qx,fun l s=>GN (h l s)]
 case faddr o x=>simp only[Qx,fun l s=>GN (h l s)]
 case len k x=>simp only[Qx,fun l s=>GN (h l s)]
 case slc sz x lo hi mx=>simp only[Qx,CE h]
 case iaddr sz len x i=>simp only[Qx,CF h]

mutual
theorem Bu {m m':Qk}(h:XU .rows m m'):∀x:AV,x.still false m=x.still false m'
 |.vec l s g o n q=>by
   have h:=h l s;simp only[AV.still];exact xa
 |.agg l=>by simp only[AV.still,YA h l]
 |.tup l=>by simp only[AV.still,YA h l]
 |.iface t x=>by simp only[AV.still,Bu h x]
 |.top|.int .. | .bool _|.str _|.nils|.nilp|.nilf|.nili|.nilm|.anyp|.list _|.lcap _|.fn .. | .ptr .. | .vptr .. | .rptr _|.mp .. => rfl
 |.mptr l s=>by simp only[AV.still,QmW,QlH,if_false]
theorem YA {m m':Qk}(h:XU .rows m m'):∀l:List AV,AV.stillL false m l=AV.stillL false m' l
 | []=>rfl
 |x :: l=>by simp only[AV.stillL,Bu h x,YA h l]
end

def RO.pure:RO→Bool
 |.val _=>true
 |.callO .. => true
 |.bsl .. => true
 |.call _ _=>true
 |.usd _=>true
 |_=>false

def RO.mc:RO→MC
 |.val v=>v.mc
 |.call _ _=>.rows
 |.callO .. => .rows
 |.usd _=>.rows
 |.bsl .. => .no
 |_=>.all

section
variable {P:Program}

def Bv (P:Program)(op:RO)(st:St)(x:AV):Prop :=
 match op with
 |.val vo=>Qx st.f st.m vo=some x
 |.call f args=>∃k fa fb ys,f.ev st.f=.fn (.func k) fa fb∧AV.stillL false st.m (fa++args.map (RA.ev st.f)++fb)=some ys∧AV.rfL ys=true∧Qh P k ys x∧x.rf=true∧(AV.rfL (fa++args.map (RA.ev st.f)++fb)=true∨x.nl=true)
 |.callO l s f args=>∃k fa fb g z xs,f.ev st.f=.fn (.func k) fa fb∧Qc st.m l s=.vec g z xs∧∀m',Qc m' l s=.vec g z xs→Qe P k (fa++args.map (RA.ev st.f)++fb) m' (fun y m1=>y=x∧m1=m')
 |_=>False

def ZD (P:Program)(op:RO)(st:St)(x:AV)(m:Qk):Prop :=
 match op with
 |.val vo=>Qx st.f st.m vo=some x∧m=st.m
 |.call f args=>Bv P (.call f args) st x∧m=st.m
 |.callO l s f args=>Bv P (.callO l s f args) st x∧m=st.m
 |.allocN s z=>Zs st.m s=true∧x=.ptr 0 s 0∧m=Am.put st.m 0 s (.cells z)
 |.boxN s r=>Zs st.m s=true∧(r.ev st.f).cells.all AV.leaf=true∧x=.ptr 0 s 0∧m=Am.put st.m 0 s (.cells (r.ev st.f).cells)
 |.store n p r=>(r.ev st.f).cells.length=n∧(r.ev st.f).cells.all AV.leaf=true∧Xp st.m (p.ev st.f) (r.ev st.f).cells=some m∧x=.tup []
 |.storev l s n p r=>(∃o,p.ev st.f=.ptr l s o)∧(r.ev st.f).cells.length=n∧(r.ev st.f).cells.all AV.leaf=true∧Xp st.m (p.ev st.f) (r.ev st.f).cells=some m∧x=.tup []
 |.app sz bytes el s r=>∃l site g n xs ys,s.ev st.f=.vec l site g 0 n false∧Qc st.m l site=.vec g sz xs∧Zk site el=true∧n≤xs.length∧Q1 st.m (r.ev st.f)=some ys∧ys.all (fun e=>e.cells.length==sz)=true∧n+ys.length≤maxLen∧(n+ys.length)*bytes≤140737488355328∧
   x=.vec l site (g+1) 0 (n+ys.length) false∧m=Am.put st.m l site (.vec (g+1) sz (xs.take n++ys))
 |.bsl sz len z ps=>(∃y,fill st.f ps (X5 z sz len)=some y∧AV.rfL y=true∧y.all AV.leaf=true∧x=.list (Zz sz len (y.map nn0)))∧m=st.m
 |.bslv site sz len z ps=>∃y,fill st.f ps (X5 z sz len)=some y∧AV.rfL y=true∧y.all AV.leaf=true∧Qn (Qc st.m 0 site)=true∧x=.vec 0 site (Qz st.m 0 site) 0 len false∧m=Am.put st.m 0 site (.vec (Qz st.m 0 site) sz (Zz sz len (y.map nn0)))
 |.bsl0 site sz=>Qn (Qc st.m 0 site)=true∧x=.vec 0 site (Qz st.m 0 site) 0 0 false∧m=Am.put st.m 0 site (.vec (Qz st.m 0 site) sz [])
 |.appc site sz bytes _ s r=>∃xs ys,s.ev st.f=.lcap xs∧Q1 st.m (r.ev st.f)=some ys∧ys≠[]∧xs.all (fun e=>e.cells.length==sz)=true∧ys.all (fun e=>e.cells.length==sz)=true∧xs.length+ys.length≤maxLen∧(xs.length+ys.length)*bytes≤140737488355328∧Qn (Qc st.m 0 site)=true∧
   x=.vec 0 site (Qz st.m 0 site) 0 (xs.length+ys.length) false∧m=Am.put st.m 0 site (.vec (Qz st.m 0 site) sz (xs++ys))
 |.callF f args=>∃k fa fb,f.ev st.f=.fn (.func k) fa fb∧Qe P k (fa++args.map (RA.ev st.f)++fb) st.m (fun y m'=>y=x∧m'=m)
 |.callK l s f args=>∃k fa fb,f.ev st.f=.fn (.func k) fa fb∧Qe P k (fa++args.map (RA.ev st.f)++fb) st.m (fun y m'=>y=x∧m'=m)∧Qc m l s=Qc st.m l s
 |.usd r=>(∃l s g n sz xs,2000≤s∧r.ev st.f=.vec l s g 0 n false∧Qc st.m l s=.vec g sz xs∧x=(if n=0 then .anyp else .vptr l s g 0 0))∧m=st.m
 |.ustr el p r=>(p.ev st.f=.anyp∧r.ev st.f=.int .i64 0∧x=.str []∧m=st.m)∨
   ∃l g n xs s,p.ev st.f=.vptr l (el+2000) g 0 0∧r.ev st.f=.int .i64 ((n:Nat):Int)∧Qc st.m l (el+2000)=.vec g 1 xs∧n≤xs.length∧n≠0∧xs.take n=Qw s∧x=.str s∧m=Am.put st.m l (el+2000) (.vec (g+1) 1 [])
 |_=>False

def RO.keeps:RO→Bool
 |.appS .. => false
 |.mk .. => false
 |.s2b .. => false
 |.isnil .. => false
 |.callG .. => false
 |.xb .. => false
 |.rngs .. => false
 |.nxts .. => false
 |.mkm .. => false
 |.mput .. => false
 |.clr .. => false
 |_=>true

theorem CG {d:Option Nat}{op:RO}{st:St}{K:St→Prop}(hk:op.keeps=true):GC P d op st K↔∃x m,ZD P op st x m∧K { st with m:=m,f:=Ql st.f d x }:=by
 cases op<;>simp only[RO.keeps,QlH]at hk<;>simp only[GC,ZD,Bv]
 case val=>exact⟨fun⟨x,h,k⟩=>⟨x,_,⟨h,rfl⟩,k⟩,fun⟨x,m,⟨h,e⟩,k⟩=>by subst e;exact⟨x,h,k⟩⟩
 case allocN=>exact⟨fun⟨h,k⟩=>⟨_,_,⟨h,rfl,rfl⟩,k⟩,fun⟨x,m,⟨h,e,e'⟩,k⟩=>by subst e e';exact⟨h,k⟩⟩
 case boxN=>exact⟨fun⟨h,h',k⟩=>⟨_,_,⟨h,h',rfl,rfl⟩,k⟩,fun⟨x,m,⟨h,h',e,e'⟩,k⟩=>by subst e e';exact⟨h,h',k⟩⟩
 case store=>exact⟨fun⟨h1,h2,m',h3,k⟩=>⟨_,m',⟨h1,h2,h3,rfl⟩,k⟩,fun⟨x,m,⟨h1,h2,h3,e⟩,k⟩=>by subst e;exact⟨h1,h2,m,h3,k⟩⟩
 case storev=>exact⟨fun⟨h0,h1,h2,m',h3,k⟩=>⟨_,m',⟨h0,h1,h2,h3,rfl⟩,k⟩,fun⟨x,m,⟨h0,h1,h2,h3,e⟩,k⟩=>by subst e;exact⟨h0,h1,h2,m,h3,k⟩⟩
 case app=>exact⟨fun⟨l,site,g,n,xs,ys,h1,h2,ht,h3,h4,h5,h6,h7,k⟩=>⟨_,_,⟨l,site,g,n,xs,ys,h1,h2,ht,h3,h4,h5,h6,h7,rfl,rfl⟩,k⟩,fun⟨x,m,⟨l,site,g,n,xs,ys,h1,h2,ht,h3,h4,h5,h6,h7,e,e'⟩,k⟩=>by subst e e';exact⟨l,site,g,n,xs,ys,h1,h2,ht,h3,h4,h5,h6,h7,k⟩⟩
 case call=>exact⟨fun⟨k,fa,fb,ys,v,h1,h2,h3,h4,h5,h6,kk⟩=>⟨v,_,⟨⟨k,fa,fb,ys,h1,h2,h3,h4,h5,h6⟩,rfl⟩,kk⟩,fun⟨x,m,⟨⟨k,fa,fb,ys,h1,h2,h3,h4,h5,h6⟩,e⟩,kk⟩=>by subst e;exact⟨k,fa,fb,ys,x,h1,h2,h3,h4,h5,h6,kk⟩⟩
 case usd=>exact⟨fun⟨l,s,g,n,sz,xs,h0,h1,h2,k⟩=>⟨_,_,⟨⟨l,s,g,n,sz,xs,h0,h1,h2,rfl⟩,rfl⟩,k⟩,fun⟨x,m,⟨⟨l,s,g,n,sz,xs,h0,h1,h2,e⟩,e'⟩,k⟩=>by subst e e';exact⟨l,s,g,n,sz,xs,h0,h1,h2,k⟩⟩
 case ustr=>
  constructor
  ·rintro(⟨h1,h2,k⟩|⟨l,g,n,xs,s,h1,h2,h3,h4,h5,h6,k⟩)
   ·exact⟨_,_,.inl ⟨h1,h2,rfl,rfl⟩,k⟩
   ·exact⟨_,_,.inr ⟨l,g,n,xs,s,h1,h2,h3,h4,h5,h6,rfl,rfl⟩,k⟩
  ·rintro⟨x,m,⟨h1,h2,e,e'⟩|⟨l,g,n,xs,s,h1,h2,h3,h4,h5,h6,e,e'⟩,k⟩
   ·subst e e';exact .inl ⟨h1,h2,k⟩
   ·subst e e';exact .inr ⟨l,g,n,xs,s,h1,h2,h3,h4,h5,h6,k⟩
 case bsl=>exact⟨fun⟨y,h1,h2,h3,k⟩=>⟨_,_,⟨⟨y,h1,h2,h3,rfl⟩,rfl⟩,k⟩,fun⟨x,m,⟨⟨y,h1,h2,h3,e⟩,e'⟩,k⟩=>by subst e e';exact⟨y,h1,h2,h3,k⟩⟩
 case bslv=>exact⟨fun⟨y,h1,h2,h3,h4,k⟩=>⟨_,_,⟨y,h1,h2,h3,h4,rfl,rfl⟩,k⟩,fun⟨x,m,⟨y,h1,h2,h3,h4,e,e'⟩,k⟩=>by subst e e';exact⟨y,h1,h2,h3,h4,k⟩⟩
 case bsl0=>exact⟨fun⟨h1,k⟩=>⟨_,_,⟨h1,rfl,rfl⟩,k⟩,fun⟨x,m,⟨h1,e,e'⟩,k⟩=>by subst e e';exact⟨h1,k⟩⟩
 case appc=>exact⟨fun⟨xs,ys,h1,h2,h3,h4,h5,h6,h7,h8,k⟩=>⟨_,_,⟨xs,ys,h1,h2,h3,h4,h5,h6,h7,h8,rfl,rfl⟩,k⟩,fun⟨x,m,⟨xs,ys,h1,h2,h3,h4,h5,h6,h7,h8,e,e'⟩,k⟩=>by subst e e';exact⟨xs,ys,h1,h2,h3,h4,h5,h6,h7,h8,k⟩⟩
 case callK=>exact⟨fun⟨k,fa,fb,v,m',h1,h2,h3,kk⟩=>⟨v,m',⟨k,fa,fb,h1,h2,h3⟩,kk⟩,fun⟨x,m,⟨k,fa,fb,h1,h2,h3⟩,kk⟩=>⟨k,fa,fb,x,m,h1,h2,h3,kk⟩⟩
 case callO=>exact⟨fun⟨k,fa,fb,g,z,xs,v,h1,h2,h3,kk⟩=>⟨v,_,⟨⟨k,fa,fb,g,z,xs,h1,h2,h3⟩,rfl⟩,kk⟩,fun⟨x,m,⟨⟨k,fa,fb,g,z,xs,h1,h2,h3⟩,e⟩,kk⟩=>by subst e;exact⟨k,fa,fb,g,z,xs,x,h1,h2,h3,kk⟩⟩
 case callF=>exact⟨fun⟨k,fa,fb,v,m',h1,h2,kk⟩=>⟨v,m',⟨k,fa,fb,h1,h2⟩,kk⟩,fun⟨x,m,⟨k,fa,fb,h1,h2⟩,kk⟩=>⟨k,fa,fb,x,m,h1,h2,kk⟩⟩

def Ju (P:Program)(it:Item)(st:St)(x:AV)(m:Qk):Prop :=
 match it.g with
 |none=>ZD P it.op st x m
 |some (j,want)=>match st.f j with
  |.bool b=>(b=want∧ZD P it.op st x m)∨(b=(!want)∧x=.tup []∧m=st.m)
  |.tup l=>l=[]∧x=.tup []∧m=st.m
  |_=>False

theorem K7 {it:Item}{st:St}{K:St→Prop}(hk:it.op.keeps=true):ZQ P it st K↔∃x m,Ju P it st x m∧K { st with m:=m,f:=Ql st.f it.dst x }:=by
 obtain⟨d,op,g⟩:=it;cases g with
 |none=>exact CG hk
 |some p=>
  obtain⟨j,want⟩:=p;simp only[ZQ,Ju];cases hj:st.f j with
  |bool b=>
   simp only;rw[CG hk]
   constructor
   ·intro⟨h1,h2⟩;by_cases hb:b=want
    ·obtain⟨x,m,h,k⟩:=h1 hb;exact⟨x,m,.inl ⟨hb,h⟩,k⟩
    ·have hb':b=!want:=by cases b<;>cases want<;>first|rfl|exact absurd rfl hb
     exact⟨_,_,.inr ⟨hb',rfl,rfl⟩,h2 hb'⟩
   ·rintro⟨x,m,⟨hb,h⟩|⟨hb,rfl,rfl⟩,k⟩
    ·exact⟨fun _=>⟨x,m,h,k⟩,fun e=>by rw[hb]at e;cases want<;>cases e⟩
    ·exact⟨fun e=>(by rw[hb]at e;cases want<;>cases e),fun _=>k⟩
  |tup l=>
   constructor
   ·rintro⟨h,k⟩;exact⟨_,_,⟨h,rfl,rfl⟩,k⟩
   ·rintro⟨x,m,⟨h,rfl,rfl⟩,k⟩;exact⟨h,k⟩
  |_=>exact⟨fun h=>h.elim,fun⟨_,_,h,_⟩=>h.elim⟩

theorem Bw {op:RO}{f f':Fr}{m m':Qk}{ds ds':List DF}{x:AV}(h:JG op.sl f f')(k:ZD P op ⟨f,m,ds⟩ x m'):ZD P op ⟨f',m,ds'⟩ x m':=by
 cases op with
 |val vo=>simp only[ZD,Ik (vo:=vo) h]at k ⊢;exact k
 |call g args=>simp only[ZD,Bv,RA.ev_same (r:=g) h.left,Wt (rs:=args) h.right]at k ⊢;exact k
 |callK l s g args=>simp only[ZD,RA.ev_same (r:=g) h.left,Wt (rs:=args) h.right]at k ⊢;exact k
 |callO l s g args=>simp only[ZD,Bv,RA.ev_same (r:=g) h.left,Wt (rs:=args) h.right]at k ⊢;exact k
 |callF g args=>simp only[ZD,RA.ev_same (r:=g) h.left,Wt (rs:=args) h.right]at k ⊢;exact k
 |allocN s z=>exact k
 |boxN s r=>simp only[ZD,RA.ev_same (r:=r) h]at k ⊢;exact k
 |store n p r=>simp only[ZD,RA.ev_same (r:=p) h.left,RA.ev_same (r:=r) h.right]at k ⊢;exact k
 |storev l s n p r=>simp only[ZD,RA.ev_same (r:=p) h.left,RA.ev_same (r:=r) h.right]at k ⊢;exact k
 |usd r=>simp only[ZD,RA.ev_same (r:=r) h]at k ⊢;exact k
 |ustr el p r=>simp only[ZD,RA.ev_same (r:=p) h.left,RA.ev_same (r:=r) h.right]at k ⊢;exact k
 |app sz bytes el s r=>simp only[ZD,RA.ev_same (r:=s) h.left,RA.ev_same (r:=r) h.right]at k ⊢;exact k
 |appc site sz bytes el s r=>simp only[ZD,RA.ev_same (r:=s) h.left,RA.ev_same (r:=r) h.right]at k ⊢;exact k
 |bsl sz len z ps=>simp only[ZD,UT (ps:=ps) h]at k ⊢;exact k
 |bslv site sz len z ps=>simp only[ZD,UT (ps:=ps) h]at k ⊢;exact k
 |bsl0 site sz=>exact k
 |_=>exact k.elim

theorem Y7 {it:Item}{f f':Fr}{m m':Qk}{ds ds':List DF}{x:AV}(h:JG it.sl f f')(k:Ju P it ⟨f,m,ds⟩ x m'):Ju P it ⟨f',m,ds'⟩ x m':=by
 obtain⟨d,op,g⟩:=it;cases g with
 |none=>exact Bw (JG.left h) k
 |some p=>
  obtain⟨j,want⟩:=p;have hj:f j=f' j:=(JG.right h) j xA;simp only[Ju]at k ⊢;rw[←hj];cases he:f j with
  |bool b=>rw[he]at k;exact k.imp (fun h1=>⟨h1.1,Bw (JG.left h) h1.2⟩) id
  |tup l=>rw[he]at k;exact k
  |_=>rw[he]at k;exact k

theorem CH {op:RO}(hp:op.pure=true){f:Fr}{m m' m1:Qk}{ds ds':List DF}{x:AV}(h:XU op.mc m m')(k:ZD P op ⟨f,m,ds⟩ x m1):m1=m∧ZD P op ⟨f,m',ds'⟩ x m':=by
 cases op with
 |bsl sz len z ps=>obtain⟨k,e⟩:=k;exact⟨e,k,rfl⟩
 |val vo=>obtain⟨k,e⟩:=k;exact⟨e,by rw[←Qbq (f:=f) h];exact k,rfl⟩
 |call g args=>
  obtain⟨⟨k,fa,fb,ys,h1,h2,h3,h4,h5,h6⟩,e⟩:=k;refine⟨e,⟨k,fa,fb,ys,h1,?_,h3,h4,h5,h6⟩,rfl⟩;rw[←YA h];exact h2
 |callO l s g args=>
  obtain⟨⟨k,fa,fb,g,z,xs,h1,h2,h3⟩,e⟩:=k;refine⟨e,⟨k,fa,fb,g,z,xs,h1,?_,h3⟩,rfl⟩;have h4:(Qc m l s).row=(Qc m' l s).row:=h l s;have h2:Qc m l s=.vec g z xs:=h2;show Qc m' l s=.vec g z xs;rw[h2]at h4;cases hl:Qc m' l s with
  |vec g' sz' xs'=>rw[hl]at h4;simp only[Ob.row,QlP,QmV]at h4;obtain⟨rfl,rfl,rfl⟩:=h4;rfl
  |none=>rw[hl]at h4;cases h4
  |cells _=>rw[hl]at h4;cases h4
  |iter _ _=>rw[hl]at h4;cases h4
 |usd r=>
  obtain⟨⟨l,s,g,n,sz,xs,h0,h1,h2,h3⟩,e⟩:=k;refine⟨e,⟨l,s,g,n,sz,xs,h0,h1,?_,h3⟩,rfl⟩;have h4:(Qc m l s).row=(Qc m' l s).row:=h l s;have h2:Qc m l s=.vec g sz xs:=h2;show Qc m' l s=.vec g sz xs;rw[h2]at h4;cases hl:Qc m' l s with
  |vec g' sz' xs'=>rw[hl]at h4;simp only[Ob.row,QlP,QmV]at h4;obtain⟨rfl,rfl,rfl⟩:=h4;rfl
  |none=>rw[hl]at h4;cases h4
  |cells _=>rw[hl]at h4;cases h4
  |iter _ _=>rw[hl]at h4;cases h4
 |_=>cases hp

theorem GP {it:Item}(hp:it.op.pure=true){f:Fr}{m m' m1:Qk}{ds ds':List DF}{x:AV}(h:XU it.op.mc m m')(k:Ju P it ⟨f,m,ds⟩ x m1):m1=m∧Ju P it ⟨f,m',ds'⟩ x m':=by
 obtain⟨d,op,g⟩:=it;cases g with
 |none=>exact CH hp h k
 |some p=>
  obtain⟨j,want⟩:=p;simp only[Ju]at k ⊢;cases he:f j with
  |bool b=>
   rw[he]at k;rcases k with⟨h1,k⟩|⟨h1,h2,h3⟩
   ·obtain⟨a,b⟩:=CH hp h k;exact⟨a,.inl ⟨h1,b⟩⟩
   ·exact⟨h3,.inr ⟨h1,h2,trivial⟩⟩
  |tup l=>rw[he]at k;exact⟨k.2.2,k.1,k.2.1,trivial⟩
  |_=>rw[he]at k;exact k.elim

def RO.lets (op:RO)(c:MC):Bool :=
 match op with
 |.val _=>true
 |.call _ _=>true
 |.callO .. => true
 |.store .. => c == .no||c == .shape
 |.storev l s _ _ _=>match c with
  |.cell l' s'=>l' != l||s' != s
  |.outer=>l==0
  |.all=>false
  |_=>true
 |.allocN s _=>match c with
  |.cell l' s'=>l' != 0||s' != s
  |.all=>false
  |_=>true
 |.boxN s _=>match c with
  |.cell l' s'=>l' != 0||s' != s
  |.all=>false
  |_=>true
 |.app .. => match c with
  |.no=>true
  |.cell _ _=>true
  |_=>false
 |.bsl .. => true
 |.bslv s _ _ _ _=>match c with
  |.no=>true
  |.cell l' s'=>l' != 0||s' != s
  |.outer=>true
  |_=>false
 |.bsl0 s _=>match c with
  |.no=>true
  |.cell l' s'=>l' != 0||s' != s
  |.outer=>true
  |_=>false
 |.appc s _ _ _ _ _=>match c with
  |.no=>true
  |.cell l' s'=>l' != 0||s' != s
  |.outer=>true
  |_=>false
 |.callF .. => c == .no
 |.callK l s _ _=>match c with
  |.no=>true
  |.cell l' s'=>l'==l&&s'==s
  |_=>false
 |.usd _=>true
 |.ustr .. => c == .no
 |_=>false

theorem He {m:Qk}{l s:Nat}{o o':Ob}(hl:Qc m l s=o)(ho:o.row=none)(ho':o'.row=none)(hlt:l<m.length){c:MC}(hc:match c with
  |.cell l' s'=>(l' != l||s' != s)=true
  |.outer=>(l==0)=true
  |.all=>False
  |_=>True):XU c m (Am.put m l s o'):=by
 have key:∀l' s',(l'=l∧s'=s)∨Qc (Am.put m l s o') l' s'=Qc m l' s':=by
  intro l' s';by_cases hh:l'=l∧s'=s
  ·exact .inl hh
  ·exact .inr (QE xw)
 have hsh:∀ {x:Ob},x.row=none→x.sh=none:=by intro x;cases x<;>simp[Ob.row,Ob.sh]
 cases c with
 |no=>trivial
 |shape=>
  intro l' s';rcases key l' s' with⟨rfl,rfl⟩|e
  ·rw[Qs hlt,hl,hsh ho,hsh ho']
  ·rw[e]
 |rows=>
  intro l' s';rcases key l' s' with⟨rfl,rfl⟩|e
  ·rw[Qs hlt,hl,ho,ho']
  ·rw[e]
 |cell l' s'=>
  show Qc m l' s'=Qc _ l' s'∨_;rcases key l' s' with⟨rfl,rfl⟩|e
  ·simp at hc
  ·exact .inl e.symm
 |outer=>
  intro l' s';have hc:l=0:=vi
  exact(QE xw).symm
 |all=>exact hc.elim

theorem TM {m:Qk}{s:Nat}(h:Zs m s=true):Qc m 0 s=.none:=by
 unfold Zs at h;split at h
 ·assumption
 ·cases h

end

theorem XU.symm {c:MC}{m m':Qk}(h:XU c m m'):XU c m' m:=by
 cases c with
 |no=>trivial
 |shape=>exact fun l s=>(h l s).symm
 |rows=>exact fun l s=>(h l s).symm
 |cell l s=>exact Or.imp Eq.symm And.symm h
 |outer=>exact fun l s=>(h l s).symm
 |all=>exact Eq.symm h

theorem CJ {m m':Qk}{p:AV}{ys:List AV}(h:Xp m p ys=some m'):XU .shape m m':=by
 cases p with
 |ptr l s o=>
  simp only[Xp]at h;split at h
  ·rename_i xs hlk;split at h
   ·split at h
    ·cases h;exact He (c:=.shape) hlk rfl rfl (Xm qL) trivial
    ·cases h
   ·cases h
  ·cases h
 |vptr l s g i o=>
  simp only[Xp]at h;split at h
  ·rename_i g' sz xs hlk;split at h
   ·rename_i hg;subst hg;split at h
    ·split at h
     ·cases h;intro l' s';by_cases hh:l'=l∧s'=s
      ·obtain⟨rfl,rfl⟩:=hh;rw[Qs (Xm qL),hlk];rfl
      ·rw[QE xw]
     ·cases h
    ·cases h
   ·cases h
  ·cases h
 |_=>simp[Xp]at h

section
variable {P:Program}{N:Nat}

theorem CL {m:Qk}{s:Nat}{xs:List AV}(h:Zs m s=true){c:MC}(hc:match c with
  |.cell l' s'=>(l' != 0||s' != s)=true
  |.all=>False
  |_=>True):XU c m (Am.put m 0 s (.cells xs)):=by
 cases m with
 |nil=>exact XU.refl c _
 |cons fr m=>exact He (TM h) rfl rfl xA (by cases c<;>first|exact hc|rfl)

theorem Bx {op:RO}{c:MC}(hc:op.lets c=true){st:St}{x:AV}{m:Qk}(h:ZD P op st x m):XU c st.m m:=by
 cases op with
 |val vo=>rw[h.2];exact XU.refl c _
 |call f args=>rw[h.2];exact XU.refl c _
 |callO l s f args=>rw[h.2];exact XU.refl c _
 |usd r=>rw[h.2];exact XU.refl c _
 |callK l s f args=>
  obtain⟨_,_,_,_,_,he⟩:=h;cases c with
  |no=>trivial
  |cell l' s'=>
   simp only[RO.lets,QlM,Qls]at hc;obtain⟨rfl,rfl⟩:=hc;exact .inl he.symm
  |_=>simp[RO.lets]at hc
 |ustr el p r=>
  simp only[RO.lets,Qls]at hc;subst hc;trivial
 |store n p r=>
  simp only[RO.lets,Qlq,Qls]at hc;rcases hc with rfl|rfl
  ·trivial
  ·exact CJ h.2.2.1
 |storev l s n p r=>
  obtain⟨⟨o,ho⟩,h1,h2,h3,h4⟩:=h;rw[ho]at h3;simp only[Xp]at h3;split at h3
  ·rename_i xs hlk;split at h3
   ·split at h3
    ·cases h3;refine He hlk rfl rfl (Xm qL) ?_;exact x6
    ·cases h3
   ·cases h3
  ·cases h3
 |allocN s z=>
  rw[h.2.2];refine CL h.1 ?_;exact x6
 |boxN s r=>
  rw[h.2.2.2];refine CL h.1 ?_;exact x6
 |app sz bytes el s r=>
  obtain⟨l,site,g,n,xs,ys,_,hlk,_,_,_,_,_,_,_,rfl⟩:=h;cases c with
  |no=>trivial
  |cell l' s'=>
   show Qc st.m l' s'=Qc _ l' s'∨_;by_cases hh:l'=l∧s'=site
   ·obtain⟨rfl,rfl⟩:=hh;refine .inr ⟨wv,?_⟩;rw[Qs (Xm qL)];rfl
   ·exact .inl (QE xw).symm
  |_=>simp[RO.lets]at hc
 |bsl sz len z ps=>rw[h.2];exact XU.refl c _
 |bslv site sz len z ps=>
  obtain⟨y,_,_,_,_,_,rfl⟩:=h;cases c with
  |no=>trivial
  |cell l' s'=>
   exact ya
  |outer=>exact fun l' s'=>(QE (.inl (Nat.succ_ne_zero l'))).symm
  |_=>simp[RO.lets]at hc
 |bsl0 site sz=>
  obtain⟨_,_,rfl⟩:=h;cases c with
  |no=>trivial
  |cell l' s'=>
   exact ya
  |outer=>exact fun l' s'=>(QE (.inl (Nat.succ_ne_zero l'))).symm
  |_=>simp[RO.lets]at hc
 |appc site sz bytes el s r=>
  obtain⟨xs,ys,_,_,_,_,_,_,_,_,_,rfl⟩:=h;cases c with
  |no=>trivial
  |cell l' s'=>
   exact ya
  |outer=>exact fun l' s'=>(QE (.inl (Nat.succ_ne_zero l'))).symm
  |_=>simp[RO.lets]at hc
 |callF f args=>
  simp only[RO.lets,Qls]at hc;subst hc;trivial
 |_=>exact h.elim

theorem Bz {it:Item}{c:MC}(hc:it.op.lets c=true){st:St}{x:AV}{m:Qk}(h:Ju P it st x m):XU c st.m m:=by
 obtain⟨d,op,g⟩:=it;cases g with
 |none=>exact Bx hc h
 |some p=>
  obtain⟨j,want⟩:=p;simp only[Ju]at h;cases he:st.f j with
  |bool b=>
   rw[he]at h;rcases h with⟨_,h⟩|⟨_,_,h⟩
   ·exact Bx hc h
   ·rw[h];exact XU.refl c _
  |tup l=>rw[he]at h;rw[h.2.2];exact XU.refl c _
  |_=>rw[he]at h;exact h.elim

def DI (a b:Item):Bool :=
  (match a.dst with
   |some d=>!(b.sl.contains d)&&b.dst != some d
   |none=>true) &&
  (match b.dst with
   |some d=>!(a.sl.contains d)
   |none=>true)

def CM (a b:Item):Bool :=
 match a.op,b.op,a.g,b.g with
 |.allocN s _,.allocN t _,none,none=>s != t
 |_,_,_,_=>false

def DJ (a b:Item):Bool :=
 a.op.keeps&&b.op.keeps&&DI a b&&((a.op.pure&&b.op.lets a.op.mc)||(b.op.pure&&a.op.lets b.op.mc)||CM a b)

theorem CN {m:Qk}{s t:Nat}{o:Ob}(h:s≠t):Zs (Am.put m 0 s o) t=Zs m t:=by
 unfold Zs;rw[QE (.inr (Ne.symm h))]
theorem Im {m:Qk}{s t:Nat}{o q:Ob}(h:s≠t):Am.put (Am.put m 0 s o) 0 t q=Am.put (Am.put m 0 t q) 0 s o:=by
 cases m with
 |nil=>rfl
 |cons fr m=>
  simp only[Am.put];congr 1
  funext i;by_cases h1:i=t
  ·subst h1;rw[QZ,Q6 _ _ (Ne.symm h),QZ]
  ·rw[Q6 _ _ h1];by_cases h2:i=s
   ·subst h2;rw[QZ,QZ]
   ·rw[Q6 _ _ h2,Q6 _ _ h2,Q6 _ _ h1]
theorem PK {a b:Item}(h:CM a b=true){st:St}{f:Fr}{x y:AV}{m m2:Qk}(ga:Ju P a st x m)(gb:Ju P b { st with m:=m,f:=f } y m2) :
  ∃m1,Ju P b st y m1∧∀f',Ju P a { st with m:=m1,f:=f' } x m2:=by
 obtain⟨da,oa,ga'⟩:=a;obtain⟨db,ob,gb'⟩:=b;unfold CM at h;dsimp only at h;split at h
 ·rename_i s z t w;have hne:s≠t:=xQ
  obtain⟨h1,rfl,rfl⟩:=ga;obtain⟨h2,rfl,rfl⟩:=gb;dsimp only at h2;rw[CN hne]at h2;refine⟨_,⟨h2,rfl,rfl⟩,fun f'=>⟨?_,rfl,?_⟩⟩
  ·dsimp only;rw[CN (Ne.symm hne)];exact h1
  ·exact Im hne
 ·cases h

theorem Vu {l:List Nat}{f:Fr}{d:Option Nat}{x:AV}(h:∀k,d=some k→k∉l):JG l f (Ql f d x):=by
 intro t ht;cases d with
 |none=>rfl
 |some k=>
  have:t≠k:=fun e=>h k rfl (e▸ht)
  show f t=QJ f k x t;rw[Q6 _ _ this]

theorem TN {f:Fr}{d e:Option Nat}{x y:AV}(h:∀k,d=some k→e≠some k):Ql (Ql f d x) e y=Ql (Ql f e y) d x:=by
 cases d with
 |none=>rfl
 |some d=>
  cases e with
  |none=>rfl
  |some e=>
   have hne:d≠e:=fun hh=>h d rfl (hh▸rfl)
   funext i;show QJ (QJ f d x) e y i=QJ (QJ f e y) d x i;by_cases h1:i=e
   ·subst h1;rw[QZ,Q6 _ _ (Ne.symm hne),QZ]
   ·rw[Q6 _ _ h1];by_cases h2:i=d
    ·subst h2;rw[QZ,QZ]
    ·rw[Q6 _ _ h2,Q6 _ _ h2,Q6 _ _ h1]

theorem Sq {a b:Item}(h:DI a b=true):(∀k,a.dst=some k→k∉b.sl)∧(∀k,a.dst=some k→b.dst≠some k)∧(∀k,b.dst=some k→k∉a.sl):=by
 unfold DI at h;simp only[QlM]at h;refine⟨fun k e=>?_,fun k e=>?_,fun k e=>?_⟩
 ·have:=h.1;rw[e]at this;simp at this;exact this.1
 ·have:=h.1;rw[e]at this;simp at this;exact this.2
 ·have:=h.2;rw[e]at this;simpa using this

theorem Sr {a b:Item}(h:DJ a b=true){st:St}{K:St→Prop}(k:ZQ P a st fun s=>ZQ P b s K):ZQ P b st fun s=>ZQ P a s K:=by
 unfold DJ at h;simp only[QlM,Qlq]at h;obtain⟨⟨⟨ka,kb⟩,hap⟩,hor⟩:=h;obtain⟨h1,h2,h3⟩:=Sq hap;rw[K7 ka]at k;obtain⟨x,m,ga,k⟩:=k;rw[K7 kb]at k;obtain⟨y,m2,gb,k⟩:=k;rw[K7 kb];have hs1:∀f:Fr,JG b.sl f (Ql f a.dst x):=fun f=>Vu h1
 have hs3:∀f:Fr,JG a.sl f (Ql f b.dst y):=fun f=>Vu h3
 have hsym:∀ {l f f'},JG l f f'→JG l f' f:=fun h t ht=>(h t ht).symm
 have hK:K { st with m:=m2,f:=Ql (Ql st.f b.dst y) a.dst x }:=by
  rw[←TN h2];exact k
 rcases hor with(⟨pa,lb⟩|⟨pb,la⟩)|hf
 ·have e:m=st.m:=(GP (m':=st.m) (ds':=st.ds) pa (XU.refl _ _) ga).1;subst e;have gb':Ju P b st y m2:=Y7 (hsym (hs1 st.f)) gb;refine⟨y,m2,gb',?_⟩;rw[K7 ka];have ga':Ju P a { st with m:=m2 } x m2:=(GP pa (Bz lb gb') ga).2;exact⟨x,m2,Y7 (hs3 st.f) ga',hK⟩
 ·have hag:=Bz la ga;obtain⟨e,gb1⟩:=GP (m':=st.m) (ds':=st.ds) pb hag.symm gb;have e:m2=m:=e;subst e;have gb':Ju P b st y st.m:=Y7 (hsym (hs1 st.f)) gb1;refine⟨y,st.m,gb',?_⟩;rw[K7 ka];exact⟨x,m2,Y7 (hs3 st.f) ga,hK⟩
 ·obtain⟨m1,gb',ga'⟩:=PK hf ga gb;refine⟨y,m1,gb',?_⟩;rw[K7 ka];exact⟨x,m2,ga' _,hK⟩

theorem TO {ops:Array Oper}{o:Oper}{i:Nat}(hi:ops[i]? = some o){it:Item}(hc:GK P N ops o it=true){st:St}{K:St→Prop}(h:ZQ P it st K){G:Gh}{B:Nat}{a:Act}{w:World}(hr:Rel G B N st a w){KK:Act→World→Prop}{QQ:Exit→Act→World→Prop}
  (hk:∀G' st' a' w',K st'→Rel G' B N st' a' w'→Ext 1 G w G' w'→KK a' w'):wpOp P ops QQ i KK a w:=by
 have h1:Qy P N [it] st K:=CB (HQ (fun _ hs=>Qy.nil hs) h);have h2:=h1 ops [o] (by simp[ZR,hc]) G B a w hr (fun e a w=>match e with
  |.normal=>KK a w
  |e=>QQ e a w) (fun G' st' a' w' h1 h2 h3=>hk G' st' a' w' h1 h2 h3)
 unfold wpOp;simp only[hi];unfold wpList at h2;split
 ·rename_i hw;rw[Qlv hw]at h2;rcases h2 with h2|h2
  ·left
   unfold Oper.wp at h2 ⊢;generalize (execOp a.eval o).run P w=r at h2 ⊢;cases r with
   |ok n w'=>
    cases n<;>simp only[Oper.upon]at h2 ⊢<;>first
     |exact h2
     |exact Calls.mono h2 (fun e w'' he=>by cases e<;>exact he)
   |halt x w'=>cases x<;>simp only[Oper.upon]at h2 ⊢<;>exact h2
  ·exact .inr h2
 ·rename_i hw;rw[Qlu hw]at h2;exact h2

def YU:Item:=⟨none,.val (.mov (.c .top)),none⟩
def HR (its:List Item)(l:List Nat):List Item:=l.map fun i=>its.getD i YU

theorem TP {its:List Item}{i:Nat}{post:List Nat}{Q:St→Prop}:∀ {pre:List Nat} {st:St},(∀p,p∈pre→DJ (its.getD p YU) (its.getD i YU)=true)→
  QD P (HR its (pre++i :: post)) st Q→ZQ P (its.getD i YU) st fun s=>QD P (HR its (pre++post)) s Q
 | [],_,_,h=>h
 |p :: pre,st,hp,h=>by
  have h':ZQ P (its.getD p YU) st fun s=>QD P (HR its (pre++i :: post)) s Q:=h
  have h2:=HQ (fun s hs=>TP (fun q hq=>hp q (QlE _ hq)) hs) h';exact Sr (hp p (QlG ..)) h2

inductive Bef (ops:Array Oper):Nat→Nat→Prop
 |one {i:Nat} {o:Oper} {e:Edge} (ho:ops[i]? = some o) (he:e∈o.after) (hb:Region.binds .any e=true):Bef ops e.on i
 |more {i p:Nat} {o:Oper} {e:Edge} (ho:ops[i]? = some o) (he:e∈o.after) (hb:Region.binds .any e=true) (h:Bef ops p e.on):Bef ops p i

def Ss (acc:List Nat)(m:Nat)(e:Edge):Nat:=if Region.binds .any e then(m ||| 2 ^ e.on) ||| acc.getD e.on 0 else m
def TQ (acc:List Nat)(o:Oper):Nat:=o.after.toList.foldl (Ss acc) 0
def Su:List Oper→List Nat→List Nat
 | [],acc=>acc
 |o :: os,acc=>Su os (acc++[TQ acc o])

theorem BA {acc:List Nat}{p:Nat}:∀(l:List Edge) (m:Nat),(l.foldl (Ss acc) m).testBit p=true→m.testBit p=true∨∃e∈l,Region.binds .any e=true∧(p=e.on∨(acc.getD e.on 0).testBit p=true)
 | [],m,h=>.inl h
 |e :: l,m,h=>by
  rw[List.foldl_cons]at h;rcases BA l _ h with h1|⟨e',h1,h2,h3⟩
  ·unfold Ss at h1;split at h1
   ·rename_i hb;rw[Nat.testBit_or,Nat.testBit_or,Qlq,Qlq]at h1;rcases h1 with(h1|h1)|h1
    ·exact .inl h1
    ·rw[Nat.testBit_two_pow]at h1;exact .inr ⟨e,QlG ..,hb,.inl (of_decide_eq_true h1).symm⟩
    ·exact .inr ⟨e,QlG ..,hb,.inr h1⟩
   ·exact .inl h1
  ·exact .inr ⟨e',QlE _ h1,h2,h3⟩

theorem CO {ops:Array Oper}:∀(l:List Oper) (acc:List Nat),ops.toList=ops.toList.take acc.length++l→acc.length+l.length=ops.size→(∀i p,(acc.getD i 0).testBit p=true→Bef ops p i)→∀i p,((Su l acc).getD i 0).testBit p=true→Bef ops p i
 | [],acc,_,_,h=>h
 |o :: l,acc,e,hn,h=>by
  have hlen:acc.length<ops.toList.length:=by simp at hn ⊢;omega
  have hat:ops[acc.length]? = some o:=by
   rw[←QlS,e,QmR xD];simp;have:acc.length-min acc.length ops.size=0:=by simp at hlen;omega
   rw[this];rfl
  refine CO l (acc++[TQ acc o]) ?_ (by simp at hn ⊢;omega) fun i p hb=>?_
  ·rw[Ql2,QmX,QlI hlen,QlJ];have:ops.toList[acc.length]=o:=by
    have:=Qln hlen;rw[QlS,hat]at this;cases this;rfl
   rw[this];exact e
  ·rw[List.getD_eq_getElem?_getD]at hb;by_cases hi:i<acc.length
   ·rw[QmQ hi,←List.getD_eq_getElem?_getD]at hb;exact h i p hb
   ·by_cases hi2:i=acc.length
    ·subst hi2;rw[QmR (Qlk _)]at hb;simp only[Nat.sub_self,Qmr,QmA]at hb;rcases BA _ _ hb with h1|⟨e',h1,h2,h3⟩
     ·simp at h1
     ·rcases h3 with rfl|h3
      ·exact .one hat jC h2
      ·exact .more hat jC h2 (h _ _ h3)
    ·rw[QmO xD]at hb;simp at hb

def NJ (ops:Array Oper)(its:List Item):Bool :=
 (List.range ops.size).all fun i=>match ops[i]? with
  |some o=>o.after.all (fun e=>!Region.binds .any e||decide (e.on<i))&&(List.range i).all fun p=>((Su ops.toList []).getD i 0).testBit p||DJ (its.getD p YU) (its.getD i YU)
  |none=>true

theorem Bef.listed {ops:Array Oper}{L:Nat→Prop}(hcl:∀q,L q→∀o e,ops[q]? = some o→e∈o.after→Region.binds .any e=true→L e.on){p i:Nat}(h:Bef ops p i)(hi:∀o e,ops[i]? = some o→e∈o.after→Region.binds .any e=true→L e.on):L p:=by
 induction h with
 |one ho he hb=>exact hi _ _ ho he hb
 |more ho he hb _ ih=>exact ih (hcl _ (hi _ _ ho he hb))

def YE (n:Nat)(listed:Array Bool):List Nat:=(List.range n).filter fun i=>!listed.getD i true

theorem FJ {ops:Array Oper}:∀ {l:List Oper} {its:List Item},ZR P N ops l its=true→l.length=its.length∧∀(i:Nat) (o:Oper),l[i]? = some o→GK P N ops o (its.getD i YU)=true
 | [],its,h=>by
  cases its with
  |nil=>exact⟨rfl,xA⟩
  |cons it its=>simp[ZR]at h
 |o :: l,its,h=>by
  cases its with
  |nil=>simp[ZR]at h
  |cons it its=>
   simp only[ZR,QlM]at h;obtain⟨e,h2⟩:=FJ h.2;refine⟨by simp[e],fun i o' ho=>?_⟩;cases i with
   |zero=>simp at ho;subst ho;exact h.1
   |succ i=>simpa using h2 i o' (by simpa using ho)

theorem Io {ops:Array Oper}{its:List Item}(hc:ZR P N ops ops.toList its=true)(hd:NJ ops its=true){B:Nat}{Q:St→Prop}{QQ:Exit→Act→World→Prop} :
  ∀(fuel:Nat) (listed:Array Bool),listed.size=ops.size→(∀q,listed.getD q false=true→∀o e,ops[q]? = some o→e∈o.after→Region.binds .any e=true→listed.getD e.on false=true)→(YE ops.size listed).length≤fuel→∀(st:St) (G:Gh) (a:Act) (w:World),QD P (HR its (YE ops.size listed)) st Q→Rel G B N st a w→
   (∀G' st' a' w',Q st'→Rel G' B N st' a' w'→Ext 1 G w G' w'→QQ .normal a' w')→wpAny P .any ops QQ fuel listed a w:=by
 obtain⟨hlen,hcs⟩:=FJ hc;have hready:∀(listed:Array Bool) i,i∈Region.ready .any ops listed→i∈YE ops.size listed:=by
  intro listed i hi;obtain⟨h0,o,ho,_⟩:=mem_ready.1 hi;exact QmY.2 ⟨QmZ.2 (Qlt.1 ho).1,by simp[h0]⟩
 have hat:∀i,i<ops.size→∃o,ops[i]? = some o∧(∀e∈o.after,Region.binds .any e=true→e.on<i)∧∀p,p<i→Bef ops p i∨DJ (its.getD p YU) (its.getD i YU)=true:=by
  intro i hi;refine⟨ops[i],QlF hi,?_⟩;have h1:=QlB.1 hd i (QmZ.2 hi);rw[QlF hi]at h1;simp only[QlM]at h1;refine⟨fun e he hb=>?_,fun p hp=>?_⟩
  ·have h2:=Array.all_eq_true_iff_forall_mem.1 h1.1 e he
   simpa [hb]using h2
  ·have h2:=QlB.1 h1.2 p (QmZ.2 hp);rw[Qlq]at h2;rcases h2 with h2|h2
   ·exact .inl (CO ops.toList [] xA xA (fun i p hb=>by simp at hb) i p h2)
   ·exact .inr h2
 -- the first that is left is ready
 have hfirst:∀(listed:Array Bool),listed.size=ops.size→Region.ready .any ops listed=[]→YE ops.size listed=[]:=by
  intro listed hsz hr;cases hu:YE ops.size listed with
  |nil=>rfl
  |cons i rest=>
   exfalso;have hpw:(YE ops.size listed).Pairwise (· < ·):=List.Pairwise.filter _ List.pairwise_lt_range;have hi:i∈YE ops.size listed:=by rw[hu];exact QlG ..
   obtain⟨hi1,hi2⟩:=QmY.1 hi;obtain⟨o,ho,h1,_⟩:=hat i (QmZ.1 hi1);have:i∈Region.ready .any ops listed:=by
    refine mem_ready.2 ⟨by simpa using hi2,o,ho,fun e he hb=>?_⟩;have hlt:=h1 e he hb;cases hg:listed.getD e.on false with
    |true=>rfl
    |false=>
     have hin:e.on∈YE ops.size listed:=by
      refine QmY.2 ⟨QmZ.2 (Nat.lt_trans hlt (QmZ.1 hi1)),?_⟩;have hlt':e.on<listed.size:=by rw[hsz];exact Nat.lt_trans hlt (QmZ.1 hi1)
      simp[QlF hlt']at hg ⊢;exact hg
     rw[hu]at hin hpw;rcases QmM.1 hin with e'|e'
     ·omega
     ·have:=(Qm0.1 hpw).1 _ e';omega
   rw[hr]at this;cases this
 intro fuel
 induction fuel with
 |zero=>
  intro listed hsz hcl hl st G a w h hr hq;have hu:YE ops.size listed=[]:=Qmu xw;refine⟨?_,?_⟩
  ·cases hx:Region.ready .any ops listed with
   |nil=>rfl
   |cons i r=>
    have:=hready listed i (by rw[hx];exact QlG ..);rw[hu]at this;cases this
  ·rw[hu]at h;exact hq G st a w h hr (Ext.refl 1 G w)
 |succ fuel ih=>
  intro listed hsz hcl hl st G a w h hr hq;refine⟨fun hx=>?_,fun i hi=>?_⟩
  ·rw[hfirst listed hsz hx]at h;exact hq G st a w h hr (Ext.refl 1 G w)
  ·have hiu:=hready listed i hi;obtain⟨pre,post,hsplit⟩:=List.append_of_mem hiu;have hpw:(YE ops.size listed).Pairwise (· < ·):=List.Pairwise.filter _ List.pairwise_lt_range;rw[hsplit]at h hpw;obtain⟨_,hp2,hp3⟩:=Qm1.1 hpw;obtain⟨hi1,hi2⟩:=QmY.1 hiu;obtain⟨o,ho,h1,h2⟩:=hat i (QmZ.1 hi1);obtain⟨_,o',ho',h3⟩:=mem_ready.1 hi;rw[ho]at ho';cases ho';have hind:∀p,p∈pre→DJ (its.getD p YU) (its.getD i YU)=true:=by
    intro p hp;rcases h2 p (hp3 p hp i (QlG ..))with hbef|h
    ·exfalso;have hl1:=hbef.listed (L:=fun q=>listed.getD q false=true) hcl (fun o2 e ho2 he hb=>by rw[ho]at ho2;cases ho2;exact h3 e he hb);have hpu:p∈YE ops.size listed:=by rw[hsplit];exact List.mem_append_left _ hp
     obtain⟨hr1,hr2⟩:=QmY.1 hpu;have hlt':p<listed.size:=by rw[hsz];exact QmZ.1 hr1
     simp[QlF hlt']at hl1 hr2;rw[hl1]at hr2;cases hr2
    ·exact h
   have hb:=TP (P:=P) hind h;have hnext:YE ops.size (listed.setIfInBounds i true)=pre++post:=by
    have e1:YE ops.size (listed.setIfInBounds i true)=(YE ops.size listed).filter fun j=>j != i:=by
     unfold YE;rw[List.filter_filter];refine List.filter_congr fun j hj=>?_
     by_cases hji:j=i
     ·subst hji;have hlt':j<listed.size:=by rw[hsz];exact QmZ.1 hj
      simp[hlt']
     ·rw[getD_set_ne true (fun e=>hji e.symm)];simp[hji]
    rw[e1,hsplit,Qm2,Qm3];have e2:pre.filter (fun j=>j != i)=pre:=List.filter_eq_self.2 fun j hj=>by
     have:=hp3 j hj i (QlG ..);simp;omega
    have e3:post.filter (fun j=>j != i)=post:=List.filter_eq_self.2 fun j hj=>by
     have:=(Qm0.1 hp2).1 j hj;simp;omega
    rw[e2,e3];simp
   have hset:∀q,listed.getD q false=true→(listed.setIfInBounds i true).getD q false=true:=fun q hq'=>by
    by_cases hqi:q=i
    ·subst hqi;have hlt':q<listed.size:=by rw[hsz];exact QmZ.1 hi1
     simp[hlt']
    ·rw[getD_set_ne false (fun e=>hqi e.symm)];exact hq'
   have hcl':∀q,(listed.setIfInBounds i true).getD q false=true→∀o e,ops[q]? = some o→e∈o.after→Region.binds .any e=true→(listed.setIfInBounds i true).getD e.on false=true:=fun q hq' o2 e ho2 he2 hb2=>by
    by_cases hqi:q=i
    ·subst hqi;rw[ho]at ho2;cases ho2;exact hset _ (h3 e he2 hb2)
    ·rw[getD_set_ne false (fun e=>hqi e.symm)]at hq';exact hset _ (hcl q hq' o2 e ho2 he2 hb2)
   refine TO ho (hcs i o (by simpa using ho)) hb hr fun G' st' a' w' hk hr' he=>?_
   refine ih (listed.setIfInBounds i true) (by simpa using hsz) hcl' ?_ st' G' a' w' (by rw[hnext];exact hk) hr' fun G2 st2 a2 w2 hq2 hr2 he2=>hq G2 st2 a2 w2 hq2 hr2 (he.trans he2)
   rw[hnext];rw[hsplit]at hl;simp only[Ql2,QlD]at hl ⊢;omega

theorem TR {its:List Item}:HR its (List.range its.length)=its:=by
 apply List.ext_getElem
 ·simp[HR]
 ·intro i h1 h2;simp[HR,h2]

theorem Qbr {ops:Array Oper}{its:List Item}(hm:P.follows .mixedOrders=true)(hc:ZR P N ops ops.toList its=true)(hd:NJ ops its=true){st:St}{Q:St→Prop}(h:QD P its st Q){G:Gh}{B:Nat}{a:Act}{w:World}(hr:Rel G B N st a w){QQ:Exit→Act→World→Prop}{id:Nat}
  (hq:∀G' st' a' w',Q st'→Rel G' B N st' a' w'→Ext 1 G w G' w'→QQ .normal a' w'):(Code.region id ops true).wp P QQ a w:=by
 refine wp_region_any hm ?_;have hlen:=(FJ hc).1;simp only[QlU]at hlen;have hu:YE ops.size (Array.replicate ops.size false)=List.range its.length:=by
  unfold YE;rw[hlen];refine List.filter_eq_self.2 fun i hi=>?_
  simp[QmZ.1 hi]
 refine Io hc hd ops.size (Array.replicate ops.size false) xA (fun q hq'=>by rw[Qly]at hq';simp[Array.getElem?_replicate]at hq';split at hq'<;>cases hq') (by rw[hu];simp[hlen]) st G a _ (by rw[hu,TR];exact h) hr.drew fun G' st' a' w' h1 h2 h3=>hq G' st' a' w' h1 h2 ((Ext.drew G w).trans h3)

end

theorem NK {P:Program}{Q:Exit→Act→World→Prop}{a:Act}{w:World}{c rest:Code}(l:Nat)(J:Nat→Act→World→Prop)(hf:findLabel c l=some rest)
  (first:c.wp P (Exit.jump l (fun a' w'=>∃n,J n a' w') Q) a w)
  (pass:∀n a w,J n a w→rest.wp P (Exit.jump l (fun a' w'=>∃k,k<n∧J k a' w') Q) a w):(Code.scope c).wp P Q a w:=by
 intro b k cs;have hg:gotoIn l (.inScope c :: k)=some (.code rest :: .inScope c :: k):=by simp[gotoIn,hf]
 have key:∀n a w,J n a w→∃e a' w',Q e a' w'∧Arrives P (lone (b.at a (.code rest :: .inScope c :: k)) cs w) b k cs e a' w':=by
  intro n
  induction n using Nat.strongRecOn with
  |_ n ih=>
   intro a w hJ;obtain⟨e,a₁,w₁,hq,harr⟩:=pass n a w hJ b (.inScope c :: k) cs;cases e with
   |normal=>exact⟨.normal,a₁,w₁,hq,Steps.trans harr (.one step_inScope)⟩
   |exit id=>exact⟨.exit id,a₁,w₁,hq,fun k' hk=>harr k' (by simp[exitTo,hk])⟩
   |goto l'=>
    obtain⟨rfl,j,hlt,hJ'⟩:=hq;obtain⟨e₂,a₂,w₂,hq₂,harr₂⟩:=ih j hlt a₁ w₁ hJ';exact⟨e₂,a₂,w₂,hq₂,.of_steps (harr _ hg) harr₂⟩
   |ret=>exact⟨_,a₁,w₁,hq,harr⟩
   |panic ch=>exact⟨_,a₁,w₁,hq,harr⟩
   |outgrown=>exact⟨_,a₁,w₁,hq,harr⟩
 obtain⟨e,a₁,w₁,hq,harr⟩:=first b (.inScope c :: k) cs
 cases e with
 |normal=>exact⟨.normal,a₁,w₁,hq,.head step_scope (Steps.trans harr (.one step_inScope))⟩
 |exit id=>exact⟨.exit id,a₁,w₁,hq,fun k' hk=>.head step_scope (harr k' (by simp[exitTo,hk]))⟩
 |goto l'=>
  obtain⟨rfl,n,hJ⟩:=hq;obtain⟨e₂,a₂,w₂,hq₂,harr₂⟩:=key n a₁ w₁ hJ;exact⟨e₂,a₂,w₂,hq₂,.of_steps (.one step_scope) (.of_steps (harr _ hg) harr₂)⟩
 |ret=>exact⟨_,a₁,w₁,hq,.of_steps (.one step_scope) harr⟩
 |panic ch=>exact⟨_,a₁,w₁,hq,.of_steps (.one step_scope) harr⟩
 |outgrown=>exact⟨_,a₁,w₁,hq,.of_steps (.one step_scope) harr⟩

def Zt (P:Program)(N:Nat):RC→Code→Bool
 |.gho _ r,c=>Zt P N r c
 |.no,_=>true
 |.skip,c=>match c with
  |.skip=>true
  |_=>false
 |.goto l,c=>match c with
  |.goto i=>i==l
  |_=>false
 |.jump l a b,c=>match c with
  |.scope x=>Zt P N a x&&(match findLabel x l with
   |some y=>Zt P N b y
   |none=>false)
  |_=>false
 |.reg its,c=>match c with
  |.region _ ops false=>ZR P N ops ops.toList its
  |_=>false
 |.draw its,c=>match c with
  |.region _ ops true=>P.follows .mixedOrders&&ZR P N ops ops.toList its&&NJ ops its
  |_=>false
 |.seq a b,c=>match c with
  |.seq x y=>Zt P N a x&&Zt P N b y
  |_=>false
 |.cond r a b,c=>match c with
  |.cond o x y=>QM o r&&Zt P N a x&&Zt P N b y
  |_=>false
 |.block i a,c=>match c with
  |.block j x=>i==j&&Zt P N a x
  |_=>false
 |.loop a,c=>match c with
  |.loop x=>Zt P N a x
  |_=>false
 |.exit i,c=>match c with
  |.exit j=>i==j
  |_=>false
 |.scope a,c=>match c with
  |.scope x=>Zt P N a x
  |_=>false
 |.lab,c=>match c with
  |.label _=>true
  |_=>false
 |.ret,c=>match c with
  |.ret=>true
  |_=>false

section
variable {P:Program}{N B:Nat}

theorem CP:∀ {rc:RC} {c:Code} {st:St} {Q:Exit→St→Prop},QU P rc st Q→Zt P N rc c=true→∀ {G:Gh} {a:Act} {w:World},Rel G B N st a w→∀ {QQ:Exit→Act→World→Prop},
  (∀e G' st' a' w',Q e st'→Rel G' B N st' a' w'→Ext 1 G w G' w'→QQ e a' w')→c.wp P QQ a w:=by
 intro rc
 induction rc with
 |skip=>
  intro c st Q h hc G a w hr QQ hq;cases c<;>simp only[Zt,QlH]at hc;exact wp_skip (hq _ _ _ _ _ h hr (Ext.refl 1 G w))
 |reg its=>
  intro c st Q h hc G a w hr QQ hq;cases c<;>simp only[Zt,QlH]at hc;rename_i id ops d;cases d<;>simp only[QlH]at hc;refine wp_region_list ?_;exact P5 (N:=N) h ops ops.toList hc G B a w hr QQ fun G' st' a' w' h1 h2 h3=>hq _ _ _ _ _ h1 h2 h3
 |draw its=>
  intro c st Q h hc G a w hr QQ hq;cases c<;>simp only[Zt,QlH]at hc;rename_i id ops d;cases d<;>simp only[QlH,QlM]at hc;exact Qbr hc.1.1 hc.1.2 hc.2 h hr fun G' st' a' w' h1 h2 h3=>hq _ _ _ _ _ h1 h2 h3
 |seq x y ihx ihy=>
  intro c st Q h hc G a w hr QQ hq;cases c<;>simp only[Zt,QlH,QlM]at hc;refine wp_seq (ihx h hc.1 hr fun e G' st' a' w' h1 h2 h3=>?_);cases e with
  |normal=>exact ihy h1 hc.2 h2 fun e G2 st2 a2 w2 k1 k2 k3=>hq _ _ _ _ _ k1 k2 (h3.trans k3)
  |_=>exact hq _ _ _ _ _ h1 h2 h3
 |cond r x y ihx ihy=>
  intro c st Q h hc G a w hr QQ hq;cases c<;>simp only[Zt,QlH,QlM]at hc;rename_i o cx cy;obtain⟨t,ht,h1,h2⟩:=h;have hv:=Qv hr hc.1.1;rw[ht]at hv;have hv':a.eval o=.bool t:=by
   generalize a.eval o=v at hv;cases hv;rfl
  refine wp_cond_split hv' (fun e=>?_) (fun e=>?_)
  ·exact ihx (h1 e) hc.1.2 hr hq
  ·exact ihy (h2 e) hc.2 hr hq
 |block i x ih=>
  intro c st Q h hc G a w hr QQ hq;cases c<;>simp only[Zt,QlH,QlM,Qls]at hc;obtain⟨rfl,hc⟩:=hc;refine wp_block (ih h hc hr fun e G' st' a' w' h1 h2 h3=>?_);cases e with
  |exit j=>
   simp only[Exit.inBlock];simp only[Kb]at h1;split
   ·rename_i hh;rw[Qlv hh]at h1;exact hq _ _ _ _ _ h1 h2 h3
   ·rename_i hh;rw[Qlu hh]at h1;exact hq _ _ _ _ _ h1 h2 h3
  |_=>exact hq _ _ _ _ _ h1 h2 h3
 |loop x ih=>
  intro c st Q h hc G a w hr QQ hq;cases c<;>simp only[Zt,QlH]at hc;obtain⟨I,n,h0,hI⟩:=h;refine wp_loop_ghost (fun k a' w'=>∃G' st',I k st'∧Rel G' B N st' a' w'∧Ext 1 G w G' w') n ⟨G,st,h0,hr,Ext.refl 1 G w⟩ ?_;rintro k a' w' ⟨G',st',i1,i2,i3⟩;refine ih (hI k st' i1) hc i2 fun e G2 st2 a2 w2 h1 h2 h3=>?_
  cases e with
  |normal=>
   obtain⟨k',hk,hi⟩:=h1;exact⟨k',hk,G2,st2,hi,h2,i3.trans h3⟩
  |_=>exact hq _ _ _ _ _ h1 h2 (i3.trans h3)
 |exit i=>
  intro c st Q h hc G a w hr QQ hq;cases c<;>simp only[Zt,QlH,Qls]at hc;subst hc;exact wp_exit (hq _ _ _ _ _ h hr (Ext.refl 1 G w))
 |scope x ih=>
  intro c st Q h hc G a w hr QQ hq;cases c<;>simp only[Zt,QlH]at hc;refine wp_scope_straight (ih h hc hr fun e G' st' a' w' h1 h2 h3=>?_);cases e with
  |goto l=>exact h1.elim
  |_=>exact hq _ _ _ _ _ h1 h2 h3
 |goto l=>
  intro c st Q h hc G a w hr QQ hq;cases c<;>simp only[Zt,QlH,Qls]at hc;subst hc;exact wp_goto (hq _ _ _ _ _ h hr (Ext.refl 1 G w))
 |jump l x y ih ih2=>
  intro c st Q h hc G a w hr QQ hq;cases c<;>simp only[Zt,QlH,QlM]at hc;obtain⟨hc1,hc2⟩:=hc;split at hc2
  case h_2=>cases hc2
  rename_i z hz;obtain⟨I,h0,hI⟩:=h;refine NK l (fun k a' w'=>∃G' st',I k st'∧Rel G' B N st' a' w'∧Ext 1 G w G' w') hz ?_ ?_
  ·refine ih h0 hc1 hr fun e G2 st2 a2 w2 h1 h2 h3=>?_
   cases e with
   |goto i=>exact⟨h1.1,h1.2.imp fun n hn=>⟨G2,st2,hn,h2,h3⟩⟩
   |_=>exact hq _ _ _ _ _ h1 h2 h3
  ·rintro k a' w' ⟨G',st',i1,i2,i3⟩;refine ih2 (hI k st' i1) hc2 i2 fun e G2 st2 a2 w2 h1 h2 h3=>?_
   cases e with
   |goto i=>exact⟨h1.1,h1.2.imp fun n hn=>⟨hn.1,G2,st2,hn.2,h2,i3.trans h3⟩⟩
   |_=>exact hq _ _ _ _ _ h1 h2 (i3.trans h3)
 |lab=>
  intro c st Q h hc G a w hr QQ hq;cases c<;>simp only[Zt,QlH]at hc;exact wp_label (hq _ _ _ _ _ h hr (Ext.refl 1 G w))
 |ret=>
  intro c st Q h hc G a w hr QQ hq;cases c<;>simp only[Zt,QlH]at hc;exact wp_ret (hq _ _ _ _ _ h hr (Ext.refl 1 G w))
 |gho g x ih=>
  intro c st Q h hc G a w hr QQ hq;obtain⟨st',hg,h⟩:=h;obtain⟨G',h1,h2⟩:=Ij hr hg;exact ih h hc h1 fun e G2 st2 a2 w2 k1 k2 k3=>hq _ _ _ _ _ k1 k2 (h2.trans k3)
 |no=>
  intro c st Q h;exact h.elim

theorem MR.out {G:Gh}{fr:Nat→Ob}{m:Qk}{w:World}(h:MR G (fr :: m) w){S:Nat→Prop}(hS:∀b,S b→(∃s,G.vm 0 s=some b)∨∃s,G.nm 0 s=some b):MR ((G.pub w S).dn 1) m w:=by
 have hnS:∀l s b,G.nm (l+1) s=some b→¬S b:=fun l s b e hs=>by
  rcases hS b hs with⟨s',e'⟩|⟨s',e'⟩
  ·exact h.inj3 _ _ _ _ _ e e'
  ·have:=(h.inj1 _ _ _ _ _ e e').1;omega
 have hvS:∀l s b,G.vm (l+1) s=some b→¬S b:=fun l s b e hs=>by
  rcases hS b hs with⟨s',e'⟩|⟨s',e'⟩
  ·have:=(h.inj2 _ _ _ _ _ e e').1;omega
  ·exact h.inj3 _ _ _ _ _ e' e
 have hgle:Gle G (G.pub w S):=Gh.pub_gle h.stab;refine⟨fun b o v e=>?_,fun l s xs e=>?_,fun l s b e=>?_,fun l s g sz xs e=>?_,fun l s b e=>?_,fun l s e=>?_,fun l s l' s' b e e'=>?_,fun l s l' s' b e e'=>?_,fun l s l' s' b e e'=>?_,fun l s t p e=>h.iter (l+1) s t p e⟩
 ·have e:(G.pub w S).stab b o=some v:=e;by_cases hs:S b∧∀o,JO b o=none
  ·rw[Gh.pub_c hs]at e;exact V9 e
  ·rw[Gh.pub_n hs]at e;exact h.stab b o v e
 ·obtain⟨b,cs,e',hc,hr⟩:=h.cells (l+1) s xs e;refine⟨b,cs,e',hc,?_⟩;rw[Gh.dn_dn];exact hr.mono (hgle.dn (l+1))
 ·obtain⟨h1,h2⟩:=h.nm (l+1) s b e;refine⟨h1,fun o=>?_⟩;show(G.pub w S).stab b o=none;rw[Gh.pub_out (hnS _ _ _ e)];exact h2 o
 ·obtain⟨a1,a2,a3,a4⟩:=h.vec (l+1) s g sz xs e;exact⟨a1,a2,a3,a4.imp id fun⟨b,e',r⟩=>⟨b,e',r.of rfl fun vs hv=>RepL.rfd (G:=G) (G':=(G.pub w S).dn 1) hgle.stab a3.rf hv⟩⟩
 ·obtain⟨h1,h2⟩:=h.vm (l+1) s b e;refine⟨h1,fun o=>?_⟩;show(G.pub w S).stab b o=none;rw[Gh.pub_out (hvS _ _ _ e)];exact h2 o
 ·exact h.gone (l+1) s e
 ·obtain⟨h1,h2⟩:=h.inj1 _ _ _ _ _ e e';exact⟨xw,h2⟩
 ·obtain⟨h1,h2⟩:=h.inj2 _ _ _ _ _ e e';exact⟨xw,h2⟩
 ·exact h.inj3 _ _ _ _ _ e e'

def ZI (rs:List RR)(n:Nat)(R:AV→Qk→Prop):Exit→St→Prop:=fun e st=>
 (e=.normal∨e=.ret)∧st.ds=[]∧∃x y fr m,WR st rs=some x∧Yz st.m x=some y∧st.m=fr :: m∧m.length=n∧R y m

theorem PM {G:Gh}{args:List AV}{vs:List Value}(h:RepL G args vs){N:Nat}(i:Nat):Rep G.up (Cw (AV.shL args) i) (((vs.toArray++Array.replicate (N-vs.toArray.size) undef):Array Value).getD i undef):=by
 have h':RepL G.up (AV.shL args) vs:=RepL.sh (G:=G.up) (by rw[Gh.up_dn];exact h);have hl:=h'.length;unfold Cw;by_cases hi:i<vs.length
 ·obtain⟨x,e,hx⟩:=h'.back (Qln hi);rw[e];simp only[QmA,Qly];rw[Array.getElem?_append_left we]
  simpa [hi]using hx
 ·rw[QmO xw];simp only[Qm4,Qly];rw[Array.getElem?_append_right we];cases hx:(Array.replicate (N-vs.toArray.size) undef)[i-vs.toArray.size]? with
  |none=>exact .tup .nil
  |some v=>
   have:=Qlt.1 hx;obtain⟨_,h2⟩:=this;simp at h2;subst h2;exact .tup .nil

theorem GQ {fn:Func}{args:List AV}{m:Qk}{G:Gh}{w:World}{vs:List Value}(hvs:RepL G args vs)(hm:MR G m w)(hN:fn.ntmps=N)(ha:args.length≤N) :
  Rel G.up w.heap.size N (St.enter args m) { tmps:=vs.toArray++Array.replicate (fn.ntmps-vs.toArray.size) undef,defers:=[] } w:=by
 have hlen:=hvs.length;refine⟨hm.up,?_,fun i=>PM hvs i,.nil,fun s b e=>?_,Qlk _,by simp[St.enter]⟩
 ·simp;omega
 ·rcases e with e|e<;>cases e

theorem NM {fn:Func}{rs:List RR}{G G':Gh}{m m':Qk}{w w':World}{st':St}{a':Act}{fr:Nat→Ob}{x y:AV}{R:AV→Qk→Prop}(hr:Ke P fn.results.toList rs=true)(hr':Rel G' w.heap.size N st' a' w')(he:Ext 1 G.up w G' w')
  (hx:WR st' rs=some x) (hy:Yz st'.m x=some y) (hst:st'.m=fr :: m') (hml:m'.length=m.length) (hR:R y m') :
  ∃v,(results fn a'.tmps).run P w'=.ok v w'∧(∃G'' x v' m'',(Ending.returned v)=.returned v'∧R x m''∧Rep G'' x v'∧MR G'' m'' w'∧Ext 0 G w G'' w'∧m''.length=m.length):=by
 obtain⟨v,hrun,hv⟩:=Qbn (P:=P) hr' hr hx
 let S:Nat→Prop:=fun b=>(∃s,G'.vm 0 s=some b)∨∃s,G'.nm 0 s=some b
 have hmr:=hr'.mr;have hSt:∀l s b,(true&&l != 0)=false→G'.vm l s=some b→S b:=by
  intro l s b hl e;have:l=0:=kD
  subst this;exact .inl ⟨s,e⟩
 unfold Yz at hy;rw[Option.bind_eq_some_iff]at hy;obtain⟨z,hz,hy⟩:=hy;have hv2:=Rep.un (FH hmr (own:=true) (S:=S) hSt (fun _ s b _ _ _ e _=>.inr ⟨s,e⟩) hv z hz) y hy;rw[hst]at hmr;have hout:=hmr.out (S:=S) (fun b hs=>hs);have hmine:∀b,((G'.pub w' S).dn 1).mine b→G'.mine b:=by
  rintro b (⟨l,s,e⟩|⟨l,s,e⟩)
  ·exact .inl ⟨l+1,s,e⟩
  ·exact .inr ⟨l+1,s,e⟩
 have hext:Ext 0 G w ((G'.pub w' S).dn 1) w':=by
  refine⟨he.os,he.tape,he.output,he.size,fun b o v e=>?_,fun l s _=>he.nm (l+1) s xw,fun l s=>he.vg (l+1) s,fun l s e=>he.vs (l+1) s e,fun b hb hnm=>?_,fun b hb=>?_,fun l s b e=>?_⟩
  ·exact(Gh.pub_gle (S:=S) hr'.mr.stab).stab b o v (he.stab b o v e)
  ·obtain⟨h1,h2⟩:=he.old b hb (fun hx=>hnm (Gh.up_mine.1 hx));refine⟨h1,fun o=>?_⟩;have hnS:¬S b:=by
    rintro(⟨s,e⟩|⟨s,e⟩)
    ·have:=hr'.base s b (.inr e);omega
    ·have:=hr'.base s b (.inl e);omega
   show(G'.pub w' S).stab b o=G.stab b o;rw[Gh.pub_out hnS];exact h2 o
  ·rcases he.mine b (hmine b hb)with h1|h1
   ·exact .inl (Gh.up_mine.1 h1)
   ·exact .inr h1
  ·rcases he.mv (l+1) s b e with⟨i,t,hi,h1⟩|h1
   ·cases i with
    |zero=>cases h1
    |succ i=>exact .inl ⟨i,t,xw,h1⟩
   ·exact .inr h1
 exact⟨v,hrun,_,y,v,m',rfl,hR,hv2,hout,hext,hml⟩

theorem GD {k:FuncId} {fn:Func} {c:Code} {rc:RC} {rs:List RR} {args:List AV} {m:Qk} {R:AV→Qk→Prop} (hf:P.funcs[k]? = some fn) (hb:fn.body=some c) (hn:(fn.name == "runtime.NumGoroutine")=false) (hN:fn.ntmps=N) (hc:Zt P N rc c=true) (hr:Ke P fn.results.toList rs=true)
  (ha:args.length≤N) (h:QU P rc (St.enter args m) (ZI rs m.length R)):Qe P k args m R:=by
 refine⟨⟨fn,hf,hn,q8⟩,fun G w vs hvs hm=>?_⟩;refine calls_of_wp hf hb ?_;exact oM

def Ug (P:Program)(k:FuncId)(args:List AV)(m:Qk)(R:AV→Qk→Prop):Prop :=
 HO P k∧∀(G:Gh) (w:World) (vs:List Value),RepL G args vs→MR G m w→∀u,CallsD P k ⟨vs⟩ u w fun e u' w'=>u'=u∧∃G' x v m',e=.returned v∧R x m'∧Rep G' x v∧MR G' m' w'∧Ext 0 G w G' w'∧m'.length=m.length

theorem NN {k:FuncId} {fn:Func} {c:Code} {rc:RC} {rs:List RR} {args:List AV} {m:Qk} {R:AV→Qk→Prop} (hf:P.funcs[k]? = some fn) (hb:fn.body=some c) (hn:(fn.name == "runtime.NumGoroutine")=false) (hN:fn.ntmps=N) (hc:Zt P N rc c=true) (hr:Ke P fn.results.toList rs=true)
  (ha:args.length≤N) (h:QU P rc (St.enter args m) (ZI rs m.length R)):Ug P k args m R:=by
 refine⟨⟨fn,hf,hn,q8⟩,fun G w vs hvs hm u=>?_⟩;refine callsD_of_wp (R:=fun e w'=>∃G' x v m',e=.returned v∧R x m'∧Rep G' x v∧MR G' m' w'∧Ext 0 G w G' w'∧m'.length=m.length) hf hb ?_;exact oM

def DK (P:Program)(rs:List RR)(n:Nat)(R:AV→Qk→Prop)(f:Fr):List DF→Qk→Prop
 | [],m=>∃x y fr m',WR ⟨f,m,[]⟩ rs=some x∧Yz m x=some y∧m=fr :: m'∧m'.length=n∧R y m'
 |d :: ds,m=>∃k,d.fn=.func k∧Ug P k (d.args++d.cap) m fun _ m1=>DK P rs n R f ds m1

theorem Vv {fn:Func}{rs:List RR}{G:Gh}{m:Qk}{w:World}{R:AV→Qk→Prop}(hr:Ke P fn.results.toList rs=true)(hm:MR G m w)(f:Fr):∀(ds:List DF) (m1:Qk) (G1:Gh) (a:Act) (w1:World),DK P rs m.length R f ds m1→Rel G1 w.heap.size N ⟨f,m1,ds⟩ a w1→Ext 1 G.up w G1 w1→
  Leaves P fn a.tmps (fun e w'=>∃G' x v m',e=.returned v∧R x m'∧Rep G' x v∧MR G' m' w'∧Ext 0 G w G' w'∧m'.length=m.length) a.defers .returning w1
 | [],m1,G1,a,w1,h,hrel,he=>by
  obtain⟨x,y,fr,m',hx,hy,hst,hml,hR⟩:=h;have hdef:a.defers=[]:=by
   have:=hrel.ds;cases hd:a.defers with
   |nil=>rfl
   |cons d l=>rw[hd]at this;cases this
  rw[hdef];exact NM (R:=R) hr hrel he hx hy hst hml hR
 |d :: ds,m1,G1,a,w1,h,hrel,he=>by
  obtain⟨k,hk,⟨fn',hf',hn',hb'⟩,hcall⟩:=h;cases hd:a.defers with
  |nil=>have:=hrel.ds;rw[hd]at this;cases this
  |cons dv dvs=>
   have hds:=hrel.ds;rw[hd]at hds;cases hds with
   |cons hd1 hds'=>
    cases hd1 with
    |mk hcap hargs=>
     rename_i fnn cap args vc va;have hk:fnn=.func k:=hk;subst hk;have hc2:=hcall G1 w1 (va++vc) (hargs.append hcap) hrel.mr .returning;refine⟨xA,.func k,⟨vc⟩,k,⟨va++vc⟩,rfl,?_,?_⟩
     ·simp only[invoke,callFunc,Sem.run_bind,run_program,Result.andThen_ok,hf',hn',QlH,if_false,hb'];simp
     ·intro c cs hu;obtain⟨e,u',w',fr',⟨hu',G2,x,v,m2,rfl,hR2,hv2,hm2,he2,hl2⟩,h1,h2,h3⟩:=hc2 c cs hu;subst hu';refine⟨_,_,w',fr',?_,h1,h2,h3⟩;show Leaves P fn a.tmps _ dvs (settle .returning) w';have hrel2:=hrel.after hm2 he2 hl2;have hrel3:Rel G2 w.heap.size N ⟨f,m2,ds⟩ { a with defers:=dvs } w' :=
       ⟨hrel2.mr,hrel2.size,hrel2.slots,hds'.mono he2.gle,hrel2.base,hrel2.top,hrel2.ne⟩
      exact Vv hr hm f ds m2 G2 { a with defers:=dvs } w' hR2 hrel3 (he.trans (he2.mono (Qlx _)))

theorem NO {k:FuncId} {fn:Func} {c:Code} {rc:RC} {rs:List RR} {args:List AV} {m:Qk} {R:AV→Qk→Prop} (hf:P.funcs[k]? = some fn) (hb:fn.body=some c) (hn:(fn.name == "runtime.NumGoroutine")=false) (hN:fn.ntmps=N) (hc:Zt P N rc c=true) (hr:Ke P fn.results.toList rs=true)
  (ha:args.length≤N) (h:QU P rc (St.enter args m) (fun e st=>(e=.normal∨e=.ret)∧DK P rs m.length R st.f st.ds st.m)):Qe P k args m R:=by
 refine⟨⟨fn,hf,hn,q8⟩,fun G w vs hvs hm=>?_⟩;refine calls_of_wp_defers hf hb ?_;refine CP h hc (GQ hvs hm hN ha) fun e G' st' a' w' hq hr' he=>?_
 obtain⟨hex,hlv⟩:=hq;have:=Vv (N:=N) hr hm st'.f st'.ds st'.m G' a' w' hlv hr' he;rcases hex with rfl|rfl
 ·exact this
 ·exact this

end

def CK (P:Program)(k N:Nat)(rc:RC)(rs:List RR):Prop :=
 ∃fn c, P.funcs[k]? = some fn∧fn.body=some c∧(fn.name == "runtime.NumGoroutine")=false∧fn.ntmps=N∧Zt P N rc c=true∧Ke P fn.results.toList rs=true
theorem CK.go {P:Program}{k N:Nat}{rc:RC}{rs:List RR}{args:List AV}{m:Qk}{R:AV→Qk→Prop}(h:CK P k N rc rs)(ha:args.length≤N)(w:QU P rc (St.enter args m) (ZI rs m.length R)):Qe P k args m R:=by
 obtain⟨fn,c,h1,h2,h3,h4,h5,h6⟩:=h;exact GD h1 h2 h3 h4 h5 h6 ha w
theorem ck {P:Program} {k N:Nat} {fn:Func} {rc:RC} {rs:List RR} (hf:P.funcs[k]? = some fn) (hN:fn.ntmps=N) (h:(fn.body.isSome && !(fn.name == "runtime.NumGoroutine")&&Zt P N rc (fn.body.getD .skip)&&Ke P fn.results.toList rs)=true := by decide +kernel):CK P k N rc rs := by
 simp only[QlM,Qmm,QlQ]at h;obtain⟨⟨⟨⟨c,hc⟩,h1⟩,h2⟩,h3⟩:=h;rw[hc]at h2;exact⟨fn,c,hf,hc,h1,hN,h2,h3⟩
theorem CK.dd {P:Program}{k N:Nat}{rc:RC}{rs:List RR}{args:List AV}{m:Qk}{R:AV→Qk→Prop}(h:CK P k N rc rs)(ha:args.length≤N)(w:QU P rc (St.enter args m) (ZI rs m.length R)):Ug P k args m R:=by
 obtain⟨fn,c,h1,h2,h3,h4,h5,h6⟩:=h;exact NN h1 h2 h3 h4 h5 h6 ha w
theorem CK.gd {P:Program}{k N:Nat}{rc:RC}{rs:List RR}{args:List AV}{m:Qk}{R:AV→Qk→Prop}(h:CK P k N rc rs)(ha:args.length≤N)(w:QU P rc (St.enter args m) (fun e st=>(e=.normal∨e=.ret)∧DK P rs m.length R st.f st.ds st.m)):Qe P k args m R:=by
 obtain⟨fn,c,h1,h2,h3,h4,h5,h6⟩:=h;exact NO h1 h2 h3 h4 h5 h6 ha w
theorem CK.rl {P:Program}{k N:Nat}{rc:RC}{rs:List RR}{args:List AV}{R:AV→Prop}(h:CK P k N rc rs)(ha:args.length≤N)(w:QU P rc (St.enter args []) (ZI rs 0 fun x _=>R x)):Fn? P k args R:=h.go ha w
theorem CK.fn {P:Program}{k N:Nat}{rc:RC}{rs:List RR}{args:List AV}{v:AV}(h:CK P k N rc rs)(ha:args.length≤N)(w:QU P rc (St.enter args []) (ZI rs 0 fun x _=>x=v)):Qh P k args v:=h.go ha w

section
variable {P:Program}{f:Fr}{m:Qk}{ds:List DF}{K:St→Prop}{Q:Exit→St→Prop}{its:List Item}{d:Nat}

def Kc (P:Program)(b:RC)(Q:Exit→St→Prop):Exit→St→Prop:=Ks (fun st'=>QU P b st' Q) Q
def Kl (I:Nat→St→Prop)(n:Nat)(Q:Exit→St→Prop):Exit→St→Prop:=Ks (fun s=>∃k,k<n∧I k s) Q

theorem Hq {st:St}:QU P .skip st Q=Q .normal st:=id rfl
theorem QgO {st:St}:QU P .no st Q=False:=id rfl
theorem LP {st:St}:QU P .lab st Q=Q .normal st:=id rfl
theorem LQ {st:St}:QU P .ret st Q=Q .ret st:=id rfl
theorem TS {st:St}{i:Nat}:QU P (.exit i) st Q=Q (.exit i) st:=id rfl
theorem HS {st:St}:QU P (.reg its) st Q=QD P its st (Q .normal):=id rfl
theorem TT {st:St}:QU P (.draw its) st Q=QD P its st (Q .normal):=id rfl
theorem HT {st:St}{a b:RC}:QU P (.seq a b) st Q=QU P a st (Kc P b Q):=id rfl
theorem P6 {st:St}{i:Nat}{a:RC}:QU P (.block i a) st Q=QU P a st (Kb i Q):=id rfl
theorem P7 {st:St}{a:RC}:QU P (.scope a) st Q=QU P a st (Kg Q):=id rfl
def NP:AV→Bool
 |.bool b=>b
 |_=>false
def TU:AV→Prop
 |.bool _=>True
 |_=>False
theorem TV (b:Bool):NP (.bool b)=b:=id rfl
theorem LR (b:Bool):TU (.bool b)=True:=id rfl
def FK (P:Program)(v:AV)(a b:RC)(st:St)(Q:Exit→St→Prop):Prop:=TU v∧(NP v=true→QU P a st Q)∧(NP v=false→QU P b st Q)
theorem HU {a b:RC}{st:St}:FK P (.bool true) a b st Q=QU P a st Q:=by simp[FK,TU,NP]
theorem Yn {a b:RC}{st:St}:FK P (.bool false) a b st Q=QU P b st Q:=by simp[FK,TU,NP]
theorem QV {t:Bool}{a b:RC}{st:St}(h1:t=true→QU P a st Q)(h2:t=false→QU P b st Q):FK P (.bool t) a b st Q:=⟨trivial,h1,h2⟩
theorem YF {c:RA}{a b:RC}:QU P (.cond c a b) ⟨f,m,ds⟩ Q=FK P (c.ev f) a b ⟨f,m,ds⟩ Q:=by
 simp only[QU,FK];generalize c.ev f=v;cases v<;>simp[NP,TU]

theorem JR {b:RC}{st:St}:Kc P b Q .normal st=QU P b st Q:=id rfl
theorem TW {b:RC}{st:St}{i:Nat}:Kc P b Q (.exit i) st=Q (.exit i) st:=id rfl
theorem TX {b:RC}{st:St}:Kc P b Q .ret st=Q .ret st:=id rfl
theorem TZ {st:St}{i:Nat}:Kb i Q .normal st=Q .normal st:=id rfl
theorem BB {st:St}{i j:Nat}:Kb i Q (.exit j) st=if j=i then Q .normal st else Q (.exit j) st:=id rfl
theorem T0 {st:St}{i:Nat}:Kb i Q .ret st=Q .ret st:=id rfl
theorem T1 {st:St}:Kg Q .normal st=Q .normal st:=id rfl
theorem T2 {st:St}{j:Nat}:Kg Q (.exit j) st=Q (.exit j) st:=id rfl
theorem T3 {st:St}:Kg Q .ret st=Q .ret st:=id rfl
theorem T4 {I:Nat→St→Prop}{n:Nat}{st:St}:Kl I n Q .normal st = ∃k,k<n∧I k st:=id rfl
theorem T5 {I:Nat→St→Prop}{n:Nat}{st:St}{j:Nat}:Kl I n Q (.exit j) st=Q (.exit j) st:=id rfl
theorem T6 {I:Nat→St→Prop}{n:Nat}{st:St}:Kl I n Q .ret st=Q .ret st:=id rfl

theorem Qi {a:RC}{st:St}(I:Nat→St→Prop)(n:Nat)(h0:I n st)(h:∀n st',I n st'→QU P a st' (Kl I n Q)):QU P (.loop a) st Q:=⟨I,n,h0,h⟩

theorem WS {st:St}:QD P [] st K=K st:=id rfl
def XC (x:Option AV):AV:=x.getD .top
def Zw (x:Option AV):Prop:=x.isSome=true
theorem JS (x:AV):XC (some x)=x:=id rfl
theorem WT (x:AV):Zw (some x)=True:=by simp[Zw]
theorem WU {vo:VO}:QD P (⟨some d,.val vo,none⟩ :: its) ⟨f,m,ds⟩ K=(Zw (Qx f m vo)∧QD P its ⟨QJ f d (XC (Qx f m vo)),m,ds⟩ K):=by
 simp only[QD,ZQ,GC,Ql];generalize Qx f m vo=v;cases v<;>simp[XC,Zw]

def mget (x:Option Qk):Qk:=x.getD []
def P8 (x:Option Qk):Prop:=x.isSome=true
theorem Qc7 (x:Qk):mget (some x)=x:=id rfl
theorem Qfn (x:Qk):P8 (some x)=True:=by simp[P8]
theorem Qbs {n:Nat}{p r:RA}:QD P (⟨none,.store n p r,none⟩ :: its) ⟨f,m,ds⟩ K=((r.ev f).cells.length=n∧(r.ev f).cells.all AV.leaf=true∧P8 (Xp m (p.ev f) (r.ev f).cells)∧QD P its ⟨f,mget (Xp m (p.ev f) (r.ev f).cells),ds⟩ K):=by
 simp only[QD,ZQ,GC,Ql];exact xv
def Ip (l s:Nat)(v:AV):Prop:=∃o,v=.ptr l s o
theorem Qc8 (l s o:Nat):Ip l s (.ptr l s o)=True:=eq_true ⟨o,rfl⟩
theorem Iq {l s n:Nat}{p r:RA}:QD P (⟨none,.storev l s n p r,none⟩ :: its) ⟨f,m,ds⟩ K=(Ip l s (p.ev f)∧(r.ev f).cells.length=n∧(r.ev f).cells.all AV.leaf=true∧P8 (Xp m (p.ev f) (r.ev f).cells)∧QD P its ⟨f,mget (Xp m (p.ev f) (r.ev f).cells),ds⟩ K):=by
 simp only[QD,ZQ,GC,Ql,Ip];exact xv
theorem Ir {s:Nat}{z:List AV}:QD P (⟨some d,.allocN s z,none⟩ :: its) ⟨f,m,ds⟩ K=(Zs m s=true∧QD P its ⟨QJ f d (.ptr 0 s 0),Am.put m 0 s (.cells z),ds⟩ K):=id rfl
theorem Qc9 {s:Nat}{r:RA}:QD P (⟨some d,.boxN s r,none⟩ :: its) ⟨f,m,ds⟩ K=(Zs m s=true∧(r.ev f).cells.all AV.leaf=true∧QD P its ⟨QJ f d (.ptr 0 s 0),Am.put m 0 s (.cells (r.ev f).cells),ds⟩ K):=id rfl

theorem LS {sz len:Nat}{z:List AV}{ps:List (Nat×Nat×RA)}{y:List AV}(hy:fill f ps (X5 z sz len)=some y)(h1:AV.rfL y=true)(h2:y.all AV.leaf=true):QD P (⟨some d,.bsl sz len z ps,none⟩ :: its) ⟨f,m,ds⟩ K=QD P its ⟨QJ f d (.list (Zz sz len (y.map nn0))),m,ds⟩ K:=by
 apply propext
 constructor
 ·rintro⟨y',h,_,_,k⟩;have h:fill f ps (X5 z sz len)=some y':=h;rw[hy]at h;cases h;exact k
 ·intro k;exact⟨y,hy,h1,h2,k⟩
theorem Qda {z:AV}{r:RA}{k:IntKind}{n:Int}(hr:r.ev f=.int k n):QD P (⟨some d,.bsl 1 1 [z] [(0,1,r)],none⟩ :: its) ⟨f,m,ds⟩ K=QD P its ⟨QJ f d (.list [.int k n]),m,ds⟩ K:=by
 refine LS (y:=[.int k n]) ?_ rfl rfl;simp[fill,hr,AV.cells,AV.leaf,X5,List.range_succ,splice]

theorem WE {z:AV}{r:RA}{k:IntKind}{n:Int}(hr:r.ev f=.int k n)(h:QD P its ⟨QJ f d (.list [.int k n]),m,ds⟩ K):QD P (⟨some d,.bsl 1 1 [z] [(0,1,r)],none⟩ :: its) ⟨f,m,ds⟩ K:=by
 rw[Qda hr];exact h

theorem Vw {sz:Nat}{z l:List AV}{r:RA}(hr:r.ev f=.agg l)(hl:l.length=sz)(h1:sz≠1)(hf:AV.rfL l=true)(hlf:l.all AV.leaf=true)(h:QD P its ⟨QJ f d (.list [.agg (l.map nn0)]),m,ds⟩ K) :
  QD P (⟨some d,.bsl sz 1 z [(0,sz,r)],none⟩ :: its) ⟨f,m,ds⟩ K:=by
 have hz:(X5 z sz 1).length=sz:=by simp[X5]
 have hy:fill f [(0,sz,r)] (X5 z sz 1)=some l:=by
  exact yv
 rw[LS hy hf hlf];have hc:Zz sz 1 (l.map nn0)=[.agg (l.map nn0)]:=by
  simp only[Zz,Qlu h1];rw[QlY kz]
 rw[hc];exact h

theorem Ug.mono {k:FuncId}{args:List AV}{m:Qk}{R R':AV→Qk→Prop}(h:Ug P k args m R)(hr:∀x m',R x m'→R' x m'):Ug P k args m R' :=
 ⟨h.1,fun G w vs h1 h2 u c cs hu=>by
  obtain⟨e,u',w',fr,⟨h3,G',x,v,m',h4,h5,h6⟩,h7⟩:=h.2 G w vs h1 h2 u c cs hu;exact⟨e,u',w',fr,⟨h3,G',x,v,m',h4,hr _ _ h5,h6⟩,h7⟩⟩

theorem XO {slot site sz:Nat}{a:RC}{fr:Nat→Ob}(h1:f slot=.nils)(h2:fr site=.none)(h:QU P a ⟨QJ f slot (.vec 0 site 1 0 0 false),QJ fr site (.vec 1 sz []) :: m,ds⟩ Q):QU P (.gho (.vec slot site sz) a) ⟨f,fr :: m,ds⟩ Q:=by
 refine⟨_,?_,h⟩;have e:Qc (fr :: m) 0 site=.none:=h2;simp[JL,h1,e,Qn,Qz,Am.put]

theorem WF {fr:Nat→Ob}{site g sz n:Nat}{q:Bool}{xs:List AV}(hl:fr site=.vec g sz xs)(hn:n=xs.length):Q1 (fr :: m) (.vec 0 site g 0 n q)=some xs:=by
 subst hn;simp[Q1,Am.Qc,hl]

theorem QF {sz bytes el:Nat}{s r:RA}{site g n:Nat}{fr:Nat→Ob}{xs ys:List AV}(hs:s.ev f=.vec 0 site g 0 n false)(hl:fr site=.vec g sz xs)(ht:Zk site el=true)(hn:n=xs.length)(hr:r.ev f=.list ys)(hz:ys.all (fun e=>e.cells.length==sz)=true)(hm:n+ys.length≤maxLen)(hb:(n+ys.length)*bytes≤140737488355328)
  (h:QD P its ⟨QJ f d (.vec 0 site (g+1) 0 (n+ys.length) false),QJ fr site (.vec (g+1) sz (xs++ys)) :: m,ds⟩ K):QD P (⟨some d,.app sz bytes el s r,none⟩ :: its) ⟨f,fr :: m,ds⟩ K:=by
 refine⟨0,site,g,n,xs,ys,hs,hl,ht,xw,?_,hz,hm,hb,?_⟩
 ·show Q1 (fr :: m) (r.ev f)=some ys;rw[hr];rfl
 ·subst hn;rw[Qm5];exact h

theorem Zf {k:Nat}{args:List RA}{ys:List AV}{v:AV}(hk:Qh P k ys v)(hy:AV.stillL false m (args.map (RA.ev f))=some ys)(h1:AV.rfL ys=true)(h2:v.rf=true)(h3:AV.rfL (args.map (RA.ev f))=true∨v.nl=true)(h:QD P its ⟨QJ f d v,m,ds⟩ K) :
  QD P (⟨some d,.call (.f k) args,none⟩ :: its) ⟨f,m,ds⟩ K:=by
 refine⟨k,[],[],ys,v,rfl,?_,h1,hk,h2,?_,h⟩
 ·simpa using hy
 ·simpa using h3

theorem aC {k:Nat}{args:List RA}{ys:List AV}{v:AV}(hk:Qh P k ys v)(h:QD P its ⟨QJ f d v,m,ds⟩ K)(hy:AV.stillL false m (args.map (RA.ev f))=some ys:=by rfl)(h1:AV.rfL ys=true:=by rfl)(h2:v.rf=true:=by rfl)(h3:AV.rfL (args.map (RA.ev f))=true∨v.nl=true:=by exact .inl rfl) :
  QD P (⟨some d,.call (.f k) args,none⟩ :: its) ⟨f,m,ds⟩ K:=Zf hk hy h1 h2 h3 h

theorem P9 {cnt:Bool}{k:Nat}{s c:RA}{t:List UInt8}{b:Int}(hs:s.ev f=.str t)(hb:c.ev f=.int .u8 b)(h:QD P its ⟨QJ f d (.int .i64 (Bq cnt t b)),m,ds⟩ K):QD P (⟨some d,.xb cnt k s c,none⟩ :: its) ⟨f,m,ds⟩ K :=
 ⟨t,b,hs,hb,h⟩

theorem Vx {s:Nat}{r:RA}{fr:Nat→Ob}{t:List UInt8}(ht:r.ev f=.str t)(hn:fr s=.none)(h:QD P its ⟨QJ f d (.ptr 0 s 0),QJ fr s (.iter (.str t) 0) :: m,ds⟩ K) :
  QD P (⟨some d,.rngs s r,none⟩ :: its) ⟨f,fr :: m,ds⟩ K:=by
 refine⟨t,ht,?_,h⟩;show(match fr s with|.none=>true|_=>false)=true;rw[hn]

theorem Vy {s p:Nat}{r:RA}{fr:Nat→Ob}{t:List UInt8}(hr:r.ev f=.ptr 0 s 0)(hl:fr s=.iter (.str t) p)
  (h1:p<t.length→QD P its ⟨QJ f d (.tup [.bool true,.int .i64 (p:Nat),.int .i32 ((X6 t p).1:Nat)]),QJ fr s (.iter (.str t) (p+(X6 t p).2)) :: m,ds⟩ K)
  (h2:t.length≤p→QD P its ⟨QJ f d (.tup [.bool false]),fr :: m,ds⟩ K) :
  QD P (⟨some d,.nxts r,none⟩ :: its) ⟨f,fr :: m,ds⟩ K :=
 ⟨0,s,t,p,hr,hl,h1,h2⟩

theorem Qj {k:Nat}{args:List RA}{ys:List AV}{v:AV}{m':Qk}(hk:Qe P k ys m fun x m1=>x=v∧m1=m')(hy:args.map (RA.ev f)=ys)(h:QD P its ⟨QJ f d v,m',ds⟩ K) :
  QD P (⟨some d,.callF (.f k) args,none⟩ :: its) ⟨f,m,ds⟩ K:=by
 refine⟨k,[],[],v,m',rfl,?_,h⟩;show Qe P k (args.map (RA.ev f)++[]) m fun x m1=>x=v∧m1=m'
 rw[Qms,hy];exact hk

theorem QO {k:Nat}{args:List RA}{ys:List AV}{R:AV→Qk→Prop}(hk:Qe P k ys m R)(hy:args.map (RA.ev f)=ys)(h:∀x m',R x m'→m'.length=m.length→QD P its ⟨QJ f d x,m',ds⟩ K) :
  QD P (⟨some d,.callG (.f k) args,none⟩ :: its) ⟨f,m,ds⟩ K:=by
 refine⟨k,[],[],R,rfl,?_,h⟩;show Qe P k (args.map (RA.ev f)++[]) m R;rw[Qms,hy];exact hk
theorem DL {site el sz bytes:Nat}{z:List AV}{l c:RA}{kl kc:IntKind}{n k:Nat}{fr:Nat→Ob}(hl:l.ev f=.int kl (n:Int))(hc:c.ev f=.int kc (k:Int))(hnk:n≤k)(hk:k≤9223372036854775807)(hb:bytes*k≤281474976710656)(hs:fr site=.none)
  (h:QD P its ⟨QJ f d (.vec 0 site 1 0 n false),QJ fr site (.vec 1 sz (List.replicate n (ZS sz z))) :: m,ds⟩ K):QD P (⟨some d,.mk site el sz bytes z l c,none⟩ :: its) ⟨f,fr :: m,ds⟩ K:=by
 have e:Qc (fr :: m) 0 site=.none:=hs;refine⟨kl,kc,n,k,hl,hc,hnk,hk,hb,?_,?_⟩
 ·show Qn (Qc (fr :: m) 0 site)=true;rw[e];rfl
 ·exact xm

theorem Is {site el:Nat}{r:RA}{s:List UInt8}{fr:Nat→Ob}(hr:r.ev f=.str s)(hl:s.length≤9223372036854775807)(hs:fr site=.none)
  (h:QD P its ⟨QJ f d (.vec 0 site 1 0 s.length false),QJ fr site (.vec 1 1 (Qw s)) :: m,ds⟩ K):QD P (⟨some d,.s2b site el r,none⟩ :: its) ⟨f,fr :: m,ds⟩ K:=by
 have e:Qc (fr :: m) 0 site=.none:=hs;refine⟨s,hr,hl,?_,?_⟩
 ·show Qn (Qc (fr :: m) 0 site)=true;rw[e];rfl
 ·exact xm

theorem GR {el:Nat}{s r:RA}{l site g n:Nat}{xs:List AV}{t:List UInt8}(hs:s.ev f=.vec l site g 0 n false)(hl:Qc m l site=.vec g 1 xs)(ht:Zk site el=true)(hn:n=xs.length)(hr:r.ev f=.str t)(hm:n+t.length≤140737488355328)
  (h:QD P its ⟨QJ f d (.vec l site (g+1) 0 (n+t.length) false),Am.put m l site (.vec (g+1) 1 (xs++Qw t)),ds⟩ K):QD P (⟨some d,.appS el s r,none⟩ :: its) ⟨f,m,ds⟩ K:=by
 subst hn;refine⟨l,site,g,_,xs,t,hs,hl,ht,Qlk _,hr,hm,?_⟩;rw[Qm5];exact h

theorem T7 {s:Nat}{a:RC}{fr:Nat→Ob}:QU P (.gho (.drop s) a) ⟨f,fr :: m,ds⟩ Q=((fr s).isRow=false∧QU P a ⟨fun i=>(f i).scrub s,QJ (fun i=>(fr i).scrub s) s .none :: m,ds.map (DF.scrub s)⟩ Q):=by
 apply propext
 have hn:HK (fr :: m) s=!(fr s).isRow:=by
  unfold HK;show(match fr s with|.vec .. => false|_=>true)=_;cases fr s<;>rfl
 constructor
 ·rintro⟨st',h1,h2⟩;simp only[JL,hn]at h1;cases hr:(fr s).isRow with
  |true=>rw[hr]at h1;cases h1
  |false=>rw[hr]at h1;cases h1;exact⟨rfl,h2⟩
 ·rintro⟨h1,h2⟩;refine⟨_,?_,h2⟩;simp only[JL,hn,h1];rfl
theorem T8 (s:Nat):AV.top.scrub s=.top:=id rfl
theorem T9 (s:Nat)(k:IntKind)(n:Int):(AV.int k n).scrub s=.int k n:=id rfl
theorem Sv (s:Nat)(b:Bool):(AV.bool b).scrub s=.bool b:=id rfl
theorem Aa (s:Nat)(b:List UInt8):(AV.str b).scrub s=.str b:=id rfl
theorem Sw (s:Nat):AV.nils.scrub s=.nils:=id rfl
theorem Sx (s:Nat):AV.nilp.scrub s=.nilp:=id rfl
theorem Sy (s:Nat):AV.nili.scrub s=.nili:=id rfl
theorem Sz (s:Nat):AV.nilf.scrub s=.nilf:=id rfl
theorem SA (s:Nat)(l:List AV):(AV.list l).scrub s=.list l:=id rfl
theorem Ab (s l t g o n:Nat)(q:Bool):(AV.vec l t g o n q).scrub s=.vec l t g o n q:=id rfl
theorem Ad (s:Nat)(l:List AV):(AV.agg l).scrub s=.agg (AV.scrubL s l):=id rfl
theorem Ae (s:Nat)(l:List AV):(AV.tup l).scrub s=.tup (AV.scrubL s l):=id rfl
theorem Ah (s t o:Nat):(AV.ptr 0 t o).scrub s=bif Nat.beq t s then .top else .ptr 0 t o:=id rfl
theorem SB (s l t o:Nat):(AV.ptr (l+1) t o).scrub s=.ptr (l+1) t o:=id rfl
theorem Ai (s:Nat):AV.scrubL s []=[]:=id rfl
theorem SC (s:Nat)(x:AV)(l:List AV):AV.scrubL s (x :: l)=x.scrub s :: AV.scrubL s l:=id rfl
theorem PP (s:Nat)(l:List AV):(Ob.cells l).scrub s=.cells (AV.scrubL s l):=id rfl
theorem Aj (s g z:Nat)(l:List AV):(Ob.vec g z l).scrub s=.vec g z l:=id rfl
theorem SD (s:Nat):Ob.none.scrub s=.none:=id rfl
theorem Fp (s:Nat)(o:Ob):(o.scrub s).isRow=o.isRow:=by cases o<;>rfl
theorem PQ (l:List AV):(Ob.cells l).isRow=false:=id rfl
theorem SE:Ob.none.isRow=false:=id rfl

def JT (P:Program)(v:AV)(w:Bool)(d:Option Nat)(ro:RO)(its:List Item)(st:St)(K:St→Prop):Prop :=
 match v with
 |.bool b=>(b=w→QD P (⟨d,ro,none⟩ :: its) st K)∧(b=(!w)→QD P its { st with f:=Ql st.f d (.tup []) } K)
 |.tup l=>l=[]∧QD P its { st with f:=Ql st.f d (.tup []) } K
 |_=>False
theorem XH {b:Bool}{d:Option Nat}{ro:RO}{st:St}(h1:b=true→QD P (⟨d,ro,none⟩ :: its) st K)(h2:b=false→QD P its { st with f:=Ql st.f d (.tup []) } K):JT P (.bool b) true d ro its st K:=⟨h1,h2⟩
theorem XJ {b:Bool}{d:Option Nat}{ro:RO}{st:St}(h1:b=false→QD P (⟨d,ro,none⟩ :: its) st K)(h2:b=true→QD P its { st with f:=Ql st.f d (.tup []) } K):JT P (.bool b) false d ro its st K:=⟨h1,h2⟩
theorem Yo {d:Option Nat}{ro:RO}{st:St}:JT P (.bool true) true d ro its st K=QD P (⟨d,ro,none⟩ :: its) st K:=by simp[JT]
theorem CQ {d:Option Nat}{ro:RO}{st:St}:JT P (.bool false) false d ro its st K=QD P (⟨d,ro,none⟩ :: its) st K:=by simp[JT]
theorem Vz {ro:RO}:JT P (.bool true) false (some d) ro its ⟨f,m,ds⟩ K=QD P its ⟨QJ f d (.tup []),m,ds⟩ K:=wD
theorem UU {ro:RO}:JT P (.bool false) true (some d) ro its ⟨f,m,ds⟩ K=QD P its ⟨QJ f d (.tup []),m,ds⟩ K:=wD
theorem CR {ro:RO}{w:Bool}:JT P (.tup []) w (some d) ro its ⟨f,m,ds⟩ K=QD P its ⟨QJ f d (.tup []),m,ds⟩ K:=wD
theorem BC {ro:RO}{st:St}:JT P (.bool true) false none ro its st K=QD P its st K:=wD
theorem BD {ro:RO}{st:St}:JT P (.bool false) true none ro its st K=QD P its st K:=wD
theorem VA {ro:RO}{w:Bool}{st:St}:JT P (.tup []) w none ro its st K=QD P its st K:=wD
theorem Fq {ro:RO}{j:Nat}{w:Bool}{d:Option Nat}:QD P (⟨d,ro,some (j,w)⟩ :: its) ⟨f,m,ds⟩ K=JT P (f j) w d ro its ⟨f,m,ds⟩ K:=by
 simp only[QD,ZQ,JT]
 all_goals(generalize f j=v;cases v<;>rfl)

theorem CS {rs:List RR}{n:Nat}{R:AV→Qk→Prop}{fr:Nat→Ob}:ZI rs n R .ret ⟨f,fr :: m,ds⟩=(ds=[]∧Zw (WR ⟨f,fr :: m,ds⟩ rs)∧Zw (Yz (fr :: m) (XC (WR ⟨f,fr :: m,ds⟩ rs)))∧m.length=n∧R (XC (Yz (fr :: m) (XC (WR ⟨f,fr :: m,ds⟩ rs)))) m):=by
 apply propext
 constructor
 ·rintro⟨_,h1,x,y,fr',m',h2,h3,h4,h5,h6⟩;cases h4;have h1:ds=[]:=h1;rw[h2,JS,h3];exact⟨h1,rfl,rfl,h5,h6⟩
 ·rintro⟨h1,h2,h3,h4,h5⟩;generalize hv:WR ⟨f,fr :: m,ds⟩ rs=v at h2 h3 h5;cases v with
  |none=>cases h2
  |some x=>
   rw[JS]at h3 h5;cases hl:Yz (fr :: m) x with
   |none=>rw[hl]at h3;cases h3
   |some y=>
    rw[hl]at h5;exact⟨.inr rfl,h1,x,y,fr,m,hv,hl,rfl,h4,h5⟩
theorem CU {rs:List RR}{n:Nat}{R:AV→Qk→Prop}{st:St}:ZI rs n R .normal st=ZI rs n R .ret st:=by
 simp[ZI]

theorem WV {α:Type}(f:Nat→α)(d:Nat)(x:α)(i:Nat):QJ f d x i=bif Nat.beq i d then x else f i:=id rfl
theorem KS (a b:Nat):Nat.beq a b=(a==b):=by
 cases h:Nat.beq a b with
 |true=>rw[Qli h];simp
 |false=>have:=Nat.ne_of_beq_eq_false h;simp[this]
theorem KT {s idx site sz:Nat}{a:RC}{fr:Nat→Ob}{xs:List AV}(h1:fr s=.cells xs)(h2:xs[idx]? = some .nils)(h3:fr site=.none)(hne:Nat.beq site s=false)(h:QU P a ⟨f,QJ (QJ fr site (.vec 1 sz [])) s (.cells (xs.set idx (.vec 0 site 1 0 0 false))) :: m,ds⟩ Q):QU P (.gho (.vecc s idx site sz) a) ⟨f,fr :: m,ds⟩ Q:=by
 refine⟨_,?_,h⟩;have e1:Qc (fr :: m) 0 s=.cells xs:=h1;have e:Qc (fr :: m) 0 site=.none:=h3;simp[JL,e1,h2,e,Qn,Qz,Am.put,hne]
theorem DM {α:Type}(f:Nat→α)(d:Nat)(x y:α):QJ (QJ f d x) d y=QJ f d y:=by
 funext i;by_cases h:i=d
 ·subst h;rw[QZ,QZ]
 ·rw[Q6 _ _ h,Q6 _ _ h,Q6 _ _ h]
theorem CV {α:Type}(f:Nat→α)(d e:Nat)(x y:α)(hde:d≠e):QJ (QJ f d x) e y=QJ (QJ f e y) d x:=by
 funext i;by_cases h:i=d
 ·subst h;rw[QZ,Q6 _ _ hde,QZ]
 ·by_cases h2:i=e
  ·subst h2;rw[QZ,Q6 _ _ h,QZ]
  ·rw[Q6 _ _ h2,Q6 _ _ h,Q6 _ _ h,Q6 _ _ h2]
theorem Qbt {α:Type}(f:Nat→α)(d:Nat)(x:α)(h:f d=x):QJ f d x=f:=by
 funext i;by_cases hi:i=d
 ·subst hi;rw[QZ,h]
 ·rw[Q6 _ _ hi]
theorem GS (n:Nat):(RA.t n).ev f=f n:=id rfl
theorem VB (x:AV):(RA.c x).ev f=x:=id rfl
theorem e_f (k:Nat):(RA.f k).ev f=.fn (.func k) [] []:=id rfl

end

end Go.Proofs.YtmlohboeoeoamaaGreatDoor.Am

namespace Go.Proofs.YtmlohboeoeoamaaGreatDoor.Br
open Go Am Go.RowKit Go.WideShapes Go.ChangeShapes Go.ChangeAt

theorem CW {P:Program}{k:FuncId}{args:List AV}{v:Bool}(h:Qh P k args (.bool v)){stab:Nat→Nat→Option SV}(ht:∀b o v,JO b o=some v→stab b o=some v){w:World}(hs:∀b o u,stab b o=some u→rd w b o u){vs:List Value}(hr:RepL (Gh.bare stab ht) args vs) :
  Calls P k ⟨vs⟩ w fun e w'=>e=.returned (.bool v)∧Below w.heap.size w w' :=
 (h.2 (Gh.bare stab ht) w vs hr (MR.bare hs)).mono fun e w' ⟨G',x,u,m',he,hx,hu,_,hex,_⟩=>by
  subst hx;cases hu;exact⟨he,hex.os,hex.tape,hex.output,hex.size,fun b hb=>(hex.old b hb Gh.bare_mine).1⟩

theorem Qbu {G:Gh}(s:ByteArray):Rep G (.str s.data.toList) (.string s):=by
 obtain⟨⟨l⟩⟩:=s;exact .str l

theorem CX {n:Int}(h:(Lit.int .u64 n).wf=true):0≤n:=by
 exact x8
theorem GT {n:Int}(h:(Lit.int .u64 n).wf=true):n<18446744073709551616:=by
 exact x8

section
variable {H:Type}{enc:TypeId×Value→H}{P:Program}
theorem V7 {f:Func}{s:ChangeSpec}{DI fresh handsOn again:Bool}{W W':World}{args:Array Value}{v:Value}{ds gs:List (DataW H)}{before pa pv:List MemPlace}
  (hW:DataW.Whole enc P f.params.toList s.vars DI W args.toList ds gs before)
  (hres:∀(b:Nat) (sp:Nat→Bool) (hd:Bool),DataW.TrodAll enc P W' b sp hd f.resultTypes.toList (v.resultList f.resultTypes.size) (s.fn H (ds++gs)).results [])
  (hargs:∀sp:Nat→Bool,(∀p∈before,sp p.block=true)→DataW.TrodAll enc P W' 0 sp true f.params.toList args.toList (s.fn H (ds++gs)).args pa)
  (hvars:∀sp:Nat→Bool,(∀p∈before,sp p.block=true)→DataW.TrodVars enc P W' sp s.vars (s.fn H (ds++gs)).vars pv)
  (hps:before=pa++pv) (hb:Below W.heap.size W W')
  (hok:∀(j:Nat) (t:TypeId) (r:Value),f.resultTypes[j]? = some t→(v.resultList f.resultTypes.size)[j]? = some r→Value.okWide P W' .any 0 t r) :
  s.post enc P f DI fresh handsOn again W args v W':=by
 have hlt:∀p∈before,p.block<W.heap.size:=fun p hp=>hW.lt p hp
 have hold:∀p∈before,(fun b=>decide (b<W.heap.size)) p.block=true:=fun p hp=>by simpa using hlt p hp
 refine⟨ds,gs,before,[],pa,pv,hW,hres _ _ _,hargs _ hold,hvars _ hold,World.keptBut_mono (fun p hp=>⟨hp,?_⟩) (hb.frame (·∈before)),fun _=>?_⟩
 ·rw[hps,QmJ]at hp;exact Or.inr hp
 ·obtain⟨_,_,_,_,_,hz,hn⟩:=hW;refine⟨hok,_,_,([]++pa)++pv,⟨[]++pa,pv,trodAll_append (hargs _ (fun _ _=>rfl)) (hres _ _ _),hvars _ (fun _ _=>rfl),rfl,?_,?_⟩,?_⟩
  ·intro b off hp;have hin:MemPlace.cell b off∈before:=by rw[hps];simpa using hp
   rw[hb.frozen (hlt _ hin)];exact hz b off hin
  ·intro ha;have:=hn ha;rw[hps]at this
   simpa using this
  ·intro p hp _;rw[hps]
   simpa using hp
end

section
variable {H:Type}{enc:TypeId×Value→H}{P:Program}{w:World}{base:Nat}{sp:Nat→Bool}{held:Bool}

def SF (g:DataW H→Option (List Value)):List (DataW H)→Option (List Value)
 | []=>some []
 |d :: ds=>match g d,SF g ds with
  |some a,some b=>some (a++b)
  |_,_=>none
def HW (P:Program)(g:TypeId→DataW H→Option (List Value)):Nat→Nat→List Field→List (DataW H)→Option (List Value)
 |o,n,[],[]=>bif o==n then some []else none
 |o,n,f :: fs,d :: ds=>bif f.offset==o then match g f.type d,HW P g (o+P.cellsOf f.type) n fs ds with
  |some a,some b=>some (a++b)
  |_,_=>none else none
 |_,_,_,_=>none
def GU (P:Program):Nat→TypeId→DataW H→Option (List Value)
 |0,_,_=>none
 |k+1,t,d=>match P.underlying t with
  |some (.int ik)=>match d with
   |.lit (.int ik' n)=>bif ik'==ik then some [.int ik n]else none
   |_=>none
  |some (.array n e)=>match d with
   |.agg ds=>bif P.cellsOf t==n*P.cellsOf e then SF (GU P k e) ds else none
   |_=>none
  |some (.struct fs)=>match d with
   |.agg ds=>HW P (GU P k) 0 (P.cellsOf t) fs.toList ds
   |_=>none
  |_=>none

theorem Ra {g:DataW H→Option (List Value)}{c:Nat}:∀ {ds:List (DataW H)} {cs ls:List Value},cs.length=ds.length*c→(∀i d l,ds[i]? = some d→g d=some l→(cs.drop (i*c)).take c=l)→SF g ds=some ls→cs=ls
 | [],cs,ls,hl,_,h=>by
  cases h;exact Qmu kD
 |d :: ds,cs,ls,hl,hx,h=>by
  rw[SF]at h;split at h
  ·rename_i a b ea eb;cases h;rw[QlD,Nat.succ_mul]at hl;have h0:=hx 0 d a rfl ea;rw[Nat.zero_mul,Ql6]at h0;have h1:cs.drop c=b:=Ra (c:=c) qE (fun i d' l hd hg=>by
    have:=hx (i+1) d' l (by simpa using hd) hg;rw[QlT]
    rwa [Nat.succ_mul,Nat.add_comm]at this) eb
   rw[←h0,←h1,QmH]
  ·cases h
theorem CY {g:TypeId→DataW H→Option (List Value)}{cs:List Value}:∀ {fs:List Field} {ds:List (DataW H)} {o:Nat} {ls:List Value},(∀(i:Nat) (f:Field) (d:DataW H) l,fs[i]? = some f→ds[i]? = some d→g f.type d=some l→(cs.drop f.offset).take (P.cellsOf f.type)=l)→HW P g o cs.length fs ds=some ls→cs.drop o=ls
 | [],[],o,ls,_,h=>by
  rw[HW]at h;cases ho:o==cs.length with
  |false=>rw[ho]at h;cases h
  |true=>
   rw[ho]at h;cases h;rw[Qls]at ho;rw[ho,List.drop_length]
 |f :: fs,d :: ds,o,ls,hx,h=>by
  rw[HW]at h;cases ho:f.offset==o with
  |false=>rw[ho]at h;cases h
  |true=>
   rw[ho,cond_true]at h;rw[Qls]at ho;split at h
   ·rename_i a b ea eb;cases h;have h0:=hx 0 f d a rfl rfl ea;have h1:=CY (fun i f' d' l h1 h2 h3=>hx (i+1) f' d' l jC jA h3) eb;rw[ho]at h0;rw[←h0,←h1,←QlT,QmH]
   ·cases h
 | [],_ :: _,_,_,_,h=>by rw[HW]at h;cases h;all_goals simp
 |_ :: _,[],_,_,_,h=>by rw[HW]at h;cases h;all_goals simp

theorem GV:∀(k m:Nat) (t:TypeId) (cs:List Value) (d:DataW H) (p:List MemPlace) (ls:List Value),DataW.trod enc P w base sp held m t cs=some (d,p)→GU P k t d=some ls→cs=ls
 |0,_,_,_,_,_,_,_,h=>by cases h
 |k+1,m,t,cs,d,p,ls,ht,h=>by
  rw[GU]at h;split at h
  ·rename_i ik hu;obtain⟨n,rfl,e,_⟩:=DataW.trod_int hu ht;cases e;simp only[BEq.rfl,cond_true,QlP]at h;exact h
  ·rename_i n e hu;obtain⟨xs,m',rfl,ex,hlen,hxl,hx⟩:=DataW.trod_array hu ht;cases ex;dsimp only at h;cases hc:P.cellsOf t==n*P.cellsOf e with
   |false=>rw[hc]at h;cases h
   |true=>
    rw[hc,cond_true]at h;rw[Qls]at hc;refine Ra (c:=P.cellsOf e) (by rw[Qmj,hxl,hlen,hc]) (fun i d l hd hg=>?_) h;rw[QmN,Qlp]at hd;obtain⟨x,h1,rfl⟩:=hd;have h2:=hx i (by rw[←hxl];exact(Qlm.1 h1).1);rw[h1]at h2;exact GV k m' e _ x.1 x.2 l h2 hg
  ·rename_i fs hu;obtain⟨xs,m',rfl,ex,hlen,hxl,hx⟩:=DataW.trod_struct hu ht;cases ex;dsimp only at h;rw[←hlen]at h;have:=CY (P:=P) (cs:=cs) (fun i f d l hf hd hg=>by
    rw[QmN,Qlp]at hd;obtain⟨x,h1,rfl⟩:=hd;have h2:=hx i f (by simpa using hf);rw[h1]at h2;exact GV k m' f.type _ x.1 x.2 l h2 hg) h
   rwa [Ql6]at this
  ·cases h

def vEq:Value→Value→Bool
 |.int k n,.int k' n'=>k==k'&&n==n'
 |_,_=>false
theorem Qdc:∀ {a b:Value},vEq a b=true→a=b:=by
 intro a b h;unfold vEq at h;split at h
 ·rw[QlM,Qls,Qls]at h;rw[h.1,h.2]
 ·cases h
def SG:List Value→List Value→Bool
 | [],[]=>true
 |a :: l,b :: r=>vEq a b&&SG l r
 |_,_=>false
theorem Re:∀ {a b:List Value},SG a b=true→a=b
 | [],[],_=>rfl
 |a :: l,b :: r,h=>by
  rw[SG,QlM]at h;rw[Qdc h.1,Re h.2]
 | [],_ :: _,h=>by cases h
 |_ :: _,[],h=>by cases h

theorem Rf {n:String}{d:DataW Unit}:∀ {l:List (String×DataW Unit)} {ps:List MemPlace},DataW.LaidVars P w l ps→(n,d)∈l→
  ∃g t cs fuel p,P.globalNamed n=some g∧(P.globals[g]?).map (·.type)=some t∧w.var? P n=some cs∧DataW.trod (fun _=>()) P w 0 (fun _=>true) false fuel t cs.toList=some (d,p)
 | [],_,_,hm=>by cases hm
 |x :: r,ps,h,hm=>by
  obtain⟨g,t,cs,fuel,p,q,k1,k2,k3,k4,k5,_⟩:=h;rcases QmM.1 hm with e|e
  ·subst e;exact⟨g,t,cs,fuel,p,k1,k2,k3,k4⟩
  ·exact Rf k5 e

def Qfo (P:Program)(laid:List (String×DataW Unit)):Bool :=
 Cm.all fun x=>laid.any fun y=>P.globalNamed y.1==some x.1&&(match (P.globals[x.1]?).map (·.type)with
  |some t=>(match GU P 6 t y.2 with
   |some l=>SG l x.2
   |none=>false)
  |none=>false)

theorem BE {b:Nat}{l:List Value}:∀ {T:List (Nat×List Value)},T.lookup b=some l→(b,l)∈T
 | [],h=>by cases h
 |(c,m) :: T,h=>by
  rw[List.lookup]at h;split at h
  ·rename_i e;cases h;rw[Qls]at e;subst e;exact QlG ..
  ·exact QlE _ (BE h)

theorem Qbv {laid:List (String×DataW Unit)}(h:laidMet P laid w)(ht:Qfo P laid=true):GG w:=by
 intro b o v e;obtain⟨ps,hv,_⟩:=h;unfold JO at e;cases hl:Cm.lookup b with
 |none=>rw[hl]at e;cases e
 |some l=>
  rw[hl]at e;have h1:=QlB.1 ht _ (BE hl);obtain⟨⟨n,d⟩,hy,h2⟩:=Qm6.1 h1;rw[QlM]at h2;obtain⟨h2,h3⟩:=h2;have h2:P.globalNamed n=some b:=jA
  obtain⟨g,t,cs,fuel,p,k1,k2,k3,k4⟩:=Rf hv hy;rw[h2]at k1;cases k1;dsimp only at h3;rw[k2]at h3;dsimp only at h3;split at h3
  ·rename_i l' hc;have h4:=GV 6 fuel t cs.toList d p l' k4 hc;rw[Re h3]at h4;unfold World.var? at k3;rw[h2]at k3;simp only[Option.bind_some]at k3;split at k3
   ·rename_i cs' t' fz hh;cases k3;dsimp only at e;split at e
    ·rename_i ho;cases e;exact⟨cs,t',fz,hh,by rw[ho,←h4];simp,rfl⟩
    ·obtain⟨u,hu,rfl⟩:=Qlp.1 e;show w.cell? ⟨b,o,none⟩=some u;rw[cell_of_row w b o cs t' fz hh,←QlS,h4];exact hu
   ·cases k3
  ·cases h3
end

end Go.Proofs.YtmlohboeoeoamaaGreatDoor.Br

namespace Go.Proofs.YtmlohboeoeoamaaGreatDoor.Am
open Go

variable {P:Program}{f:Fr}{m:Qk}{ds:List DF}{its:List Item}{d:Nat}

theorem DN {Q:Exit→St→Prop}{a:RC}{slot site g sz n:Nat}{fr:Nat→Ob}{xs:List AV}(h1:f slot=.vec 0 site g 0 n false)(h2:fr site=.vec g sz xs)(hn:n≤xs.length)
  (h:QU P a ⟨QJ f slot (.list (xs.take n)),QJ fr site (.vec (g+1) sz []) :: m,ds⟩ Q):QU P (.gho (.pub slot site) a) ⟨f,fr :: m,ds⟩ Q:=by
 refine⟨_,?_,h⟩;have e:Qc (fr :: m) 0 site=.vec g sz xs:=h2;simp only[JL,h1,e];rw[show Nat.beq site site=true from Nat.beq_refl site,show Nat.beq g g=true from Nat.beq_refl g,show Nat.ble (0+n) xs.length=true from Nat.ble_eq_true_of_le xw];rfl

def DO:List Nat→RC→RC
 | [],a=>a
 |s :: l,a=>.gho (.drop s) (DO l a)
def GW:List Nat→AV→AV
 | [],x=>x
 |s :: l,x=>GW l (x.scrub s)
def HX:List Nat→Ob→Ob
 | [],x=>x
 |s :: l,x=>HX l (x.scrub s)

theorem SH (l:List Nat):HX l .none=.none:=by
 induction l with
 |nil=>rfl
 |cons s l ih=>exact ih

theorem QL {Q:Exit→St→Prop}{a:RC}(l:List Nat):∀ {f:Fr} {fr:Nat→Ob},(∀s∈l,(fr s).isRow=false)→
  (∀f' fr',(∀i,f' i=GW l (f i))→(∀i,i∉l→fr' i=HX l (fr i))→(∀i∈l,fr' i=.none)→QU P a ⟨f',fr' :: m,[]⟩ Q)→QU P (DO l a) ⟨f,fr :: m,[]⟩ Q:=by
 induction l with
 |nil=>intro f fr _ h;exact h f fr (fun _=>rfl) (fun _ _=>rfl) (fun _ h=>kq)
 |cons s l ih=>
  intro f fr hr h;show QU P (.gho (.drop s) (DO l a)) _ _;rw[T7];refine⟨hr s xA,?_⟩;show QU P (DO l a) ⟨_,_ :: m,[]⟩ Q;refine ih ?_ ?_
  ·intro t ht;by_cases e:t=s
   ·subst e;rw[QZ];rfl
   ·rw[Q6 _ _ e,Fp];exact hr t (by simp[ht])
  ·intro f' fr' h1 h2 h3;refine h f' fr' h1 ?_ ?_
   ·intro i hi;rw[h2 i (fun h=>hi (QlE _ h)),Q6 _ _ (fun e=>hi (by rw[e];exact QlG))];rfl
   ·intro i hi;by_cases hl:i∈l
    ·exact h3 i hl
    ·have e:i=s:=by
      rcases QmM.1 hi with e|e
      ·exact e
      ·exact absurd e hl
     rw[h2 i hl,e,QZ,SH]

def XB:Ob→Nat
 |.vec g _ _=>g+1
 |_=>1

theorem J4 {fr:Nat→Ob}{s:Nat}:Qz (fr :: m) 0 s=XB (fr s):=by
 unfold Qz XB;rfl

theorem Kf {K:St→Prop}{neg:Bool}{r:RA}{ys:List AV}(hr:r.ev f=.list ys)(h0:QD P its ⟨QJ f d (.bool neg),m,ds⟩ K)(h1:ys=[]∨QP ys=[]→QD P its ⟨QJ f d (.bool (!neg)),m,ds⟩ K):QD P (⟨some d,.isnil neg r,none⟩ :: its) ⟨f,m,ds⟩ K:=by
 refine⟨ys,?_,fun _=>h0,fun e=>h1 ?_⟩
 ·show Q1 m (r.ev f)=some ys;rw[hr];rfl
 ·rcases e with e|e
  ·have e:r.ev f=.nils:=e;rw[hr]at e;cases e
  ·exact .inr e

theorem UV {K:St→Prop}{site sz bytes el:Nat}{s r:RA}{fr:Nat→Ob}{xs ys:List AV}(hs:s.ev f=.lcap xs)(hr:r.ev f=.list ys)(hne:ys≠[])(hxz:xs.all (fun e=>e.cells.length==sz)=true)(hsz:ys.all (fun e=>e.cells.length==sz)=true)(hm:xs.length+ys.length≤maxLen)(hb:(xs.length+ys.length)*bytes≤140737488355328)(hro:Qn (fr site)=true)
  (h:QD P its ⟨QJ f d (.vec 0 site (XB (fr site)) 0 (xs.length+ys.length) false),QJ fr site (.vec (XB (fr site)) sz (xs++ys)) :: m,ds⟩ K):QD P (⟨some d,.appc site sz bytes el s r,none⟩ :: its) ⟨f,fr :: m,ds⟩ K:=by
 refine⟨xs,ys,hs,?_,hne,hxz,hsz,hm,hb,hro,h⟩;show Q1 (fr :: m) (r.ev f)=some ys;rw[hr];rfl

theorem Z4 {K:St→Prop}{site sz:Nat}{fr:Nat→Ob}(hs:Qn (fr site)=true)
  (h:QD P its ⟨QJ f d (.vec 0 site (XB (fr site)) 0 0 false),QJ fr site (.vec (XB (fr site)) sz []) :: m,ds⟩ K):QD P (⟨some d,.bsl0 site sz,none⟩ :: its) ⟨f,fr :: m,ds⟩ K :=
 ⟨hs,h⟩

theorem VC {K:St→Prop}{site sz len:Nat}{z:List AV}{ps:List (Nat×Nat×RA)}{fr:Nat→Ob}{y:List AV}(hy:fill f ps (X5 z sz len)=some y)(h1:AV.rfL y=true)(h2:y.all AV.leaf=true)(hs:Qn (fr site)=true)
  (h:QD P its ⟨QJ f d (.vec 0 site (XB (fr site)) 0 len false),QJ fr site (.vec (XB (fr site)) sz (Zz sz len (y.map nn0))) :: m,ds⟩ K):QD P (⟨some d,.bslv site sz len z ps,none⟩ :: its) ⟨f,fr :: m,ds⟩ K :=
 ⟨y,hy,h1,h2,hs,h⟩

theorem BF {K:St→Prop}{site sz:Nat}{z l:List AV}{r:RA}{fr:Nat→Ob}(hr:r.ev f=.agg l)(hl:l.length=sz)(h1:sz≠1)(hf:AV.rfL l=true)(hlf:l.all AV.leaf=true)(hs:Qn (fr site)=true)
  (h:QD P its ⟨QJ f d (.vec 0 site (XB (fr site)) 0 1 false),QJ fr site (.vec (XB (fr site)) sz [.agg (l.map nn0)]) :: m,ds⟩ K):QD P (⟨some d,.bslv site sz 1 z [(0,sz,r)],none⟩ :: its) ⟨f,fr :: m,ds⟩ K:=by
 have hz:(X5 z sz 1).length=sz:=by simp[X5]
 have hy:fill f [(0,sz,r)] (X5 z sz 1)=some l:=by
  exact yv
 have hc:Zz sz 1 (l.map nn0)=[.agg (l.map nn0)]:=by
  simp only[Zz,Qlu h1];rw[QlY kz]
 refine VC hy hf hlf hs ?_;rw[hc];exact h

theorem Zu {Q:Exit→St→Prop}{a:RC}{slot site l S g sz o n:Nat}{q:Bool}{fr:Nat→Ob}{xs:List AV}(h1:f slot=.vec 0 site g o n q)(h2:fr site=.vec g sz xs)(hl:l<m.length)(hS:S<2000)(hr:Qn (Qc m l S)=true)
  (h:QU P a ⟨QJ f slot (.vec (l+1) S (Qz m l S) o n q),QJ fr site (.vec (g+1) sz []) :: Am.put m l S (.vec (Qz m l S) sz xs),ds⟩ Q):QU P (.gho (.give slot site (l+1) S) a) ⟨f,fr :: m,ds⟩ Q:=by
 refine⟨_,?_,h⟩;have e:Qc (fr :: m) 0 site=.vec g sz xs:=h2;have e1:Qn (Qc (fr :: m) (l+1) S)=true:=hr;have e2:Qz (fr :: m) (l+1) S=Qz m l S:=rfl;simp only[JL,h1,e,e1,e2];rw[show Nat.beq site site=true from Nat.beq_refl site,show Nat.beq g g=true from Nat.beq_refl g,show Nat.blt (l+1) (fr :: m).length=true from Nat.ble_eq_true_of_le xD,show Nat.blt S 2000=true from Nat.ble_eq_true_of_le hS];rfl

theorem CZ {Q:Exit→St→Prop}{a:RC}{slot:Nat}(h1:f slot=.nils)(h:QU P a ⟨QJ f slot (.list []),m,ds⟩ Q):QU P (.gho (.lst slot) a) ⟨f,m,ds⟩ Q:=by
 refine⟨_,?_,h⟩;simp only[JL,h1]

theorem BG {K:St→Prop}{k:Nat}{r:RA}{args:List RA}{fa fb ys:List AV}{v:AV}{m':Qk}(hr:r.ev f=.fn (.func k) fa fb)(hk:Qe P k ys m fun x m1=>x=v∧m1=m')(hy:fa++args.map (RA.ev f)++fb=ys)(h:QD P its ⟨QJ f d v,m',ds⟩ K) :
  QD P (⟨some d,.callF r args,none⟩ :: its) ⟨f,m,ds⟩ K:=by
 refine⟨k,fa,fb,v,m',hr,?_,h⟩;show Qe P k (fa++args.map (RA.ev f)++fb) m fun x m1=>x=v∧m1=m'
 rw[hy];exact hk

theorem K8 {K:St→Prop}{k:Nat}{r:RA}{args:List RA}{fa fb ys:List AV}{v:AV}(hr:r.ev f=.fn (.func k) fa fb)(hk:Qh P k ys v)(hy:AV.stillL false m (fa++args.map (RA.ev f)++fb)=some ys)(h1:AV.rfL ys=true)(h2:v.rf=true)
  (h3:AV.rfL (fa++args.map (RA.ev f)++fb)=true∨v.nl=true) (h:QD P its ⟨QJ f d v,m,ds⟩ K):QD P (⟨some d,.call r args,none⟩ :: its) ⟨f,m,ds⟩ K :=
 ⟨k,fa,fb,ys,v,hr,hy,h1,hk,h2,h3,h⟩

end Go.Proofs.YtmlohboeoeoamaaGreatDoor.Am

namespace Go.Proofs.YtmlohboeoeoamaaGreatDoor.Am
open Go

abbrev VD:=FuncId→Option (RC×List RR×Nat)

def DP (P:Program)(T:VD):Prop :=
 ∀k c rs N, T k=some (c, rs, N)→∃fn body, P.funcs[k]? = some fn∧fn.body=some body∧(fn.name == "runtime.NumGoroutine")=false∧fn.ntmps=N∧Zt P N c body=true∧Ke P fn.results.toList rs=true

abbrev YG:=FuncId→List AV→Qk→Option (AV×Qk)

def BH:Ob→Ob→Bool
 |.cells [.vec l s g o n q],.cells [.vec l' s' g' o' n' q']=>Nat.beq l l'&&Nat.beq s s'&&Nat.beq g g'&&Nat.beq o o'&&Nat.beq n n'&&q==q'
 |_,_=>false
theorem Ak:∀ {a b:Ob},BH a b=true→a=b:=by
 intro a b h;unfold BH at h;split at h
 ·simp only[QlM,Qls]at h;obtain⟨⟨⟨⟨⟨h1,h2⟩,h3⟩,h4⟩,h5⟩,h6⟩:=h;rw[Qli h1,Qli h2,Qli h3,Qli h4,Qli h5,h6]
 ·cases h

def Uh:Nat→Nat→Ob→Qk
 |0,s,o=>[fun t=>bif Nat.beq t s then o else .none]
 |l+1,s,o=>(fun _=>.none) :: Uh l s o
theorem WG:∀(l s:Nat) (o:Ob) (i t:Nat),Qc (Uh l s o) i t=if i=l∧t=s then o else .none
 |0,s,o,0,t=>by
  show(bif Nat.beq t s then o else Ob.none)=_;by_cases h:t=s
  ·subst h;rw[Qlv ⟨rfl,rfl⟩,show Nat.beq t t=true from Nat.beq_refl t];rfl
  ·rw[Qlu (fun e=>h e.2)];cases hb:Nat.beq t s with
   |true=>exact absurd (Qli hb) h
   |false=>rfl
 |0,s,o,i+1,t=>by
  rw[Qlu xw];cases i<;>rfl
 |l+1,s,o,0,t=>by
  rw[Qlu xw];rfl
 |l+1,s,o,i+1,t=>by
  show Qc (Uh l s o) i t=_;rw[WG];simp only[Nat.add_right_cancel_iff]

mutual
def AV.npv (l s:Nat):AV→Bool
 |.vec i t _ _ _ _=>Nat.beq i l&&Nat.beq t s
 |.ptr .. | .mptr .. | .vptr .. | .rptr _=>false
 |.agg a|.tup a=>AV.npvL l s a
 |.iface _ x=>x.npv l s
 |.fn _ a b=>AV.npvL l s a&&AV.npvL l s b
 |_=>true
def AV.npvL (l s:Nat):List AV→Bool
 | []=>true
 |x :: a=>x.npv l s&&AV.npvL l s a
end
mutual
theorem Rep.npv {G G':Gh}{l s:Nat}(hg:G.sameStab G')(h1:G'.vg l s=G.vg l s)(h2:G'.vm l s=G.vm l s)(h3:G'.vc l s=G.vc l s)(h4:G'.vz l s=G.vz l s):∀ {x:AV} {v:Value},x.npv l s=true→Rep G x v→Rep G' x v
 |_,_,_,.top v=>.top v
 |_,_,_,.int k n=>.int k n
 |_,_,_,.bool b=>.bool b
 |_,_,_,.str s=>.str s
 |_,_,_,.nils=>.nils
 |_,_,_,.nilp=>.nilp
 |_,_,_,.nilf=>.nilf
 |_,_,_,.nili=>.nili
 |_,_,_,.nilm=>.nilm
 |_,_,_,.anyp p=>.anyp p
 |_,_,_,.list hc hz hf hl hs hn hcap hm=>.list (RepL.rfd hg hf hc) hz hf hl (fun j u h=>by
   obtain⟨b,o,e,h'⟩:=hs j u h;exact⟨b,o,e,hg _ _ _ h'⟩) hn hcap hm
 |_,_,_,.lcap hc hz hf hl hs hn hm=>.lcap (RepL.rfd hg hf hc) hz hf hl (fun j u h=>by
   obtain⟨b,o,e,h'⟩:=hs j u h;exact⟨b,o,e,hg _ _ _ h'⟩) hn hm
 |_,_,hr,.agg h=>.agg (RepL.npv hg h1 h2 h3 h4 hr h)
 |_,_,hr,.tup h=>.tup (RepL.npv hg h1 h2 h3 h4 hr h)
 |_,_,hr,.iface h=>.iface (Rep.npv hg h1 h2 h3 h4 hr h)
 |_,_,hr,.fn ha hb=>by
   have hr:=Qlo.1 hr;exact .fn (RepL.npv hg h1 h2 h3 h4 hr.1 ha) (RepL.npv hg h1 h2 h3 h4 hr.2 hb)
 |_,_,hr,.ptr h=>by cases hr
 |_,_,hr,.mp h=>.mp (hg _ _ _ h)
 |_,_,hr,.mptr h=>by cases hr
 |_,_,hr,.vec hv hl h=>by
   have hr:=Qlo.1 hr;have e1:=Qli hr.1;have e2:=Qli hr.2;rw[e1,e2]at hl h ⊢;exact .vec hv (by rw[h1];exact hl) (by rw[h1,h2,h3,h4];exact h)
 |_,_,hr,.vptr hv hl h=>by cases hr
 |_,_,hr,.rptr hc hf hl hs=>by cases hr
theorem RepL.npv {G G':Gh}{l s:Nat}(hg:G.sameStab G')(h1:G'.vg l s=G.vg l s)(h2:G'.vm l s=G.vm l s)(h3:G'.vc l s=G.vc l s)(h4:G'.vz l s=G.vz l s):∀ {x:List AV} {v:List Value},AV.npvL l s x=true→RepL G x v→RepL G' x v
 |_,_,_,.nil=>.nil
 |_,_,hr,.cons h t=>by
   have hr:=Qlo.1 hr;exact .cons (Rep.npv hg h1 h2 h3 h4 hr.1 h) (RepL.npv hg h1 h2 h3 h4 hr.2 t)
end

theorem PR {P:Program}{k:FuncId}{args:List AV}{l s g z:Nat}{xs:List AV}{v:AV}{m1:Qk}(h:Qe P k args (Uh l s (.vec g z xs)) (fun x m'=>x=v∧m'=m1))(hr:Qc m1 l s=.vec g z xs)(hv:v.rf=true)(hn:AV.npvL l s args=true)(m:Qk)(hm:Qc m l s=.vec g z xs):Qe P k args m (fun x m'=>x=v∧m'=m):=by
 refine⟨h.1,fun G w vs hrep hmr=>?_⟩
 let G0:Gh:={ stab:=G.stab,nm:=fun _ _=>none,vm:=fun i t=>if i=l∧t=s then G.vm l s else none,vc:=fun i t=>if i=l∧t=s then G.vc l s else 0,vg:=fun i t=>if i=l∧t=s then G.vg l s else 0,vz:=fun i t=>if i=l∧t=s then G.vz l s else 0,tab:=G.tab }
 have z1:G0.vg l s=G.vg l s:=Qlv ⟨rfl,rfl⟩;have z2:G0.vm l s=G.vm l s:=Qlv ⟨rfl,rfl⟩;have z3:G0.vc l s=G.vc l s:=Qlv ⟨rfl,rfl⟩;have z4:G0.vz l s=G.vz l s:=Qlv ⟨rfl,rfl⟩;have zn:∀ {i t:Nat},¬(i=l∧t=s)→G0.vm i t=none:=fun h=>Qlu h
 have mine0:∀ {b:Nat},G0.mine b→G.vm l s=some b:=by
  rintro b (⟨i,t,e⟩|⟨i,t,e⟩)
  ·cases e
  ·by_cases hc:i=l∧t=s
   ·rw[show G0.vm i t=G.vm l s from Qlv hc]at e;exact e
   ·rw[zn hc]at e;cases e
 obtain⟨v1,v2,v3,v4⟩:=hmr.vec l s g z xs hm;have hmr0:MR G0 (Uh l s (.vec g z xs)) w:={
  stab:=hmr.stab
  cells:=fun i t ys e=>by rw[WG]at e;split at e<;>cases e
  nm:=fun i t b e=>by cases e
  vec:=fun i t g' z' ys e=>by
   rw[WG]at e;by_cases hc:i=l∧t=s
   ·rw[Qlv hc]at e;cases e;rw[hc.1,hc.2,z1,z2,z3,z4];exact⟨v1,v2,v3,v4.imp id fun⟨b,e',r⟩=>⟨b,e',r.of rfl fun vs hv=>RepL.rfd (G:=G) (G':=G0) (fun _ _ _ h=>h) v3.rf hv⟩⟩
   ·rw[Qlu hc]at e;cases e
  vm:=fun i t b e=>by
   have e':=mine0 (.inr ⟨i,t,e⟩);by_cases hc:i=l∧t=s
   ·exact⟨⟨g,z,xs,by rw[WG,Qlv hc]⟩,(hmr.vm _ _ _ e').2⟩
   ·rw[zn hc]at e;cases e
  gone:=fun i t e=>by
   rw[WG]at e;by_cases hc:i=l∧t=s
   ·rw[Qlv hc]at e;cases e
   ·exact Qlu hc
  inj1:=fun i t i' t' b e=>by cases e
  inj2:=fun i t i' t' b e e'=>by
   by_cases hc:i=l∧t=s
   ·by_cases hc':i'=l∧t'=s
    ·exact⟨hc.1.trans hc'.1.symm,hc.2.trans hc'.2.symm⟩
    ·rw[zn hc']at e';cases e'
   ·rw[zn hc]at e;cases e
  inj3:=fun i t i' t' b e=>by cases e
  iter:=fun i t y p e=>by rw[WG]at e;split at e<;>cases e }
 refine(h.2 G0 w vs (RepL.npv (G:=G) (G':=G0) (fun _ _ _ h=>h) z1 z2 z3 z4 hn hrep) hmr0).mono fun e w' ⟨G',x,v',m',he,⟨hx,hm'⟩,hv',hr',ext,_⟩=>?_
 subst hx hm';have hg:∀b o v,G.stab b o=some v→G'.stab b o=some v:=ext.stab;obtain⟨u1,u2,u3,u4⟩:=hr'.vec l s g z xs hr;have evs:=ext.vs l s (by rw[u1,z1,v1]);have old:∀b,b<w.heap.size→G.vm l s≠some b→w'.heap[b]? = w.heap[b]?∧∀o,G'.stab b o=G.stab b o:=fun b hb hne=>ext.old b hb fun hc=>hne (mine0 hc)
 refine⟨G.with G'.stab hg,x,v',m,he,⟨rfl,rfl⟩,Rep.rfd (G:=G') (G':=G.with G'.stab hg) (fun _ _ _ h=>h) hv hv',?_,?_,rfl⟩
 ·exact {
   stab:=hr'.stab
   cells:=fun i t ys e=>by
    obtain⟨b,cs,e',hc,hr2⟩:=hmr.cells i t ys e;have hb:=(old b hc.lt (hmr.inj3 _ _ _ _ _ e')).1;exact⟨b,cs,e',hc.of hb,RepL.mono (G:=G.dn i) (G':=(G.with G'.stab hg).dn i) ⟨hg,fun _ _ _ h=>h,fun _ _=>Qlk _,fun _ _ _=>⟨rfl,rfl,rfl⟩⟩ hr2⟩
   nm:=fun i t b e=>⟨(hmr.nm i t b e).1,fun o=>((old b (hmr.mine (.inl ⟨i,t,e⟩)).1 (hmr.inj3 _ _ _ _ _ e)).2 o).trans ((hmr.nm i t b e).2 o)⟩
   vec:=fun i t g' z' ys e=>by
    by_cases hc:i=l∧t=s
    ·rw[hc.1,hc.2]at e ⊢;rw[hm]at e;cases e;have q:=u4;rw[evs.1,evs.2.1,z2,z3]at q;exact⟨v1,v2,v3,q.imp id fun⟨b,e',r⟩=>⟨b,e',r.of rfl fun vs hv=>RepL.rfd (G:=G') (G':=G.with G'.stab hg) (fun _ _ _ h=>h) u3.rf hv⟩⟩
    ·obtain⟨a1,a2,a3,a4⟩:=hmr.vec i t g' z' ys e;exact⟨a1,a2,a3,a4.imp id fun⟨b,e',r⟩=>⟨b,e',r.of (old b (hmr.mine (.inr ⟨i,t,e'⟩)).1 fun e2=>hc (hmr.inj2 _ _ _ _ _ e' e2)).1 fun vs hv=>RepL.rfd (G:=G) (G':=G.with G'.stab hg) hg a3.rf hv⟩⟩
   vm:=fun i t b e=>⟨(hmr.vm i t b e).1,fun o=>by
    by_cases hc:i=l∧t=s
    ·have e':G.vm i t=some b:=e;rw[hc.1,hc.2]at e';exact(hr'.vm l s b (by rw[evs.1,z2];exact e')).2 o
    ·exact((old b (hmr.mine (.inr ⟨i,t,e⟩)).1 fun e2=>hc (hmr.inj2 _ _ _ _ _ e e2)).2 o).trans ((hmr.vm i t b e).2 o)⟩
   gone:=hmr.gone
   inj1:=hmr.inj1
   inj2:=hmr.inj2
   inj3:=hmr.inj3
   iter:=fun i t y p e=>by
    obtain⟨b,e',hc⟩:=hmr.iter i t y p e;exact⟨b,e',(old b (hmr.mine (.inl ⟨i,t,e'⟩)).1 (hmr.inj3 _ _ _ _ _ e')).1.trans hc⟩ }
 ·exact⟨ext.os,ext.tape,ext.output,ext.size,hg,fun _ _ _=>rfl,fun _ _=>Qlk _,fun _ _ _=>⟨rfl,rfl,rfl⟩,fun b hb hn'=>old b hb fun e2=>hn' (.inr ⟨l,s,e2⟩),fun _ h=>.inl h,fun l s _ h=>.inl ⟨l,s,Qlk _,h⟩⟩

mutual
def AV.eqb:AV→AV→Bool
 |.int k n,b=>match b with|.int k' n'=>decide (k=k')&&decide (n=n')|_=>false
 |.bool x,b=>match b with|.bool y=>x==y|_=>false
 |.str x,b=>match b with|.str y=>x==y|_=>false
 |.nils,b=>match b with|.nils=>true|_=>false
 |.list x,b=>match b with|.list y=>AV.eqbL x y|_=>false
 |.agg x,b=>match b with|.agg y=>AV.eqbL x y|_=>false
 |_,_=>false
def AV.eqbL:List AV→List AV→Bool
 | [],b=>match b with | []=>true|_=>false
 |x :: a,b=>match b with|y :: b=>x.eqb y&&AV.eqbL a b|_=>false
end
mutual
theorem AV.eqb_ok:∀(a b:AV),a.eqb b=true→a=b
 |.int k n,b,h=>by cases b<;>simp_all[AV.eqb]
 |.bool x,b,h=>by cases b<;>simp_all[AV.eqb]
 |.str x,b,h=>by cases b<;>simp_all[AV.eqb]
 |.nils,b,h=>by cases b<;>simp_all[AV.eqb]
 |.list x,b,h=>by
  cases b with
  |list y=>rw[AV.eqbL_ok x y h]
  |_=>cases h
 |.agg x,b,h=>by
  cases b with
  |agg y=>rw[AV.eqbL_ok x y h]
  |_=>cases h
 |.top,b,h=>by cases b<;>cases h
 |.nilp,b,h=>by cases b<;>cases h
 |.nilf,b,h=>by cases b<;>cases h
 |.nili,b,h=>by cases b<;>cases h
 |.nilm,b,h=>by cases b<;>cases h
 |.anyp,b,h=>by cases b<;>cases h
 |.lcap _,b,h=>by cases b<;>cases h
 |.tup _,b,h=>by cases b<;>cases h
 |.iface _ _,b,h=>by cases b<;>cases h
 |.fn _ _ _,b,h=>by cases b<;>cases h
 |.ptr _ _ _,b,h=>by cases b<;>cases h
 |.vec _ _ _ _ _ _,b,h=>by cases b<;>cases h
 |.vptr _ _ _ _ _,b,h=>by cases b<;>cases h
 |.rptr _,b,h=>by cases b<;>cases h
 |.mp _ _,b,h=>by cases b<;>cases h
 |.mptr _ _,b,h=>by cases b<;>cases h
theorem AV.eqbL_ok:∀(a b:List AV),AV.eqbL a b=true→a=b
 | [],b,h=>by
  cases b with
  |nil=>rfl
  |cons _ _=>cases h
 |x :: a,b,h=>by
  cases b with
  |nil=>cases h
  |cons y b=>
   have h:=Qlo.1 h;rw[AV.eqb_ok x y h.1,AV.eqbL_ok a b h.2]
end
def DQ (o:Ob)(g z:Nat)(xs:List AV):Bool:=match o with
 |.vec g' z' ys=>Nat.beq g' g&&Nat.beq z' z&&AV.eqbL ys xs
 |_=>false
theorem SI {o:Ob}{g z:Nat}{xs:List AV}(h:DQ o g z xs=true):o=.vec g z xs:=by
 unfold DQ at h;split at h
 ·simp only[QlM]at h;rw[Qli h.1.1,Qli h.1.2,AV.eqbL_ok _ _ h.2]
 ·cases h

def XW (call:YG)(d:Option Nat)(op:RO)(st:St):Option St :=
 match op with
 |.val vo=>match Qx st.f st.m vo with
  |some x=>some { st with f:=Ql st.f d x }
  |none=>none
 |.allocN s z=>bif Zs st.m s then some { st with m:=Am.put st.m 0 s (.cells z),f:=Ql st.f d (.ptr 0 s 0) } else none
 |.boxN s r=>bif Zs st.m s&&(r.ev st.f).cells.all AV.leaf then some { st with m:=Am.put st.m 0 s (.cells (r.ev st.f).cells),f:=Ql st.f d (.ptr 0 s 0) } else none
 |.store n p r=>bif Nat.beq (r.ev st.f).cells.length n&&(r.ev st.f).cells.all AV.leaf then match Xp st.m (p.ev st.f) (r.ev st.f).cells with
   |some m'=>some { st with m:=m',f:=Ql st.f d (.tup []) }
   |none=>none
  else none
 |.storev l s n p r=>match p.ev st.f with
  |.ptr l' s' _=>bif Nat.beq l' l&&Nat.beq s' s&&Nat.beq (r.ev st.f).cells.length n&&(r.ev st.f).cells.all AV.leaf then match Xp st.m (p.ev st.f) (r.ev st.f).cells with
    |some m'=>some { st with m:=m',f:=Ql st.f d (.tup []) }
    |none=>none
   else none
  |_=>none
 |.app sz bytes el s r=>match s.ev st.f with
  |.vec l site g 0 n false=>match Qc st.m l site with
   |.vec g' sz' xs=>match Q1 st.m (r.ev st.f)with
    |some ys=>bif Nat.beq g' g&&Nat.beq sz' sz&&Zk site el&&Nat.ble n xs.length&&ys.all (fun e=>e.cells.length==sz)&&Nat.ble (n+ys.length) maxLen&&Nat.ble ((n+ys.length)*bytes) 140737488355328 then
      some { st with m:=Am.put st.m l site (.vec (g+1) sz (xs.take n++ys)),f:=Ql st.f d (.vec l site (g+1) 0 (n+ys.length) false) }
     else none
    |none=>none
   |_=>none
  |_=>none
 |.call f args=>match f.ev st.f with
  |.fn (.func k) fa fb=>match AV.stillL false st.m (fa++args.map (RA.ev st.f)++fb)with
   |some ys=>bif AV.rfL ys then match call k ys []with
     |some (v,_)=>bif v.rf&&(AV.rfL (fa++args.map (RA.ev st.f)++fb)||v.nl)then some { st with f:=Ql st.f d v } else none
     |none=>none
    else none
   |none=>none
  |_=>none
 |.callF f args=>match f.ev st.f with
  |.fn (.func k) fa fb=>match call k (fa++args.map (RA.ev st.f)++fb) st.m with
   |some (v,m')=>some { st with m:=m',f:=Ql st.f d v }
   |none=>none
  |_=>none
 |.callG f args=>match f.ev st.f with
  |.fn (.func k) fa fb=>match call k (fa++args.map (RA.ev st.f)++fb) st.m with
   |some (v,m')=>some { st with m:=m',f:=Ql st.f d v }
   |none=>none
  |_=>none
 |.bsl sz len z ps=>match fill st.f ps (X5 z sz len)with
  |some y=>bif AV.rfL y&&y.all AV.leaf then some { st with f:=Ql st.f d (.list (Zz sz len (y.map nn0))) } else none
  |none=>none
 |.bslv site sz len z ps=>match fill st.f ps (X5 z sz len)with
  |some y=>bif AV.rfL y&&y.all AV.leaf&&Qn (Qc st.m 0 site)then some { st with m:=Am.put st.m 0 site (.vec (Qz st.m 0 site) sz (Zz sz len (y.map nn0))),f:=Ql st.f d (.vec 0 site (Qz st.m 0 site) 0 len false) } else none
  |none=>none
 |.clr .. => none
 |.bsl0 site sz=>bif Qn (Qc st.m 0 site)then some { st with m:=Am.put st.m 0 site (.vec (Qz st.m 0 site) sz []),f:=Ql st.f d (.vec 0 site (Qz st.m 0 site) 0 0 false) } else none
 |.appc site sz bytes _ s r=>match s.ev st.f with
  |.lcap xs=>match Q1 st.m (r.ev st.f)with
   |some (y :: ys)=>bif xs.all (fun e=>e.cells.length==sz)&&(y :: ys).all (fun e=>e.cells.length==sz)&&Nat.ble (xs.length+(y :: ys).length) maxLen&&Nat.ble ((xs.length+(y :: ys).length)*bytes) 140737488355328&&Qn (Qc st.m 0 site)then
     some { st with m:=Am.put st.m 0 site (.vec (Qz st.m 0 site) sz (xs++y :: ys)),f:=Ql st.f d (.vec 0 site (Qz st.m 0 site) 0 (xs.length+(y :: ys).length) false) }
    else none
   |_=>none
  |_=>none
 |.isnil neg r=>match r.ev st.f with
  |.nils=>some { st with f:=Ql st.f d (.bool (!neg)) }
  |.list l=>match QP l with
   |_ :: _=>some { st with f:=Ql st.f d (.bool neg) }
   | []=>none
  |_=>none
 |.callK l s f args=>match f.ev st.f with
  |.fn (.func k) fa fb=>match call k (fa++args.map (RA.ev st.f)++fb) st.m with
   |some (v,m')=>bif BH (Qc m' l s) (Qc st.m l s)then some { st with m:=m',f:=Ql st.f d v } else none
   |none=>none
  |_=>none
 |.callO l s f args=>match f.ev st.f with
  |.fn (.func k) fa fb=>match Qc st.m l s with
   |.vec g z xs=>bif AV.npvL l s (fa++args.map (RA.ev st.f)++fb)then(match call k (fa++args.map (RA.ev st.f)++fb) (Uh l s (.vec g z xs))with
    |some (v,m')=>bif v.rf&&DQ (Qc m' l s) g z xs then some { st with f:=Ql st.f d v } else none
    |none=>none)else none
   |_=>none
  |_=>none
 |.xb cnt _ s c=>match s.ev st.f,c.ev st.f with
  |.str t,.int .u8 b=>some { st with f:=Ql st.f d (.int .i64 (Bq cnt t b)) }
  |_,_=>none
 |.rngs s r=>match r.ev st.f with
  |.str t=>bif Zs st.m s then some { st with m:=Am.put st.m 0 s (.iter (.str t) 0),f:=Ql st.f d (.ptr 0 s 0) } else none
  |_=>none
 |.nxts r=>match r.ev st.f with
  |.ptr l s 0=>match Qc st.m l s with
   |.iter (.str t) p=>bif Nat.blt p t.length then some { st with m:=Am.put st.m l s (.iter (.str t) (p+(X6 t p).2)),f:=Ql st.f d (.tup [.bool true,.int .i64 (p:Nat),.int .i32 ((X6 t p).1:Nat)]) } else some { st with f:=Ql st.f d (.tup [.bool false]) }
   |_=>none
  |_=>none
 |.mkm s=>bif Zs st.m s then some { st with m:=Am.put st.m 0 s (.iter (.mp [] []) 0),f:=Ql st.f d (.mptr 0 s) } else none
 |.mput tx x i v=>match x.ev st.f with
  |.mptr l s=>match Qc st.m l s with
   |.iter (.mp ks vs) p=>match K5 tx (i.ev st.f)with
    |some k=>bif keys tx ks&&((v.ev st.f).gr&&AV.grL vs&&Nat.beq ks.length vs.length)then some { st with m:=Am.put st.m l s (.iter (.mp (Zn k (v.ev st.f) ks vs).1 (Zn k (v.ev st.f) ks vs).2) p),f:=Ql st.f d (.tup []) } else none
    |_=>none
   |_=>none
  |_=>none
 |.appS el s r=>match s.ev st.f,r.ev st.f with
  |.vec l site g 0 n false,.str t=>match Qc st.m l site with
   |.vec g' 1 xs=>bif Nat.beq g' g&&Zk site el&&Nat.ble n xs.length&&Nat.ble (n+t.length) 140737488355328 then
     some { st with m:=Am.put st.m l site (.vec (g+1) 1 (xs.take n++Qw t)),f:=Ql st.f d (.vec l site (g+1) 0 (n+t.length) false) }
    else none
   |_=>none
  |_,_=>none
 |.mk site _ sz bytes z l c=>match l.ev st.f,c.ev st.f with
  |.int _ (.ofNat n),.int _ (.ofNat k)=>bif Nat.ble n k&&Nat.ble k 9223372036854775807&&Nat.ble (bytes*k) 281474976710656&&Qn (Qc st.m 0 site)then
    some { st with m:=Am.put st.m 0 site (.vec (Qz st.m 0 site) sz (List.replicate n (ZS sz z))),f:=Ql st.f d (.vec 0 site (Qz st.m 0 site) 0 n false) }
   else none
  |_,_=>none
 |.s2b site _ r=>match r.ev st.f with
  |.str s=>bif Nat.ble s.length 9223372036854775807&&Qn (Qc st.m 0 site)then
    some { st with m:=Am.put st.m 0 site (.vec (Qz st.m 0 site) 1 (Qw s)),f:=Ql st.f d (.vec 0 site (Qz st.m 0 site) 0 s.length false) }
   else none
  |_=>none
 |.usd r=>match r.ev st.f with
  |.vec l s g 0 n false=>match Qc st.m l s with
   |.vec g' _ _=>bif Nat.beq g' g&&Nat.ble 2000 s then some { st with f:=Ql st.f d (if n=0 then .anyp else .vptr l s g 0 0) } else none
   |_=>none
  |_=>none
 |.ustr el p r=>match p.ev st.f,r.ev st.f with
  |.anyp,.int .i64 (.ofNat 0)=>some { st with f:=Ql st.f d (.str []) }
  |.vptr l s g 0 0,.int .i64 (.ofNat (n+1))=>match Qc st.m l s with
   |.vec g' 1 xs=>match bytesOf (xs.take (n+1))with
    |some t=>bif Nat.beq s (el+2000)&&Nat.beq g' g&&Nat.ble (n+1) xs.length&&isBytes (xs.take (n+1)) t then some { st with m:=Am.put st.m l (el+2000) (.vec (g+1) 1 []),f:=Ql st.f d (.str t) } else none
    |none=>none
   |_=>none
  |_,_=>none
where
  isBytes:List AV→List UInt8→Bool
  | [],[]=>true
  |.int .u8 (.ofNat n) :: l,b :: t=>Nat.beq n b.toNat&&isBytes l t
  |_,_=>false

def C0 (call:YG)(it:Item)(st:St):Option St :=
 match it.g with
 |none=>XW call it.dst it.op st
 |some (j,want)=>match st.f j with
  |.bool b=>bif b==want then XW call it.dst it.op st else some { st with f:=Ql st.f it.dst (.tup []) }
  |.tup []=>some { st with f:=Ql st.f it.dst (.tup []) }
  |_=>none

def BI (call:YG):List Item→St→Option St
 | [],st=>some st
 |it :: its,st=>match C0 call it st with
  |some st'=>BI call its st'
  |none=>none

def BJ (rs:List RR)(n:Nat)(r:Option (Exit×St)):Option (AV×Qk) :=
 match r with
 |some (.normal,st)=>fin st
 |some (.ret,st)=>fin st
 |_=>none
where
 fin (st:St):Option (AV×Qk):=match st.ds with
  | []=>match WR st rs with
   |some x=>match Yz st.m x with
    |some y=>match st.m with
     |_ :: m=>bif Nat.beq m.length n then some (y,m)else none
     | []=>none
    |none=>none
   |none=>none
  |_=>none

def Hr (nat:YG)(T:VD)(body:RC→St→Option (Exit×St)):YG:=fun k args m=>
 match nat k args m with
 |some r=>some r
 |none=>match T k with
  |some (c,rs,N)=>bif Nat.ble args.length N then BJ rs m.length (body c (St.enter args m))else none
  |none=>none

def Jd (nat:YG)(T:VD):Nat→RC→St→Option (Exit×St)
 |0,_,_=>none
 |n+1,c,st=>match c with
  |.skip=>some (.normal,st)
  |.reg its=>match BI (Hr nat T (Jd nat T n)) its st with
   |some st'=>some (.normal,st')
   |none=>none
  |.draw its=>match BI (Hr nat T (Jd nat T n)) its st with
   |some st'=>some (.normal,st')
   |none=>none
  |.seq a b=>match Jd nat T n a st with
   |some (.normal,st')=>Jd nat T n b st'
   |r=>r
  |.cond c a b=>match c.ev st.f with
   |.bool t=>bif t then Jd nat T n a st else Jd nat T n b st
   |_=>none
  |.block id a=>match Jd nat T n a st with
   |some (.exit i,st')=>if i=id then some (.normal,st')else some (.exit i,st')
   |r=>r
  |.loop a=>match Jd nat T n a st with
   |some (.normal,st')=>Jd nat T n (.loop a) st'
   |r=>r
  |.exit id=>some (.exit id,st)
  |.scope a=>match Jd nat T n a st with
   |some (.goto _,_)=>none
   |r=>r
  |.lab=>some (.normal,st)
  |.ret=>some (.ret,st)
  |.gho g a=>match JL g st with
   |some st'=>Jd nat T n a st'
   |none=>none
  |.no=>none
  |.goto l=>some (.goto l,st)
  |.jump l a b=>match Jd nat T n a st with
   |some (.goto i,st')=>if i=l then Jd nat T n (.jump l b b) st' else none
   |r=>r

section
variable {P:Program}{T:VD}

def YB (P:Program)(call:YG):Prop:=∀k args m v m',call k args m=some (v,m')→Qe P k args m fun x m1=>x=v∧m1=m'

theorem BK:∀ {l:List AV} {t:List UInt8},XW.isBytes l t=true→l=Qw t
 | [],[],_=>rfl
 | [],_ :: _,h=>by simp[XW.isBytes]at h
 |.int .u8 (.ofNat n) :: l,b :: t,h=>by
  simp only[XW.isBytes,QlM]at h;rw[BK h.2,Qli h.1];rfl
 |x :: l,[],h=>by
  unfold XW.isBytes at h;split at h<;>simp_all

theorem Rg {call:YG}(hc:YB P call){d:Option Nat}{op:RO}{st st':St}(h:XW call d op st=some st'){K:St→Prop}(hK:K st'):GC P d op st K:=by
 cases op with
 |val vo=>
  simp only[XW]at h;split at h
  ·rename_i x hx;cases h;exact⟨x,hx,hK⟩
  ·cases h
 |allocN s z=>
  exact zX
 |boxN s r=>
  simp only[XW]at h;cases h1:(Zs st.m s&&(r.ev st.f).cells.all AV.leaf)<;>rw[h1]at h<;>simp only[cond_true,cond_false,reduceCtorEq,QlP]at h;rw[QlM]at h1;subst h;exact⟨h1.1,h1.2,hK⟩
 |store n p r=>
  simp only[XW]at h;cases h1:(Nat.beq (r.ev st.f).cells.length n&&(r.ev st.f).cells.all AV.leaf)<;>rw[h1]at h<;>simp only[cond_true,cond_false,reduceCtorEq]at h;rw[QlM]at h1;split at h
  ·rename_i m' hm;cases h;exact⟨Qli h1.1,h1.2,m',hm,hK⟩
  ·cases h
 |storev l s n p r=>
  simp only[XW]at h;split at h
  ·rename_i l' s' o hp;cases h1:(Nat.beq l' l&&Nat.beq s' s&&Nat.beq (r.ev st.f).cells.length n&&(r.ev st.f).cells.all AV.leaf)<;>rw[h1]at h<;>simp only[cond_true,cond_false,reduceCtorEq]at h;simp only[QlM]at h1;obtain⟨⟨⟨a1,a2⟩,a3⟩,a4⟩:=h1;have e1:=Qli a1;have e2:=Qli a2;subst e1 e2;split at h
   ·rename_i m' hm;cases h;exact⟨⟨o,hp⟩,Qli a3,a4,m',hm,hK⟩
   ·cases h
  ·cases h
 |app sz bytes el s r=>
  simp only[XW]at h;split at h
  ·rename_i l site g n hs;split at h
   ·rename_i g' sz' xs hl;split at h
    ·rename_i ys hy;cases h1:(Nat.beq g' g&&Nat.beq sz' sz&&Zk site el&&Nat.ble n xs.length&&ys.all (fun e=>e.cells.length==sz)&&Nat.ble (n+ys.length) maxLen&&Nat.ble ((n+ys.length)*bytes) 140737488355328)<;>rw[h1]at h<;>simp only[cond_true,cond_false,reduceCtorEq,QlP]at h;simp only[QlM]at h1;obtain⟨⟨⟨⟨⟨⟨a1,a2⟩,a3⟩,a4⟩,a5⟩,a6⟩,a7⟩:=h1;have e1:=Qli a1;have e2:=Qli a2;subst e1 e2 h;exact⟨l,site,_,n,xs,ys,hs,hl,a3,QmT a4,hy,a5,QmT a6,QmT a7,hK⟩
    ·cases h
   ·cases h
  ·cases h
 |call f args=>
  simp only[XW]at h;split at h
  ·rename_i k fa fb hf;split at h
   ·rename_i ys hy;cases h1:AV.rfL ys<;>rw[h1]at h<;>simp only[cond_true,cond_false,reduceCtorEq]at h;split at h
    ·rename_i v m' hv;cases h2:(v.rf&&(AV.rfL (fa++args.map (RA.ev st.f)++fb)||v.nl))<;>rw[h2]at h<;>simp only[cond_true,cond_false,reduceCtorEq,QlP]at h;rw[QlM,Qlq]at h2;subst h;exact⟨k,fa,fb,ys,v,hf,hy,h1,(hc _ _ _ _ _ hv).mono (fun _ _ e=>e.1),h2.1,h2.2,hK⟩
    ·cases h
   ·cases h
  ·cases h
 |callF f args=>
  simp only[XW]at h;split at h
  ·rename_i k fa fb hf;split at h
   ·rename_i v m' hv;cases h;exact⟨k,fa,fb,v,m',hf,hc _ _ _ _ _ hv,hK⟩
   ·cases h
  ·cases h
 |callG f args=>
  simp only[XW]at h;split at h
  ·rename_i k fa fb hf;split at h
   ·rename_i v m' hv;cases h;exact⟨k,fa,fb,_,hf,hc _ _ _ _ _ hv,fun x m1 hx _=>by obtain⟨rfl,rfl⟩:=hx;exact hK⟩
   ·cases h
  ·cases h
 |bsl sz len z ps=>
  simp only[XW]at h;split at h
  ·rename_i y hy;cases h1:(AV.rfL y&&y.all AV.leaf)<;>rw[h1]at h<;>simp only[cond_true,cond_false,reduceCtorEq,QlP]at h;rw[QlM]at h1;subst h;exact⟨y,hy,h1.1,h1.2,hK⟩
  ·cases h
 |bslv site sz len z ps=>
  simp only[XW]at h;split at h
  ·rename_i y hy;cases h1:(AV.rfL y&&y.all AV.leaf&&Qn (Qc st.m 0 site))<;>rw[h1]at h<;>simp only[cond_true,cond_false,reduceCtorEq,QlP]at h;simp only[QlM]at h1;subst h;exact⟨y,hy,h1.1.1,h1.1.2,h1.2,hK⟩
  ·cases h
 |clr sz z r=>simp only[XW]at h;cases h
 |bsl0 site sz=>
  simp only[XW]at h;cases h1:Qn (Qc st.m 0 site)<;>rw[h1]at h<;>simp only[cond_true,cond_false,reduceCtorEq,QlP]at h;subst h;exact⟨h1,hK⟩
 |appc site sz bytes el s r=>
  simp only[XW]at h;split at h
  ·rename_i xs hs;split at h
   ·rename_i y ys hy;cases h1:(xs.all (fun e=>e.cells.length==sz)&&(y :: ys).all (fun e=>e.cells.length==sz)&&Nat.ble (xs.length+(y :: ys).length) maxLen&&Nat.ble ((xs.length+(y :: ys).length)*bytes) 140737488355328&&Qn (Qc st.m 0 site))<;>rw[h1]at h<;>simp only[cond_true,cond_false,reduceCtorEq,QlP]at h;simp only[QlM]at h1;obtain⟨⟨⟨⟨a1,a2⟩,a3⟩,a4⟩,a5⟩:=h1;subst h;exact⟨xs,y :: ys,hs,hy,xA,a1,a2,QmT a3,QmT a4,a5,hK⟩
   ·cases h
  ·cases h
 |isnil neg r=>
  simp only[XW]at h;split at h
  ·rename_i hr;cases h;exact⟨[],by rw[hr];rfl,fun e=>absurd hr e,fun _=>hK⟩
  ·rename_i l hr;split at h
   ·rename_i z zs hf;cases h;exact⟨l,by rw[hr];rfl,fun _=>hK,fun e=>by
     rcases e with e|e
     ·rw[hr]at e;cases e
     ·rw[hf]at e;cases e⟩
   ·cases h
  ·cases h
 |callO l s f args=>
  simp only[XW]at h;split at h
  ·rename_i k fa fb hf;split at h
   ·rename_i g z xs hl;cases h1:AV.npvL l s (fa++args.map (RA.ev st.f)++fb)<;>rw[h1]at h<;>simp only[cond_true,cond_false,reduceCtorEq]at h;split at h
    ·rename_i v m' hv;cases h2:(v.rf&&DQ (Qc m' l s) g z xs)<;>rw[h2]at h<;>simp only[cond_true,cond_false,reduceCtorEq,QlP]at h;rw[QlM]at h2;subst h;exact⟨k,fa,fb,g,z,xs,v,hf,hl,fun m hm=>PR (hc _ _ _ _ _ hv) (SI h2.2) h2.1 h1 m hm,hK⟩
    ·cases h
   ·cases h
  ·cases h
 |callK l s f args=>
  simp only[XW]at h;split at h
  ·rename_i k fa fb hf;split at h
   ·rename_i v m' hv;cases he:BH (Qc m' l s) (Qc st.m l s)<;>rw[he]at h<;>simp only[cond_true,cond_false,reduceCtorEq,QlP]at h;subst h;exact⟨k,fa,fb,v,m',hf,hc _ _ _ _ _ hv,Ak he,hK⟩
   ·cases h
  ·cases h
 |xb cnt k s c=>
  simp only[XW]at h;split at h
  ·rename_i t b hs hb;cases h;exact⟨t,b,hs,hb,hK⟩
  ·cases h
 |rngs s r=>
  simp only[XW]at h;split at h
  ·rename_i t ht;cases h1:Zs st.m s<;>rw[h1]at h<;>simp only[cond_true,cond_false,reduceCtorEq,QlP]at h;subst h;exact⟨t,ht,h1,hK⟩
  ·cases h
 |mkm s=>
  exact zX
 |mput tx x i v=>
  simp only[XW]at h;split at h
  ·rename_i l s hx;split at h
   ·rename_i ks vs p hl;split at h
    ·rename_i k hi;cases h1:(keys tx ks&&((v.ev st.f).gr&&AV.grL vs&&Nat.beq ks.length vs.length))<;>rw[h1]at h<;>simp only[cond_true,cond_false,reduceCtorEq,QlP]at h;subst h;simp only[QlM]at h1;exact⟨l,s,ks,vs,p,k,hx,hl,hi,h1.1,h1.2.1.1,h1.2.1.2,Qli h1.2.2,hK⟩
    ·cases h
   ·cases h
  ·cases h
 |nxts r=>
  simp only[XW]at h;split at h
  ·rename_i l s hr;split at h
   ·rename_i t p hl;refine⟨l,s,t,p,hr,hl,fun e=>?_,fun e=>?_⟩
    ·have hb:Nat.blt p t.length=true:=by simp[Nat.blt_eq,e]
     rw[hb]at h;cases h;exact hK
    ·have hb:Nat.blt p t.length=false:=by
      cases hb:Nat.blt p t.length with
      |false=>rfl
      |true=>rw[Nat.blt_eq]at hb;omega
     rw[hb]at h;cases h;exact hK
   ·cases h
  ·cases h
 |appS el s r=>
  simp only[XW]at h;split at h
  ·rename_i l site g n t hs hr;split at h
   ·rename_i g' xs hl;cases h1:(Nat.beq g' g&&Zk site el&&Nat.ble n xs.length&&Nat.ble (n+t.length) 140737488355328)<;>rw[h1]at h<;>simp only[cond_true,cond_false,reduceCtorEq,QlP]at h;simp only[QlM]at h1;obtain⟨⟨⟨a1,a2⟩,a3⟩,a4⟩:=h1;have e1:=Qli a1;subst e1 h;exact⟨l,site,_,n,xs,t,hs,hl,a2,QmT a3,hr,QmT a4,hK⟩
   ·cases h
  ·cases h
 |mk site el sz bytes z l c=>
  simp only[XW]at h;split at h
  ·rename_i kl n kc k hl hcc;cases h1:(Nat.ble n k&&Nat.ble k 9223372036854775807&&Nat.ble (bytes*k) 281474976710656&&Qn (Qc st.m 0 site))<;>rw[h1]at h<;>simp only[cond_true,cond_false,reduceCtorEq,QlP]at h;simp only[QlM]at h1;obtain⟨⟨⟨a1,a2⟩,a3⟩,a4⟩:=h1;subst h;exact⟨kl,kc,n,k,hl,hcc,QmT a1,QmT a2,QmT a3,a4,hK⟩
  ·cases h
 |s2b site el r=>
  simp only[XW]at h;split at h
  ·rename_i s hs;cases h1:(Nat.ble s.length 9223372036854775807&&Qn (Qc st.m 0 site))<;>rw[h1]at h<;>simp only[cond_true,cond_false,reduceCtorEq,QlP]at h;simp only[QlM]at h1;subst h;exact⟨s,hs,QmT h1.1,h1.2,hK⟩
  ·cases h
 |usd r=>
  simp only[XW]at h;split at h
  ·rename_i l s g n hr;split at h
   ·rename_i g' sz xs hl;cases h1:(Nat.beq g' g&&Nat.ble 2000 s)<;>rw[h1]at h<;>simp only[cond_true,cond_false,reduceCtorEq,QlP]at h;simp only[QlM]at h1;have e1:=Qli h1.1;subst e1 h;exact⟨l,s,_,n,sz,xs,QmT h1.2,hr,hl,hK⟩
   ·cases h
  ·cases h
 |ustr el p r=>
  simp only[XW]at h;split at h
  ·rename_i hp hr;cases h;exact .inl ⟨hp,hr,hK⟩
  ·rename_i l s g n hp hr;split at h
   ·rename_i g' xs hl;split at h
    ·rename_i t ht;cases h1:(Nat.beq s (el+2000)&&Nat.beq g' g&&Nat.ble (n+1) xs.length&&XW.isBytes (xs.take (n+1)) t)<;>rw[h1]at h<;>simp only[cond_true,cond_false,reduceCtorEq,QlP]at h;simp only[QlM]at h1;obtain⟨⟨⟨a1,a2⟩,a3⟩,a4⟩:=h1;have e1:=Qli a1;have e2:=Qli a2;subst e1 e2 h;exact .inr ⟨l,_,n+1,xs,t,hp,hr,hl,QmT a3,Nat.succ_ne_zero n,BK a4,hK⟩
    ·cases h
   ·cases h
  ·cases h

theorem Al {call:YG}(hc:YB P call){it:Item}{st st':St}(h:C0 call it st=some st'){K:St→Prop}(hK:K st'):ZQ P it st K:=by
 obtain⟨d,op,g⟩:=it;cases g with
 |none=>exact Rg (d:=d) hc h hK
 |some p=>
  obtain⟨j,want⟩:=p;simp only[C0]at h;simp only[ZQ];split at h
  ·rename_i b hj;simp only[hj];cases hb:(b==want)with
   |true=>
    rw[hb]at h;have e:b=want:=by simpa using hb
    exact⟨fun _=>Rg hc h hK,fun e'=>by rw[e]at e';cases want<;>cases e'⟩
   |false=>
    rw[hb]at h;simp only[cond_false,QlP]at h;subst h;exact⟨fun e=>by rw[e]at hb;simp at hb,fun _=>hK⟩
  ·rename_i hj;cases h;simp only[hj];exact⟨trivial,hK⟩
  ·cases h

theorem FL {call:YG}(hc:YB P call):∀ {its:List Item} {st st':St},BI call its st=some st'→∀ {K:St→Prop},K st'→QD P its st K
 | [],_,_,h,_,hK=>by cases h;exact hK
 |it :: its,st,st',h,K,hK=>by
  simp only[BI]at h;split at h
  ·rename_i st1 h1;exact Al hc h1 (FL hc h hK)
  ·cases h

theorem It {rs:List RR}{n:Nat}{r:Option (Exit×St)}{v:AV}{m':Qk}(h:BJ rs n r=some (v,m')):∃e st,r=some (e,st)∧ZI rs n (fun x m1=>x=v∧m1=m') e st:=by
 have fin:∀ {e:Exit} {st:St},(e=.normal∨e=.ret)→BJ.fin rs n st=some (v,m')→ZI rs n (fun x m1=>x=v∧m1=m') e st:=by
  intro e st he h;unfold BJ.fin at h;split at h
  ·rename_i hds;split at h
   ·rename_i x hx;split at h
    ·rename_i y hy;split at h
     ·rename_i fr m hm;cases hb:Nat.beq m.length n with
      |false=>rw[hb]at h;cases h
      |true=>
       rw[hb]at h;simp only[cond_true,QlP,QmV]at h;exact⟨he,hds,x,y,fr,m,hx,hy,hm,Qli hb,h.1,h.2⟩
     ·cases h
    ·cases h
   ·cases h
  ·cases h
 unfold BJ at h;split at h
 ·exact⟨_,_,rfl,fin (.inl rfl) h⟩
 ·exact⟨_,_,rfl,fin (.inr rfl) h⟩
 ·cases h

theorem UW {nat:YG}(hN:YB P nat)(hT:DP P T){body:RC→St→Option (Exit×St)}(hb:∀c st e st',body c st=some (e,st')→∀Q:Exit→St→Prop,Q e st'→QU P c st Q):YB P (Hr nat T body):=by
 intro k args m v m' h;unfold Hr at h;split at h
 ·rename_i r hr;cases h;exact hN _ _ _ _ _ hr
 split at h
 ·rename_i c rs N hk;cases hN:Nat.ble args.length N with
  |false=>rw[hN]at h;cases h
  |true=>
   rw[hN]at h;simp only[cond_true]at h;obtain⟨e,st,h1,h2⟩:=It h;obtain⟨fn,cd,a1,a2,a3,a4,a5,a6⟩:=hT k c rs N hk;exact GD a1 a2 a3 a4 a5 a6 (QmT hN) (hb _ _ _ _ h1 _ h2)
 ·cases h

theorem An {nat:YG}(hN:YB P nat)(hT:DP P T):∀(n:Nat) (c:RC) (st:St) (e:Exit) (st':St),Jd nat T n c st=some (e,st')→∀Q:Exit→St→Prop,Q e st'→QU P c st Q:=by
 intro n
 induction n using Nat.strongRecOn with
 |_ n ihs=>
 cases n with
 |zero=>intro c st e st' h;cases h
 |succ n=>
  intro c st e st' h Q hQ;have ih:=ihs n (Nat.lt_succ_self n);cases c with
  |skip=>cases h;exact hQ
  |reg its=>
   exact yD
  |draw its=>
   exact yD
  |seq a b=>
   simp only[Jd]at h;split at h
   ·rename_i st1 h1;exact ih _ _ _ _ h1 _ (ih _ _ _ _ h Q hQ)
   ·rename_i h1;refine ih _ _ _ _ h _ ?_;cases e with
    |normal=>exact absurd h (h1 st')
    |_=>exact hQ
  |cond c a b=>
   simp only[Jd]at h;split at h
   ·rename_i t ht;cases t with
    |true=>exact⟨true,ht,fun _=>ih _ _ _ _ h Q hQ,(fun e=>kZ)⟩
    |false=>exact⟨false,ht,(fun e=>kZ),fun _=>ih _ _ _ _ h Q hQ⟩
   ·cases h
  |block id a=>
   simp only[Jd]at h;split at h
   ·rename_i i st1 h1;refine ih _ _ _ _ h1 _ ?_;show if i=id then Q .normal st1 else Q (.exit i) st1
    split at h
    ·rename_i hi;cases h;rw[Qlv hi];exact hQ
    ·rename_i hi;cases h;rw[Qlu hi];exact hQ
   ·rename_i h1;refine ih _ _ _ _ h _ ?_;cases e with
    |exit i=>exact absurd h (h1 i st')
    |_=>exact hQ
  |loop a=>
   refine⟨fun k s=>k≤n∧Jd nat T (k+1) (.loop a) s=some (e,st'),n,⟨Qlk _,h⟩,fun k s hh=>?_⟩;obtain⟨hk,hs⟩:=hh;simp only[Jd]at hs;split at hs
   ·rename_i st1 h1;refine ihs k xw _ _ _ _ h1 _ ?_;show ∃j,j<k∧j≤n∧Jd nat T (j+1) (.loop a) st1=some (e,st');cases k with
    |zero=>cases h1
    |succ j=>exact⟨j,Nat.lt_succ_self j,xw,hs⟩
   ·rename_i h1;refine ihs k xw _ _ _ _ hs _ ?_;cases e with
    |normal=>exact absurd hs (h1 st')
    |_=>exact hQ
  |exit id=>cases h;exact hQ
  |scope a=>
   simp only[Jd]at h;split at h
   ·cases h
   ·rename_i h1;refine ih _ _ _ _ h _ ?_;cases e with
    |goto i=>exact absurd h (h1 i st')
    |_=>exact hQ
  |lab=>cases h;exact hQ
  |ret=>cases h;exact hQ
  |gho g a=>
   simp only[Jd]at h;split at h
   ·rename_i st1 h1;exact⟨st1,h1,ih _ _ _ _ h Q hQ⟩
   ·cases h
  |no=>cases h
  |goto l=>cases h;exact hQ
  |jump l a b=>
   have pass:∀k s,(k≤n∧Jd nat T (k+1) (.jump l b b) s=some (e,st'))→QU P b s (Kj l (fun s=>∃j,j<k∧(j≤n∧Jd nat T (j+1) (.jump l b b) s=some (e,st'))) Q):=by
    intro k s hh;obtain⟨hk,hs⟩:=hh;simp only[Jd]at hs;split at hs
    ·rename_i i st1 h1;split at hs
     ·rename_i hi;refine ihs k xw _ _ _ _ h1 _ ?_;cases k with
      |zero=>cases h1
      |succ j=>exact⟨hi,j,Nat.lt_succ_self j,xw,hs⟩
     ·cases hs
    ·rename_i h1;refine ihs k xw _ _ _ _ hs _ ?_;cases e with
     |goto i=>exact absurd hs (h1 i st')
     |_=>exact hQ
   refine⟨fun k s=>k≤n∧Jd nat T (k+1) (.jump l b b) s=some (e,st'),?_,pass⟩;simp only[Jd]at h;split at h
   ·rename_i i st1 h1;split at h
    ·rename_i hi;refine ih _ _ _ _ h1 _ ?_;cases n with
     |zero=>cases h1
     |succ j=>exact⟨hi,j,xw,h⟩
    ·cases h
   ·rename_i h1;refine ih _ _ _ _ h _ ?_;cases e with
    |goto i=>exact absurd h (h1 i st')
    |_=>exact hQ

def evT (nat:YG)(T:VD)(n:Nat)(k:FuncId)(args:List AV):Bool :=
 match Hr nat T (Jd nat T n) k args []with
 |some (.bool true,_)=>true
 |_=>false

theorem SJ {nat:YG}(hN:YB P nat)(hT:DP P T){n:Nat}{k:FuncId}{args:List AV}(h:evT nat T n k args=true):Qh P k args (.bool true):=by
 unfold evT at h;split at h
 ·rename_i m' h1;exact(UW hN hT (An hN hT n) _ _ _ _ _ h1).mono fun _ _ e=>e.1
 ·cases h

end

def Qa:=(Qm7 (Qm7 (Qm7 (Qm7 (Qm7 (Qm7 (Qm7 (Qm7 @Am.HT @Am.HS) (Qm7 @Am.TT @Am.WS)) (Qm7 (Qm7 @Am.JR @Am.TW) (Qm7 @Am.TX (Qm7 @Am.P6 @Am.P7)))) (Qm7 (Qm7 (Qm7 @Am.Hq @Am.LP) (Qm7 @Am.LQ @Am.TS)) (Qm7 (Qm7 @Am.TZ @Am.BB) (Qm7 @Am.T0 (Qm7 @Am.T1 @Am.T2))))) (Qm7 (Qm7 (Qm7 (Qm7 @Am.T3 @Am.T4) (Qm7 @Am.T5 @Am.T6)) (Qm7 (Qm7 @Am.YF @Am.TV) (Qm7 @Am.LR (Qm7 @Am.VB @Am.GS)))) (Qm7 (Qm7 (Qm7 @Am.e_f @Am.WU) (Qm7 @Am.JS @Am.WT)) (Qm7 (Qm7 @Am.WV @Am.Fq) (Qm7 @Am.Yo (Qm7 @Am.CQ @Am.Vz)))))) (Qm7 (Qm7 (Qm7 (Qm7 (Qm7 @Am.UU @Am.CR) (Qm7 @Am.BC @Am.BD)) (Qm7 (Qm7 @Am.VA @Am.HU) (Qm7 @Am.Yn (Qm7 @Am.CS @Am.CU)))) (Qm7 (Qm7 (Qm7 @Am.KS @Am.Qx.eq_1) (Qm7 @Am.Qx.eq_2 @Am.Qx.eq_3)) (Qm7 (Qm7 @Am.Qx.eq_4 @Am.Qx.eq_5) (Qm7 @Am.Qx.eq_6 (Qm7 @Am.Qx.eq_7 @Am.Qx.eq_8))))) (Qm7 (Qm7 (Qm7 (Qm7 @Am.Qx.eq_9 @Am.Qx.eq_10) (Qm7 @Am.Qx.eq_11 @Am.Qx.eq_12)) (Qm7 (Qm7 @Am.Qx.eq_13 @Am.Qx.eq_14) (Qm7 @Am.Qx.eq_15 (Qm7 @Am.Qx.eq_16 @Am.Qx.eq_17)))) (Qm7 (Qm7 (Qm7 @Am.Qx.eq_18 @Am.Qx.eq_19) (Qm7 @Am.Qx.eq_20 @Am.Qx.eq_21)) (Qm7 (Qm7 @Am.Qx.eq_22 @Am.Qx.eq_23) (Qm7 @Am.Qx.eq_24 (Qm7 @Am.Qx.eq_25 @Am.Qx.eq_26))))))) (Qm7 (Qm7 (Qm7 (Qm7 (Qm7 (Qm7 @Am.Qx.eq_27 @Am.Qx.eq_28) (Qm7 @Am.Qx.eq_29 @Am.Qx.eq_30)) (Qm7 (Qm7 @Am.Qx.eq_31 @Am.Qx.eq_32) (Qm7 @Am.Qx.eq_33 (Qm7 @Am.Qx.eq_1 @Am.Qx.eq_1)))) (Qm7 (Qm7 (Qm7 @Am.Qx.eq_1 @Am.Xc.eq_1) (Qm7 @Am.Xc.eq_2 @Am.Xc.eq_3)) (Qm7 (Qm7 @Am.Xc.eq_4 @Am.Xc.eq_5) (Qm7 @Am.Xc.eq_6 (Qm7 @Am.Xc.eq_7 @Am.Xc.eq_8))))) (Qm7 (Qm7 (Qm7 (Qm7 @Am.Xc.eq_9 @Am.Xc.eq_10) (Qm7 @Am.Xc.eq_11 @Am.Xc.eq_12)) (Qm7 (Qm7 @Am.Xc.eq_13 @Am.Xc.eq_14) (Qm7 @Am.Xc.eq_15 (Qm7 @Am.Xc.eq_16 @Am.Xc.eq_17)))) (Qm7 (Qm7 (Qm7 @Am.Xu.eq_1 @Am.Xu.eq_2) (Qm7 @Am.Xu.eq_3 @Am.Xu.eq_4)) (Qm7 (Qm7 @Am.Xu.eq_5 @Am.Xu.eq_6) (Qm7 @Am.Xu.eq_7 (Qm7 @Am.Xu.eq_8 @Am.Xu.eq_9)))))) (Qm7 (Qm7 (Qm7 (Qm7 (Qm7 @Am.Xu.eq_10 @Am.Xu.eq_11) (Qm7 @Am.Xu.eq_12 @Am.Xu.eq_13)) (Qm7 (Qm7 @Am.Xu.eq_14 @Am.Xu.eq_15) (Qm7 @Am.Xu.eq_16 (Qm7 @Am.GH.eq_1 @Am.GH.eq_2)))) (Qm7 (Qm7 (Qm7 @Am.GH.eq_3 @Am.GH.eq_4) (Qm7 @cond_true.{0} @cond_true.{1})) (Qm7 (Qm7 @cond_false.{0} @cond_false.{1}) (Qm7 @Qmf (Qm7 @and_true @Qmr.{0}))))) (Qm7 (Qm7 (Qm7 (Qm7 @Qmw.{0} @List.getElem?_nil.{0}) (Qm7 @QmA.{0} @Qm4.{0})) (Qm7 (Qm7 @Am.St.enter.eq_1 @Am.Cw.eq_1) (Qm7 @Am.AV.shL.eq_1 (Qm7 @Am.AV.shL.eq_2 @Am.AV.sh.eq_1)))) (Qm7 (Qm7 (Qm7 @Am.AV.sh.eq_2 @Am.AV.sh.eq_3) (Qm7 @Am.AV.sh.eq_4 @Am.AV.sh.eq_5)) (Qm7 (Qm7 @Am.AV.sh.eq_6 @Am.AV.sh.eq_7) (Qm7 @Am.AV.sh.eq_8 (Qm7 @Am.AV.sh.eq_9 @Am.WR.eq_1)))))))) (Qm7 (Qm7 (Qm7 (Qm7 (Qm7 (Qm7 (Qm7 @Am.WR.eq_2 @Am.RR.ev.eq_1) (Qm7 @Am.RR.ev.eq_2 @Am.RR.evL.eq_1)) (Qm7 (Qm7 @Am.RR.evL.eq_2 @Am.Yz.eq_1) (Qm7 @Am.AV.still.eq_1 (Qm7 @Am.AV.still.eq_2 @Am.AV.still.eq_3)))) (Qm7 (Qm7 (Qm7 @Am.AV.still.eq_4 @Am.AV.still.eq_5) (Qm7 @Am.AV.still.eq_6 @Am.AV.still.eq_7)) (Qm7 (Qm7 @Am.AV.still.eq_8 @Am.AV.stillL.eq_1) (Qm7 @Am.AV.stillL.eq_2 (Qm7 @Am.AV.un.eq_1 @Am.AV.un.eq_2))))) (Qm7 (Qm7 (Qm7 (Qm7 @Am.AV.un.eq_3 @Am.AV.un.eq_4) (Qm7 @Am.AV.un.eq_5 @Am.AV.un.eq_6)) (Qm7 (Qm7 @Am.AV.un.eq_7 @Am.AV.un.eq_8) (Qm7 @Am.AV.un.eq_9 (Qm7 @Am.AV.un.eq_10 @Am.AV.un.eq_11)))) (Qm7 (Qm7 (Qm7 @Am.AV.un.eq_12 @Am.AV.un.eq_13) (Qm7 @Am.AV.unL.eq_1 @Am.AV.unL.eq_2)) (Qm7 (Qm7 @Option.bind_some.{0,0} @QlO.{0,0}) (Qm7 @if_true.{0} (Qm7 @if_true.{1} @if_false.{0})))))) (Qm7 (Qm7 (Qm7 (Qm7 (Qm7 @if_false.{1} @QlH) (Qm7 @Go.IntKind.bits.eq_1 @Go.IntKind.bits.eq_2)) (Qm7 (Qm7 @Go.IntKind.bits.eq_3 @Go.IntKind.bits.eq_4) (Qm7 @Go.IntKind.bits.eq_5 (Qm7 @Go.IntKind.bits.eq_6 @Go.IntKind.bits.eq_7)))) (Qm7 (Qm7 (Qm7 @Go.IntKind.bits.eq_8 @Qmk.{0}) (Qm7 @QlD.{0} @Qm8)) (Qm7 (Qm7 @QmD @forall_const.{1}) (Qm7 @not_true_eq_false (Qm7 @not_false_eq_true @Am.DM))))) (Qm7 (Qm7 (Qm7 (Qm7 @Qm9 @Qmx) (Qm7 @Am.YT.eq_1 @ne_eq.{1})) (Qm7 (Qm7 @Nat.one_ne_zero @decide_true) (Qm7 @decide_false (Qm7 @Am.Qbs @Am.Iq)))) (Qm7 (Qm7 (Qm7 @Am.Qc8 @Am.Ir) (Qm7 @Am.Qc9 @Am.Qc7)) (Qm7 (Qm7 @Am.Qfn @Am.Zs.eq_1) (Qm7 @Am.AV.unNL.eq_1 (Qm7 @Am.AV.unNL.eq_2 @Am.AV.unNL_zero))))))) (Qm7 (Qm7 (Qm7 (Qm7 (Qm7 (Qm7 @Am.AV.shNL.eq_1 @Am.AV.shNL.eq_2) (Qm7 @Am.AV.shN.eq_1 @Am.AV.shN.eq_2)) (Qm7 (Qm7 @Am.splice.eq_1 @Am.part.eq_1) (Qm7 @Am.part.eq_2 (Qm7 @Am.fill.eq_1 @Am.fill.eq_2)))) (Qm7 (Qm7 (Qm7 @Am.AV.leaf.eq_1 @Am.AV.leaf.eq_2) (Qm7 @Am.AV.leaf.eq_3 @Am.AV.leaf.eq_4)) (Qm7 (Qm7 @QmB.{0} @QmC.{0}) (Qm7 @QlX.{0} (Qm7 @Qmy.{0} @List.take_nil.{0}))))) (Qm7 (Qm7 (Qm7 (Qm7 @Ql0.{0} @Ql6.{0}) (Qm7 @QmE.{0} @QlL.{0})) (Qm7 (Qm7 @QlK.{0} @Qms.{0}) (Qm7 @Am.Qb.eq_1 (Qm7 @and_self @Am.Jc.eq_1)))) (Qm7 (Qm7 (Qm7 @Am.Jc.eq_2 @Am.Jc.eq_3) (Qm7 @Am.Jc.eq_4 @Am.Jc.eq_5)) (Qm7 (Qm7 @Am.Jc.eq_6 @Am.Js.eq_1) (Qm7 @Am.Js.eq_2 (Qm7 @Am.Xo.eq_1 @Am.Xo.eq_2)))))) (Qm7 (Qm7 (Qm7 (Qm7 (Qm7 @Am.Xo.eq_3 @Am.Xo.eq_4) (Qm7 @Am.Xo.eq_5 @Am.Xo.eq_6)) (Qm7 (Qm7 @Am.Xo.eq_7 @Am.Fg.eq_1) (Qm7 @Am.Fg.eq_2 (Qm7 @Am.Fg.eq_3 @Am.Be.eq_1)))) (Qm7 (Qm7 (Qm7 @Am.Be.eq_2 @Am.Be.eq_3) (Qm7 @Am.Be.eq_4 @Am.QgO)) (Qm7 (Qm7 @Am.T7 @Am.T8) (Qm7 @Am.T9 (Qm7 @Am.Sv @Am.Aa))))) (Qm7 (Qm7 (Qm7 (Qm7 @Am.Sw @Am.Sx) (Qm7 @Am.Sy @Am.Sz)) (Qm7 (Qm7 @Am.SA @Am.Ab) (Qm7 @Am.Ad (Qm7 @Am.Ae @Am.Ah)))) (Qm7 (Qm7 (Qm7 @Am.SB @Am.Ai) (Qm7 @Am.SC (Qm7 @Am.PP @Am.Aj))) (Qm7 (Qm7 @Am.SD @Am.Fp) (Qm7 @Am.PQ (Qm7 @Am.SE @Qmq.{0,0})))))))))

def Ao:=(Qm7 (Qm7 (Qm7 @Am.Xp.eq_1 (Qm7 @Am.Xp.eq_2 @Am.Xp.eq_3)) (Qm7 (Qm7 @Am.Xn.eq_1 @Am.Xn.eq_2) (Qm7 @Am.Xn.eq_3 @Am.Xn.eq_4))) (Qm7 (Qm7 (Qm7 @Am.Qc.eq_1 @Am.Qc.eq_2) (Qm7 @Am.Qc.eq_3 @Am.put.eq_1)) (Qm7 (Qm7 @Am.put.eq_2 @Am.put.eq_3) (Qm7 @Am.AV.cells.eq_1 @Am.AV.cells.eq_2))))

def eE := Qm7 Qa Ao

def ZT:=(Qm7 (Qm7 (Qm7 (Qm7 (Qm7 (Qm7 (Qm7 @Am.HT (Qm7 @Am.HS @Am.TT)) (Qm7 @Am.WS (Qm7 @Am.JR @Am.TW))) (Qm7 (Qm7 @Am.TX (Qm7 @Am.P6 @Am.P7)) (Qm7 @Am.Hq (Qm7 @Am.LP @Am.LQ)))) (Qm7 (Qm7 (Qm7 @Am.TS (Qm7 @Am.TZ @Am.BB)) (Qm7 @Am.T0 (Qm7 @Am.T1 @Am.T2))) (Qm7 (Qm7 @Am.T3 (Qm7 @Am.T4 @Am.T5)) (Qm7 @Am.T6 (Qm7 @Am.YF @Am.TV))))) (Qm7 (Qm7 (Qm7 (Qm7 @Am.LR (Qm7 @Am.VB @Am.GS)) (Qm7 @Am.e_f (Qm7 @Am.WU @Am.JS))) (Qm7 (Qm7 @Am.WT (Qm7 @Am.WV @Am.Fq)) (Qm7 @Am.Yo (Qm7 @Am.CQ @Am.Vz)))) (Qm7 (Qm7 (Qm7 @Am.UU (Qm7 @Am.CR @Am.BC)) (Qm7 @Am.BD (Qm7 @Am.VA @Am.HU))) (Qm7 (Qm7 @Am.Yn (Qm7 @Am.CS @Am.CU)) (Qm7 (Qm7 @Am.KS @Am.Qx.eq_1) (Qm7 @Am.Qx.eq_2 @Am.Qx.eq_3)))))) (Qm7 (Qm7 (Qm7 (Qm7 (Qm7 @Am.Qx.eq_4 (Qm7 @Am.Qx.eq_5 @Am.Qx.eq_6)) (Qm7 @Am.Qx.eq_7 (Qm7 @Am.Qx.eq_8 @Am.Qx.eq_9))) (Qm7 (Qm7 @Am.Qx.eq_10 (Qm7 @Am.Qx.eq_11 @Am.Qx.eq_12)) (Qm7 @Am.Qx.eq_13 (Qm7 @Am.Qx.eq_14 @Am.Qx.eq_15)))) (Qm7 (Qm7 (Qm7 @Am.Qx.eq_16 (Qm7 @Am.Qx.eq_17 @Am.Qx.eq_18)) (Qm7 @Am.Qx.eq_19 (Qm7 @Am.Qx.eq_20 @Am.Qx.eq_21))) (Qm7 (Qm7 @Am.Qx.eq_22 (Qm7 @Am.Qx.eq_23 @Am.Qx.eq_24)) (Qm7 @Am.Qx.eq_25 (Qm7 @Am.Qx.eq_26 @Am.Qx.eq_27))))) (Qm7 (Qm7 (Qm7 (Qm7 @Am.Qx.eq_28 (Qm7 @Am.Qx.eq_29 @Am.Qx.eq_30)) (Qm7 @Am.Qx.eq_31 (Qm7 @Am.Qx.eq_32 @Am.Qx.eq_33))) (Qm7 (Qm7 @Am.Qx.eq_1 (Qm7 @Am.Qx.eq_1 @Am.Qx.eq_1)) (Qm7 @Am.Xc.eq_1 (Qm7 @Am.Xc.eq_2 @Am.Xc.eq_3)))) (Qm7 (Qm7 (Qm7 @Am.Xc.eq_4 (Qm7 @Am.Xc.eq_5 @Am.Xc.eq_6)) (Qm7 @Am.Xc.eq_7 (Qm7 @Am.Xc.eq_8 @Am.Xc.eq_9))) (Qm7 (Qm7 @Am.Xc.eq_10 (Qm7 @Am.Xc.eq_11 @Am.Xc.eq_12)) (Qm7 (Qm7 @Am.Xc.eq_13 @Am.Xc.eq_14) (Qm7 @Am.Xc.eq_15 @Am.Xc.eq_16))))))) (Qm7 (Qm7 (Qm7 (Qm7 (Qm7 (Qm7 @Am.Xc.eq_17 (Qm7 @Am.Xu.eq_1 @Am.Xu.eq_2)) (Qm7 @Am.Xu.eq_3 (Qm7 @Am.Xu.eq_4 @Am.Xu.eq_5))) (Qm7 (Qm7 @Am.Xu.eq_6 (Qm7 @Am.Xu.eq_7 @Am.Xu.eq_8)) (Qm7 @Am.Xu.eq_9 (Qm7 @Am.Xu.eq_10 @Am.Xu.eq_11)))) (Qm7 (Qm7 (Qm7 @Am.Xu.eq_12 (Qm7 @Am.Xu.eq_13 @Am.Xu.eq_14)) (Qm7 @Am.Xu.eq_15 (Qm7 @Am.Xu.eq_16 @Am.GH.eq_1))) (Qm7 (Qm7 @Am.GH.eq_2 (Qm7 @Am.GH.eq_3 @Am.GH.eq_4)) (Qm7 @cond_true.{0} (Qm7 @cond_true.{1} @cond_false.{0}))))) (Qm7 (Qm7 (Qm7 (Qm7 @cond_false.{1} (Qm7 @Qmf @and_true)) (Qm7 @Qmr.{0} (Qm7 @Qmw.{0} @List.getElem?_nil.{0}))) (Qm7 (Qm7 @QmA.{0} (Qm7 @Qm4.{0} @Am.St.enter.eq_1)) (Qm7 @Am.Cw.eq_1 (Qm7 @Am.AV.shL.eq_1 @Am.AV.shL.eq_2)))) (Qm7 (Qm7 (Qm7 @Am.AV.sh.eq_1 (Qm7 @Am.AV.sh.eq_2 @Am.AV.sh.eq_3)) (Qm7 @Am.AV.sh.eq_4 (Qm7 @Am.AV.sh.eq_5 @Am.AV.sh.eq_6))) (Qm7 (Qm7 @Am.AV.sh.eq_7 (Qm7 @Am.AV.sh.eq_8 @Am.AV.sh.eq_9)) (Qm7 (Qm7 @Am.WR.eq_1 @Am.WR.eq_2) (Qm7 @Am.RR.ev.eq_1 @Am.RR.ev.eq_2)))))) (Qm7 (Qm7 (Qm7 (Qm7 (Qm7 @Am.RR.evL.eq_1 (Qm7 @Am.RR.evL.eq_2 @Am.Yz.eq_1)) (Qm7 @Am.AV.still.eq_1 (Qm7 @Am.AV.still.eq_2 @Am.AV.still.eq_3))) (Qm7 (Qm7 @Am.AV.still.eq_4 (Qm7 @Am.AV.still.eq_5 @Am.AV.still.eq_6)) (Qm7 @Am.AV.still.eq_7 (Qm7 @Am.AV.still.eq_8 @Am.AV.stillL.eq_1)))) (Qm7 (Qm7 (Qm7 @Am.AV.stillL.eq_2 (Qm7 @Am.AV.un.eq_1 @Am.AV.un.eq_2)) (Qm7 @Am.AV.un.eq_3 (Qm7 @Am.AV.un.eq_4 @Am.AV.un.eq_5))) (Qm7 (Qm7 @Am.AV.un.eq_6 (Qm7 @Am.AV.un.eq_7 @Am.AV.un.eq_8)) (Qm7 (Qm7 @Am.AV.un.eq_9 @Am.AV.un.eq_10) (Qm7 @Am.AV.un.eq_11 @Am.AV.un.eq_12))))) (Qm7 (Qm7 (Qm7 (Qm7 @Am.AV.un.eq_13 (Qm7 @Am.AV.unL.eq_1 @Am.AV.unL.eq_2)) (Qm7 @Option.bind_some.{0,0} (Qm7 @QlO.{0,0} @if_true.{0}))) (Qm7 (Qm7 @if_true.{1} (Qm7 @if_false.{0} @if_false.{1})) (Qm7 @QlH (Qm7 @Go.IntKind.bits.eq_1 @Go.IntKind.bits.eq_2)))) (Qm7 (Qm7 (Qm7 @Go.IntKind.bits.eq_3 (Qm7 @Go.IntKind.bits.eq_4 @Go.IntKind.bits.eq_5)) (Qm7 @Go.IntKind.bits.eq_6 (Qm7 @Go.IntKind.bits.eq_7 @Go.IntKind.bits.eq_8))) (Qm7 (Qm7 @Qmk.{0} (Qm7 @QlD.{0} @Qm8)) (Qm7 (Qm7 @QmD @forall_const.{1}) (Qm7 @not_true_eq_false @not_false_eq_true))))))))

end Go.Proofs.YtmlohboeoeoamaaGreatDoor.Am

namespace Go.Proofs.YtmlohboeoeoamaaGreatDoor.Cg
open Go Am
structure TI where
 sz:Nat:=1
 st:Bool:=false
 k:Nat:=0
 y:Ty:=.other
 i:IntKind:=.i64
 e:Nat:=0
 n:Nat:=0
 b:Nat:=8
 z:List AV:=[]
 fs:List (Nat×Nat×Bool):=[]
 ys:List Ty:=[]
 x:Bool:=false

def tt:Nat→TI
 |3=>{ k:=1,y:=.num,z:=[.int .i64 0] }
 |4=>{ k:=3,y:=.bool,b:=1,z:=[.bool false] }
 |5=>{ k:=1,y:=.num,i:=.u8,b:=1,z:=[.int .u8 0] }
 |9=>{ k:=2,y:=.str,b:=16,z:=[.str []] }
 |21=>{ k:=1,y:=.num,i:=.i32,b:=4,z:=[.int .i32 0] }
 |22=>{ k:=6,e:=48,b:=24,z:=[.nils] }
 |23=>{ k:=6,e:=109,b:=24,z:=[.nils] }
 |25=>{ sz:=2,st:=true,k:=8,b:=48,z:=[.nils,.nils],fs:=[(0,1,false),(1,1,false)],ys:=[.other,.other] }
 |26=>{ k:=1,y:=.num,i:=.u64,z:=[.int .u64 0] }
 |27=>{ k:=6,e:=32,b:=24,z:=[.nils] }
 |28=>{ k:=6,e:=68,b:=24,z:=[.nils] }
 |29=>{ k:=6,e:=50,b:=24,z:=[.nils] }
 |30=>{ k:=6,e:=57,b:=24,z:=[.nils] }
 |32=>{ sz:=7,st:=true,k:=8,b:=128,z:=[.int .i64 0,.int .u64 0,.str [],.nils,.nils,.nils,.nils],fs:=[(0,1,false),(1,1,false),(2,1,false),(3,1,false),(4,1,false),(5,1,false),(6,1,false)],ys:=[.num,.num,.str,.other,.other,.other,.other] }
 |38=>{ k:=1,y:=.num,z:=[.int .i64 0] }
 |43=>{ sz:=8,st:=true,k:=8,b:=80,z:=[.int .i64 0,.str [],.str [],.int .i64 0,.int .i64 0,.int .i64 0,.int .i64 0,.int .i64 0],fs:=[(0,1,false),(1,1,false),(2,1,false),(3,1,false),(4,1,false),(5,1,false),(6,1,false),(7,1,false)],ys:=[.num,.str,.str,.num,.num,.num,.num,.num] }
 |46=>{ k:=6,e:=43,b:=24,z:=[.nils] }
 |48=>{ sz:=3,st:=true,k:=8,b:=48,z:=[.str [],.nils,.int .i64 0],fs:=[(0,1,false),(1,1,false),(2,1,false)],ys:=[.str,.other,.num] }
 |50=>{ sz:=8,st:=true,k:=8,b:=136,z:=[.int .i64 0,.int .i64 0,.int .u64 0,.str [],.nils,.nils,.nils,.nils],fs:=[(0,1,false),(1,7,true)],ys:=[.num,.other] }
 |57=>{ sz:=4,st:=true,k:=8,b:=40,z:=[.int .i64 0,.int .i64 0,.int .u64 0,.str []],fs:=[(0,1,false),(1,1,false),(2,1,false),(3,1,false)],ys:=[.num,.num,.num,.str] }
 |61=>{ z:=[.nilf] }
 |62=>{ k:=9,e:=61,z:=[.nilm] }
 |68=>{ sz:=14,st:=true,k:=8,b:=256,z:=[.int .i64 0,.int .u64 0,.str [],.nils,.nils,.nils,.nils,.int .i64 0,.int .u64 0,.str [],.nils,.nils,.nils,.nils],fs:=[(0,7,true),(7,7,true)],ys:=[.other,.other] }
 |72=>{ z:=[.nilf] }
 |79=>{ sz:=4,st:=true,k:=8,b:=32,z:=[.int .i64 0,.int .i64 0,.int .i64 0,.int .i64 0],fs:=[(0,1,false),(1,1,false),(2,1,false),(3,1,false)],ys:=[.num,.num,.num,.num] }
 |82=>{ sz:=4,st:=true,k:=8,b:=96,z:=[.nils,.nils,.nils,.nils],fs:=[(0,2,true),(2,2,true)],ys:=[.other,.other] }
 |86=>{ sz:=5,st:=true,k:=8,b:=104,z:=[.nils,.nils,.nils,.nils,.int .i64 0],fs:=[(0,2,true),(2,2,true),(4,1,false)],ys:=[.other,.other,.num] }
 |90=>{ sz:=2,st:=true,k:=8,b:=48,z:=[.nils,.nils],fs:=[(0,2,true)],ys:=[.other] }
 |104=>{ k:=6,e:=5,b:=24,z:=[.nils] }
 |105=>{ k:=6,e:=112,b:=24,z:=[.nils] }
 |106=>{ k:=6,e:=115,b:=24,z:=[.nils] }
 |107=>{ k:=6,e:=117,b:=24,z:=[.nils] }
 |109=>{ sz:=5,st:=true,k:=8,b:=96,z:=[.str [],.bool false,.nils,.nils,.nils],fs:=[(0,1,false),(1,1,false),(2,1,false),(3,1,false),(4,1,false)],ys:=[.str,.bool,.other,.other,.other] }
 |112=>{ sz:=3,st:=true,k:=8,b:=48,z:=[.str [],.int .i64 0,.nils],fs:=[(0,1,false),(1,1,false),(2,1,false)],ys:=[.str,.num,.other] }
 |115=>{ sz:=2,st:=true,k:=8,b:=16,z:=[.int .i64 0,.int .i64 0],fs:=[(0,1,false),(1,1,false)],ys:=[.num,.num] }
 |117=>{ sz:=8,st:=true,k:=8,b:=144,z:=[.str [],.int .i64 0,.int .u64 0,.str [],.nils,.nils,.nils,.nils],fs:=[(0,1,false),(1,7,true)],ys:=[.str,.other] }
 |120=>{ k:=6,e:=4,b:=24,z:=[.nils] }
 |125=>{ sz:=2,st:=true,k:=8,b:=48,z:=[.nils,.nils],fs:=[(0,2,true)],ys:=[.other] }
 |138=>{ st:=true,k:=8,z:=[.nilf],fs:=[(0,1,false)],ys:=[.other] }
 |150=>{ sz:=6,st:=true,k:=8,b:=56,z:=[.str [],.int .i64 0,.int .i64 0,.int .i64 0,.int .i64 0,.int .i64 0],fs:=[(0,1,false),(1,1,false),(2,1,false),(3,1,false),(4,1,false),(5,1,false)],ys:=[.str,.num,.num,.num,.num,.num] }
 |155=>{ sz:=8,st:=true,k:=8,b:=104,z:=[.nils,.nils,.str [],.int .i64 0,.int .i64 0,.int .i64 0,.int .i64 0,.int .i64 0],fs:=[(0,2,true),(2,6,true)],ys:=[.other,.other] }
 |165=>{ k:=9,e:=43,z:=[.nilm] }
 |199=>{ z:=[.nilf] }
 |201=>{ z:=[.nilf] }
 |213=>{ k:=4,y:=.ptr,e:=215,z:=[.nilp] }
 |215=>{ sz:=2,st:=true,k:=8,b:=32,z:=[.nilp,.nils],fs:=[(0,1,false),(1,1,false)],ys:=[.ptr,.other] }
 |221=>{ k:=6,e:=30,b:=24,z:=[.nils] }
 |235=>{ sz:=7,st:=true,k:=8,b:=128,z:=[.int .i64 0,.int .u64 0,.str [],.nils,.nils,.nils,.nils],fs:=[(0,1,false),(1,1,false),(2,1,false),(3,1,false),(4,1,false),(5,1,false),(6,1,false)],ys:=[.num,.num,.str,.other,.other,.other,.other] }
 |236=>{ k:=6,e:=32,b:=24,z:=[.nils] }
 |238=>{ k:=6,e:=68,b:=24,z:=[.nils] }
 |241=>{ sz:=2,st:=true,k:=8,b:=48,z:=[.nils,.nils],fs:=[(0,1,false),(1,1,false)],ys:=[.other,.other] }
 |245=>{ k:=1,y:=.num,i:=.u64,z:=[.int .u64 0] }
 |249=>{ k:=6,e:=9,b:=24,z:=[.nils] }
 |261=>{ k:=4,y:=.ptr,e:=5,z:=[.nilp] }
 |273=>{ k:=6,e:=3,b:=24,z:=[.nils] }
 |284=>{ sz:=2,st:=true,k:=8,b:=16,z:=[.int .i64 0,.int .i64 0],fs:=[(0,1,false),(1,1,false)],ys:=[.num,.num] }
 |286=>{ k:=9,e:=284,x:=true,z:=[.nilm] }
 |308=>{ k:=10,z:=[.nilp] }
 |321=>{ sz:=2,st:=true,k:=8,b:=16,z:=[.int .u64 0,.int .u64 0],fs:=[(0,1,false),(1,1,false)],ys:=[.num,.num] }
 |322=>{ sz:=18,st:=true,k:=7,e:=321,n:=9,b:=144,z:=[.int .u64 0,.int .u64 0,.int .u64 0,.int .u64 0,.int .u64 0,.int .u64 0,.int .u64 0,.int .u64 0,.int .u64 0,.int .u64 0,.int .u64 0,.int .u64 0,.int .u64 0,.int .u64 0,.int .u64 0,.int .u64 0,.int .u64 0,.int .u64 0] }
 |327=>{ sz:=9,st:=true,k:=7,e:=3,n:=9,b:=72,z:=[.int .i64 0,.int .i64 0,.int .i64 0,.int .i64 0,.int .i64 0,.int .i64 0,.int .i64 0,.int .i64 0,.int .i64 0] }
 |328=>{ sz:=27,st:=true,k:=7,e:=327,n:=3,b:=216,z:=[.int .i64 0,.int .i64 0,.int .i64 0,.int .i64 0,.int .i64 0,.int .i64 0,.int .i64 0,.int .i64 0,.int .i64 0,.int .i64 0,.int .i64 0,.int .i64 0,.int .i64 0,.int .i64 0,.int .i64 0,.int .i64 0,.int .i64 0,.int .i64 0,.int .i64 0,.int .i64 0,.int .i64 0,.int .i64 0,.int .i64 0,.int .i64 0,.int .i64 0,.int .i64 0,.int .i64 0] }
 |333=>{ sz:=2,st:=true,k:=8,b:=2,z:=[.int .u8 0,.int .u8 0],fs:=[(0,1,false),(1,1,false)],ys:=[.num,.num] }
 |335=>{ k:=1,y:=.num,i:=.u32,b:=4,z:=[.int .u32 0] }
 |_=>{}
abbrev gl1:List AV:=[.int .i64 1,.int .i64 2,.int .i64 2,.int .i64 1,.int .i64 1,.int .i64 6,.int .i64 7,.int .i64 7,.int .i64 1,.int .i64 1,.int .i64 2,.int .i64 2,.int .i64 2,.int .i64 2,.int .i64 6,.int .i64 7,.int .i64 7,.int .i64 2,.int .i64 1,.int .i64 2,.int .i64 2,.int .i64 2,.int .i64 2,.int .i64 6,.int .i64 7,.int .i64 8,.int .i64 9]
abbrev gl0:List AV:=[.int .u64 0,.int .u64 1,.int .u64 2147483648,.int .u64 2147483647,.int .u64 9223372036854775808,.int .u64 9223372036854775807,.int .u64 0,.int .u64 4294967295,.int .u64 0,.int .u64 18446744073709551615,.int .u64 0,.int .u64 0,.int .u64 0,.int .u64 0,.int .u64 0,.int .u64 0,.int .u64 0,.int .u64 2147483647]
def glo:Nat→List AV
 |1=>gl1
 |0=>gl0
 |_=>[]
end Go.Proofs.YtmlohboeoeoamaaGreatDoor.Cg

set_option linter.unusedVariables false
namespace Go.Proofs.YtmlohboeoeoamaaGreatDoor.Cg
open Go Am

inductive HV where
 |d
 |ro (r:RO)
 |lv (l s:Nat)
 |lr
 |lo
 |cc
 |cf
 |cg
 |ck (l s:Nat)
 |ac
 |bv
 |sl
 |sp
 |mp
 |sm

mutual
def av:Value→AV
 |.int k n=>.int k n
 |.bool b=>.bool b
 |.string ⟨⟨s⟩⟩=>.str s
 |.slice .. => .nils
 |.pointer _=>.nilp
 |.nilFunc=>.nilf
 |.nilIface=>.nili
 |.map _=>.nilm
 |.agg ⟨l⟩=>.agg (avs l)
 |.tuple ⟨l⟩=>.tup (avs l)
 |_=>.top
def avs:List Value→List AV
 | []=>[]
 |x :: l=>av x :: avs l
end
def ra:Operand→RA
 |.tmp n=>.t n
 |.const v=>.c (av v)
 |.func k=>.f k
 |.global k=>.g k (glo k)
def ras:List Operand→List RA
 | []=>[]
 |x :: l=>ra x :: ras l
def rp:Option Operand→Option RA
 |none=>none
 |some x=>some (ra x)
def sh (t:TI):Option Nat:=bif t.st then some t.sz else none
def fo:List (Nat×Nat×Bool)→Nat→Nat
 | [],_=>0
 |x :: _,0=>x.1
 |_ :: l,i+1=>fo l i
def fh:List (Nat×Nat×Bool)→Nat→Option Nat
 | [],_=>none
 |x :: _,0=>bif x.2.2 then some x.2.1 else none
 |_ :: l,i+1=>fh l i
def fz:List (Nat×Nat×Bool)→Nat→Nat
 | [],_=>0
 |x :: _,0=>x.2.1
 |_ :: l,i+1=>fz l i
def ps (fs:List (Nat×Nat×Bool)):List (Nat×Operand)→List (Nat×Nat×RA)
 | []=>[]
 |(i,x) :: l=>(fo fs i,fz fs i,ra x) :: ps fs l
def pa (n:Nat):List (Nat×Operand)→List (Nat×Nat×RA)
 | []=>[]
 |(i,x) :: l=>(i*n,n,ra x) :: pa n l
def nl:Operand→Bool
 |.const (.slice ..)=>true
 |_=>false
def ok (d t:Nat):Nat:=bif t==215 then 2000+t else d
def ng:BinOp→Bool
 |.neq=>true
 |_=>false
def lk {α:Type}(x:α):List (Nat×α)→Nat→α
 | [],_=>x
 |(i,y) :: l,k=>bif i==k then y else lk x l k

def lz (t:TI):Nat:=bif t.k==2 then 0 else bif t.k==9 then 2 else 1
def zo (t:TI):AV:=bif t.st then .agg t.z else t.z.headD .top
def bt (M k:Nat):Bool:=M >>> k % 2==1
def ca:Operand→List RA→RO
 |.func k,l=>bif bt 618061554871742838889489911622548574545275894221331432865707528913559243857920412926406816570072885664804992188416 k then .callF (.f k) l else .call (.f k) l
 |f,l=>.callF (ra f) l
def bn (b:BinOp)(t:TI)(x y:Operand):RO:=bif t.k==6&&nl y then .isnil (ng b) (ra x)else bif t.k==8 then .val (.eqs (ng b) t.ys (ra x) (ra y))else .val (.bin t.y b (ra x) (ra y))
def cv (d:Nat)(s t:TI)(x:Operand):RO:=bif t.k==1 then .val (.cvi t.i (ra x))else bif t.k==2 then .val (.b2s (ra x))else bif t.k==6 then .s2b d t.e (ra x)else bif t.k==10 then .val (.toU (ra x))else .val (.ofU t.e (tt t.e).sz (ra x))
def bi (d:Nat):Builtin→List Operand→TI→TI→RO
 |.len,[x],t,_=>.val (.len (lz t) (ra x))
 |.max,[x,y],_,_=>.val (.mnx true (ra x) (ra y))
 |.min,[x,y],_,_=>.val (.mnx false (ra x) (ra y))
 |.append,[x,y],t,u=>bif u.k==2 then .appS t.e (ra x) (ra y)else .app (tt t.e).sz (tt t.e).b t.e (ra x) (ra y)
 |.clear,[x],t,_=>.clr (tt t.e).sz (tt t.e).z (ra x)
 |.unsafeSliceData,[x],_,_=>.usd (ra x)
 |.unsafeString,[x,y],t,_=>.ustr t.e (ra x) (ra y)
 |_,_,_,_=>.bsl0 0 d
def t1:List Nat→TI
 | []=>{}
 |t :: _=>tt t
def t2:List Nat→TI
 |_ :: t :: _=>tt t
 |_=>{}
def o1 (d:Nat):Op→RO
 |.move x=>.val (.mov (ra x))
 |.assign x=>.val (.mov (ra x))
 |.pick a b c=>.val (.pick (ra a) (ra b) (ra c))
 |.alloc t=>.allocN (ok d t) (tt t).z
 |.box t x=>.boxN (ok d t) (ra x)
 |.build t ⟨l⟩=>.val (.build (tt t).z (bif (tt t).k==7 then pa (tt (tt t).e).sz l else ps (tt t).fs l))
 |.load t p=>.val (.load (sh (tt t)) (ra p))
 |.store t p x=>.store (tt t).sz (ra p) (ra x)
 |.nilCheck x=>.val (.nilck (ra x))
 |.binOp b t x y _=>bn b (tt t) x y
 |.unOp u _ x=>.val (.un u (ra x))
 |.convert s t x=>cv d (tt s) (tt t) x
 |.fieldAddr t x i=>.val (.faddr (fo (tt t).fs i) (ra x))
 |.field t x i=>.val (.fld (fo (tt t).fs i) (fh (tt t).fs i) (ra x))
 |.indexAddr t x i=>.val (.iaddr (tt (tt t).e).sz (bif (tt t).k==7 then some (tt t).n else none) (ra x) (ra i))
 |.index t x i=>bif (tt t).k==7 then .bsl0 0 0 else .val (.idx (ra x) (ra i))
 |.slice t x a b c=>.val (.slc (bif (tt t).k==2 then none else some (tt (tt t).e).sz) (ra x) (rp a) (rp b) (rp c))
 |.extract x i=>.val (.ext (ra x) i)
 |.makeFunc f ⟨a⟩ ⟨b⟩=>.val (.mkfn f (ras a) (ras b))
 |.makeSlice t x y=>.mk d (tt t).e (tt (tt t).e).sz (tt (tt t).e).b (tt (tt t).e).z (ra x) (ra y)
 |.buildSlice t n ⟨l⟩=>bif n==0 then .bsl0 d (tt (tt t).e).sz else .bsl (tt (tt t).e).sz n (tt (tt t).e).z (pa (tt (tt t).e).sz l)
 |.call ⟨.value f,⟨l⟩,_⟩=>ca f (ras l)
 |.call ⟨.builtin b,⟨l⟩,⟨t⟩⟩=>bi d b l (t1 t) (t2 t)
 |.range _ x=>.rngs d (ra x)
 |.next x _=>.nxts (ra x)
 |.makeMap _ _=>.mkm d
 |.mapUpdate t x i v=>.mput (tt t).x (ra x) (ra i) (ra v)
 |.insert t x i v=>.mput (tt t).x (ra x) (ra i) (ra v)
 |.makeInterface t x=>.val (.mki t (ra x))
 |.typeAssert x _ t b=>.val (.tas t b (zo (tt t)) (ra x))
 |.lookup t x i b=>.val (.mget (tt t).x b (zo (tt (tt t).e)) (ra x) (ra i))
 |_=>.bsl0 0 0
def lf:Op→(Operand→List RA→RO)→RO
 |.call ⟨.value f,⟨l⟩,_⟩,k=>k f (ras l)
 |_,_=>.bsl0 0 0
def lp:Op→(RA→RA→TI→RO)→RO
 |.call ⟨_,⟨[x,y]⟩,⟨t :: _⟩⟩,k=>k (ra x) (ra y) (tt t)
 |_,_=>.bsl0 0 0
def lb:Op→(Nat→List (Nat×Operand)→TI→RO)→RO
 |.buildSlice t n ⟨l⟩,k=>k n l (tt (tt t).e)
 |_,_=>.bsl0 0 0
def ld (f:Option Nat→RA→VO):Op→RO
 |.load t p=>.val (f (sh (tt t)) (ra p))
 |_=>.bsl0 0 0
def sv (l s:Nat):Op→RO
 |.load t p=>.val (.loadv l s (sh (tt t)) (ra p))
 |.store t p x=>.storev l s (tt t).sz (ra p) (ra x)
 |_=>.bsl0 0 0
def ls (k:TI→RA→Option RA→Option RA→Option RA→RO):Op→RO
 |.slice t x a b c=>k (tt (tt t).e) (ra x) (rp a) (rp b) (rp c)
 |_=>.bsl0 0 0
def lq:Option RA→RA
 |some x=>x
 |none=>.t 0
def lm:Op→RO
 |.lookup t x i b=>.val (.mgetp (tt t).x b (zo (tt (tt t).e)) (ra x) (ra i))
 |_=>.bsl0 0 0
def la:Op→RO
 |_=>.bsl0 0 0
def hd:List RA→RA
 |x :: _=>x
 | []=>.t 0
def op (d:Nat)(o:Op):HV→RO
 |.d=>o1 d o
 |.ro r=>r
 |.lv l s=>sv l s o
 |.lr=>ld .loadr o
 |.lo=>ld .loado o
 |.cc=>lf o fun f l=>.call (ra f) l
 |.cf=>lf o fun f l=>.callF (ra f) l
 |.cg=>lf o fun f l=>.callG (ra f) l
 |.ck i s=>lf o fun f l=>.callK i s (ra f) l
 |.sm=>lf o fun _ l=>.val (.same (hd l))
 |.ac=>lp o fun x y t=>.appc d (tt t.e).sz (tt t.e).b t.e x y
 |.bv=>lb o fun n l t=>.bslv d t.sz n t.z (pa t.sz l)
 |.sl=>ls (fun _ x _ b c=>.val (.slcl x (lq b) (lq c))) o
 |.sp=>ls (fun t x a b c=>.val (.slcp (some t.sz) x a b c)) o
 |.mp=>lm o

def dd:Option Nat→Nat
 |some d=>d
 |none=>0
def ds:List Oper→List Nat
 | []=>[]
 |o :: l=>dd o.dst :: ds l
def nt:List Nat→Nat→Nat
 | [],_=>0
 |x :: _,0=>x
 |_ :: l,i+1=>nt l i
def gd (l:List Nat):Option (Nat×Bool)→Option (Nat×Bool)
 |none=>none
 |some (j,w)=>some (nt l j,w)
def its (ks:List (Nat×HV))(l:List Nat):Nat→List Oper→List Am.Item
 |_,[]=>[]
 |k,o :: os=>⟨o.dst,op (dd o.dst) o.op (lk .d ks k),gd l o.guard⟩ :: its ks l (k+1) os

def wr:List GO→RC→RC
 | [],c=>c
 |g :: l,c=>.gho g (wr l c)
def dr:List Nat→RC→RC
 | [],c=>c
 |s :: l,c=>dr l (.gho (.drop s) c)
def s1 (d:Nat):Op→List Nat
 |.alloc t=>[ok d t]
 |.box t _=>[ok d t]
 |.range _ _=>[d]
 |.makeMap _ _=>[d]
 |_=>[]
def so:List Oper→List Nat
 | []=>[]
 |o :: l=>s1 (dd o.dst) o.op++so l
def me (k:Nat):List Nat→Bool
 | []=>false
 |i :: l=>bif i==k then true else me k l
def st (no:List Nat):Code→List Nat
 |.region n ⟨l⟩ _=>bif me n no then []else so l
 |.seq a b=>st no a++st no b
 |.cond _ a b=>st no a++st no b
 |.block _ a=>st no a
 |.loop a=>st no a
 |.scope a=>st no a
 |_=>[]
def pn (pe:List (Nat×List GO)):Code→List GO
 |.region n _ _=>lk [] pe n
 |.seq _ b=>pn pe b
 |.cond _ a b=>pn pe a++pn pe b
 |.block _ a=>pn pe a
 |.loop a=>pn pe a
 |.scope a=>pn pe a
 |_=>[]
def hg:Code→Bool
 |.goto _=>true
 |.seq a b=>bif hg a then true else hg b
 |.cond _ a b=>bif hg a then true else hg b
 |.block _ a=>hg a
 |.loop a=>hg a
 |.scope a=>hg a
 |_=>false
def lbl:Code→Option Nat
 |.seq a b=>match lbl a with
  |some l=>some l
  |none=>lbl b
 |.label l=>some l
 |_=>none
def fl:RC→Option RC
 |.seq a b=>match fl a with
  |some r=>some (.seq r b)
  |none=>fl b
 |.gho _ a=>fl a
 |.lab=>some .skip
 |_=>none
def sj (no:List Nat)(x:Code)(l:Nat):List Nat:=match findLabel x l with
 |some r=>st no r
 |none=>[]
def sk (no:List Nat)(x:Code)(c:RC)(l:Nat):RC:=match fl c with
 |some r=>.jump l c (dr (sj no x l) r)
 |none=>.no
def sc (no:List Nat)(x:Code)(c:RC):RC:=match lbl x with
 |some l=>bif hg x then sk no x c l else .scope c
 |none=>.scope c
def cd (no:List Nat)(ov:List (Nat×List (Nat×HV)))(pe be:List (Nat×List GO)):Code→RC
 |.skip=>.skip
 |.region n ⟨l⟩ b=>bif me n no then .no else wr (lk [] be n) (bif b then .draw (its (lk [] ov n) (ds l) 0 l)else .reg (its (lk [] ov n) (ds l) 0 l))
 |.seq a b=>.seq (cd no ov pe be a) (wr (pn pe a) (cd no ov pe be b))
 |.cond x a b=>.cond (ra x) (cd no ov pe be a) (cd no ov pe be b)
 |.block n a=>.block n (cd no ov pe be a)
 |.loop a=>.loop (dr (st no a) (cd no ov pe be a))
 |.exit n=>.exit n
 |.scope a=>sc no a (cd no ov pe be a)
 |.goto n=>.goto n
 |.label _=>.lab
 |.ret=>.ret
 |_=>.no
def bo:Option Code→Code
 |some c=>c
 |none=>.skip
def fn (f:Func)(no:List Nat:=[])(ov:List (Nat×List (Nat×HV)):=[])(pe be:List (Nat×List GO):=[]):RC:=cd no ov pe be (bo f.body)
def r1:List ResultVar→List RR
 | []=>[]
 |.tmp t :: l=>.tmp t :: r1 l
 |.cell t y :: l=>.cell t (sh (tt y)) :: r1 l
def rs (f:Func):List RR:=r1 f.results.toList

end Go.Proofs.YtmlohboeoeoamaaGreatDoor.Cg

set_option linter.defProp false
namespace Go.Proofs.YtmlohboeoeoamaaGreatDoor.Am
open Go
def eC:=(Qm7 (Qm7 (Qm7 (Qm7 (Qm7 (Qm7 (Qm7 (Qm7 @Cg.av.eq_1 @Cg.av.eq_2) (Qm7 @Cg.av.eq_3 @Cg.av.eq_4)) (Qm7 (Qm7 @Cg.av.eq_5 @Cg.av.eq_6) (Qm7 @Cg.av.eq_7 @Cg.av.eq_8))) (Qm7 (Qm7 (Qm7 @Cg.av.eq_9 @Cg.av.eq_10) (Qm7 @Cg.av.eq_11 @Cg.avs.eq_1)) (Qm7 (Qm7 @Cg.avs.eq_2 @Cg.ra.eq_1) (Qm7 @Cg.ra.eq_2 (Qm7 @Cg.ra.eq_3 @Cg.ra.eq_4))))) (Qm7 (Qm7 (Qm7 (Qm7 @Cg.ras.eq_1 @Cg.ras.eq_2) (Qm7 @Cg.rp.eq_1 @Cg.rp.eq_2)) (Qm7 (Qm7 @Cg.sh.eq_1 @Cg.fo.eq_1) (Qm7 @Cg.fo.eq_2 (Qm7 @Cg.fo.eq_3 @Cg.fh.eq_1)))) (Qm7 (Qm7 (Qm7 @Cg.fh.eq_2 @Cg.fh.eq_3) (Qm7 @Cg.fz.eq_1 @Cg.fz.eq_2)) (Qm7 (Qm7 @Cg.fz.eq_3 @Cg.ps.eq_1) (Qm7 @Cg.ps.eq_2 (Qm7 @Cg.pa.eq_1 @Cg.pa.eq_2)))))) (Qm7 (Qm7 (Qm7 (Qm7 (Qm7 @Cg.nl.eq_1 @Cg.nl.eq_2) (Qm7 @Cg.ok.eq_1 @Cg.ng.eq_1)) (Qm7 (Qm7 @Cg.ng.eq_2 @Cg.lk.eq_1) (Qm7 @Cg.lk.eq_2 @Cg.lz.eq_1))) (Qm7 (Qm7 (Qm7 @Cg.zo.eq_1 @Cg.bt.eq_1) (Qm7 @Cg.ca.eq_1 @Cg.ca.eq_2)) (Qm7 (Qm7 @Cg.bn.eq_1 @Cg.cv.eq_1) (Qm7 @Cg.bi.eq_1 (Qm7 @Cg.bi.eq_2 @Cg.bi.eq_3))))) (Qm7 (Qm7 (Qm7 (Qm7 @Cg.bi.eq_4 @Cg.bi.eq_5) (Qm7 @Cg.bi.eq_6 @Cg.bi.eq_7)) (Qm7 (Qm7 @Cg.bi.eq_8 @Cg.t1.eq_1) (Qm7 @Cg.t1.eq_2 (Qm7 @Cg.t2.eq_1 @Cg.t2.eq_2)))) (Qm7 (Qm7 (Qm7 @Cg.o1.eq_1 @Cg.o1.eq_2) (Qm7 @Cg.o1.eq_3 @Cg.o1.eq_4)) (Qm7 (Qm7 @Cg.o1.eq_5 @Cg.o1.eq_6) (Qm7 @Cg.o1.eq_7 (Qm7 @Cg.o1.eq_8 @Cg.o1.eq_9))))))) (Qm7 (Qm7 (Qm7 (Qm7 (Qm7 (Qm7 @Cg.o1.eq_10 @Cg.o1.eq_11) (Qm7 @Cg.o1.eq_12 @Cg.o1.eq_13)) (Qm7 (Qm7 @Cg.o1.eq_14 @Cg.o1.eq_15) (Qm7 @Cg.o1.eq_16 @Cg.o1.eq_17))) (Qm7 (Qm7 (Qm7 @Cg.o1.eq_18 @Cg.o1.eq_19) (Qm7 @Cg.o1.eq_20 @Cg.o1.eq_21)) (Qm7 (Qm7 @Cg.o1.eq_22 @Cg.o1.eq_23) (Qm7 @Cg.o1.eq_24 (Qm7 @Cg.o1.eq_25 @Cg.o1.eq_26))))) (Qm7 (Qm7 (Qm7 (Qm7 @Cg.o1.eq_27 @Cg.o1.eq_28) (Qm7 @Cg.o1.eq_29 @Cg.o1.eq_30)) (Qm7 (Qm7 @Cg.o1.eq_31 @Cg.o1.eq_32) (Qm7 @Cg.lf.eq_1 (Qm7 @Cg.lf.eq_2 @Cg.lp.eq_1)))) (Qm7 (Qm7 (Qm7 @Cg.lp.eq_2 @Cg.lb.eq_1) (Qm7 @Cg.lb.eq_2 @Cg.ld.eq_1)) (Qm7 (Qm7 @Cg.ld.eq_2 @Cg.sv.eq_1) (Qm7 @Cg.sv.eq_2 (Qm7 @Cg.sv.eq_3 @Cg.ls.eq_1)))))) (Qm7 (Qm7 (Qm7 (Qm7 (Qm7 @Cg.ls.eq_2 @Cg.lq.eq_1) (Qm7 @Cg.lq.eq_2 @Cg.lm.eq_1)) (Qm7 (Qm7 @Cg.lm.eq_2 @Cg.la.eq_1) (Qm7 @Cg.hd.eq_1 @Cg.hd.eq_2))) (Qm7 (Qm7 (Qm7 @Cg.op.eq_1 @Cg.op.eq_2) (Qm7 @Cg.op.eq_3 @Cg.op.eq_4)) (Qm7 (Qm7 @Cg.op.eq_5 @Cg.op.eq_6) (Qm7 @Cg.op.eq_7 (Qm7 @Cg.op.eq_8 @Cg.op.eq_9))))) (Qm7 (Qm7 (Qm7 (Qm7 @Cg.op.eq_10 @Cg.op.eq_11) (Qm7 @Cg.op.eq_12 @Cg.op.eq_13)) (Qm7 (Qm7 @Cg.op.eq_14 @Cg.op.eq_15) (Qm7 @Cg.dd.eq_1 (Qm7 @Cg.dd.eq_2 @Cg.ds.eq_1)))) (Qm7 (Qm7 (Qm7 @Cg.ds.eq_2 @Cg.nt.eq_1) (Qm7 @Cg.nt.eq_2 @Cg.nt.eq_3)) (Qm7 (Qm7 @Cg.gd.eq_1 @Cg.gd.eq_2) (Qm7 @Cg.its.eq_1 (Qm7 @Cg.its.eq_2 @Cg.wr.eq_1)))))))) (Qm7 (Qm7 (Qm7 (Qm7 (Qm7 (Qm7 (Qm7 @Cg.wr.eq_2 @Cg.dr.eq_1) (Qm7 @Cg.dr.eq_2 @Cg.s1.eq_1)) (Qm7 (Qm7 @Cg.s1.eq_2 @Cg.s1.eq_3) (Qm7 @Cg.s1.eq_4 @Cg.s1.eq_5))) (Qm7 (Qm7 (Qm7 @Cg.so.eq_1 @Cg.so.eq_2) (Qm7 @Cg.me.eq_1 @Cg.me.eq_2)) (Qm7 (Qm7 @Cg.st.eq_1 @Cg.st.eq_2) (Qm7 @Cg.st.eq_3 (Qm7 @Cg.st.eq_4 @Cg.st.eq_5))))) (Qm7 (Qm7 (Qm7 (Qm7 @Cg.st.eq_6 @Cg.st.eq_7) (Qm7 @Cg.pn.eq_1 @Cg.pn.eq_2)) (Qm7 (Qm7 @Cg.pn.eq_3 @Cg.pn.eq_4) (Qm7 @Cg.pn.eq_5 (Qm7 @Cg.pn.eq_6 @Cg.pn.eq_7)))) (Qm7 (Qm7 (Qm7 @Cg.hg.eq_1 @Cg.hg.eq_2) (Qm7 @Cg.hg.eq_3 @Cg.hg.eq_4)) (Qm7 (Qm7 @Cg.hg.eq_5 @Cg.hg.eq_6) (Qm7 @Cg.hg.eq_7 (Qm7 @Cg.lbl.eq_1 @Cg.lbl.eq_2)))))) (Qm7 (Qm7 (Qm7 (Qm7 (Qm7 @Cg.lbl.eq_3 @Cg.fl.eq_1) (Qm7 @Cg.fl.eq_2 @Cg.fl.eq_3)) (Qm7 (Qm7 @Cg.fl.eq_4 @Cg.sj.eq_1) (Qm7 @Cg.sk.eq_1 @Cg.sc.eq_1))) (Qm7 (Qm7 (Qm7 @Cg.cd.eq_1 @Cg.cd.eq_2) (Qm7 @Cg.cd.eq_3 @Cg.cd.eq_4)) (Qm7 (Qm7 @Cg.cd.eq_5 @Cg.cd.eq_6) (Qm7 @Cg.cd.eq_7 (Qm7 @Cg.cd.eq_8 @Cg.cd.eq_9))))) (Qm7 (Qm7 (Qm7 (Qm7 @Cg.cd.eq_10 @Cg.cd.eq_11) (Qm7 @Cg.cd.eq_12 @Cg.bo.eq_1)) (Qm7 (Qm7 @Cg.bo.eq_2 @Cg.fn.eq_1) (Qm7 @Cg.r1.eq_1 (Qm7 @Cg.r1.eq_2 @Cg.r1.eq_3)))) (Qm7 (Qm7 (Qm7 @Cg.rs.eq_1 @Cg.tt.eq_1) (Qm7 @Cg.tt.eq_2 @Cg.tt.eq_3)) (Qm7 (Qm7 @Cg.tt.eq_4 @Cg.tt.eq_5) (Qm7 @Cg.tt.eq_6 (Qm7 @Cg.tt.eq_7 @Cg.tt.eq_8))))))) (Qm7 (Qm7 (Qm7 (Qm7 (Qm7 (Qm7 @Cg.tt.eq_9 @Cg.tt.eq_10) (Qm7 @Cg.tt.eq_11 @Cg.tt.eq_12)) (Qm7 (Qm7 @Cg.tt.eq_13 @Cg.tt.eq_14) (Qm7 @Cg.tt.eq_15 @Cg.tt.eq_16))) (Qm7 (Qm7 (Qm7 @Cg.tt.eq_17 @Cg.tt.eq_18) (Qm7 @Cg.tt.eq_19 @Cg.tt.eq_20)) (Qm7 (Qm7 @Cg.tt.eq_21 @Cg.tt.eq_22) (Qm7 @Cg.tt.eq_23 (Qm7 @Cg.tt.eq_24 @Cg.tt.eq_25))))) (Qm7 (Qm7 (Qm7 (Qm7 @Cg.tt.eq_26 @Cg.tt.eq_27) (Qm7 @Cg.tt.eq_28 @Cg.tt.eq_29)) (Qm7 (Qm7 @Cg.tt.eq_30 @Cg.tt.eq_31) (Qm7 @Cg.tt.eq_32 (Qm7 @Cg.tt.eq_33 @Cg.tt.eq_34)))) (Qm7 (Qm7 (Qm7 @Cg.tt.eq_35 @Cg.tt.eq_36) (Qm7 @Cg.tt.eq_37 @Cg.tt.eq_38)) (Qm7 (Qm7 @Cg.tt.eq_39 @Cg.tt.eq_40) (Qm7 @Cg.tt.eq_41 (Qm7 @Cg.tt.eq_42 @Cg.tt.eq_43)))))) (Qm7 (Qm7 (Qm7 (Qm7 (Qm7 @Cg.tt.eq_44 @Cg.tt.eq_45) (Qm7 @Cg.tt.eq_46 @Cg.tt.eq_47)) (Qm7 (Qm7 @Cg.tt.eq_48 @Cg.tt.eq_49) (Qm7 @Cg.tt.eq_50 (Qm7 @Cg.tt.eq_51 @Cg.tt.eq_52)))) (Qm7 (Qm7 (Qm7 @Cg.tt.eq_53 @Cg.tt.eq_54) (Qm7 @Cg.tt.eq_55 @Cg.tt.eq_56)) (Qm7 (Qm7 @Cg.tt.eq_57 @Cg.tt.eq_58) (Qm7 @Cg.tt.eq_59 (Qm7 @Cg.tt.eq_60 @Cg.tt.eq_61))))) (Qm7 (Qm7 (Qm7 (Qm7 @Cg.tt.eq_62 @Cg.tt.eq_63) (Qm7 @Cg.tt.eq_64 @Cg.tt.eq_65)) (Qm7 (Qm7 @Cg.glo.eq_1 @Cg.glo.eq_2) (Qm7 @Cg.glo.eq_3 (Qm7 @cond_true.{0} @cond_true.{1})))) (Qm7 (Qm7 (Qm7 @cond_false.{0} @cond_false.{1}) (Qm7 @Qm8 @QmW)) (Qm7 (Qm7 @QmD @Qna) (Qm7 @QlL.{0} (Qm7 @QlK.{0} @List.headD_cons.{0})))))))))
end Go.Proofs.YtmlohboeoeoamaaGreatDoor.Am

namespace Go.Proofs.YtmlohboeoeoamaaGreatDoor.Rc
open Go Am Cg
def hs:Nat→List Nat×List (Nat×List (Nat×HV))×List (Nat×List GO)×List (Nat×List GO)
 |4=>([],[(13,[(1,.lv 0 5),(4,.lr),(6,.lv 0 15),(10,.lr),(16,.lv 0 19)]),(15,[(1,.lv 0 4),(4,.lv 0 15),(7,.lr)]),(19,[(1,.lv 0 5),(4,.lr),(6,.lv 0 13),(10,.lr),(16,.lv 0 22)]),(27,[(3,.lr),(7,.lr)])],[(9,[.vec 16 16 4,.vec 17 17 4])],[])
 |7=>([],[(2,[(2,.lv 0 1),(8,.lv 0 2)]),(4,[(2,.lv 0 1),(8,.lv 0 4)])],[],[])
 |9=>([],[(12,[(1,.lv 0 5),(2,.lv 0 6),(5,.lv 0 5),(7,.lv 0 8),(9,.cc),(12,.lv 0 10)])],[],[])
 |10=>([],[(11,[(1,.lv 0 5),(5,.lr),(7,.lv 0 9)]),(12,[(0,.lv 0 3),(1,.lv 0 9),(3,.lv 0 5),(7,.lr),(10,.lv 0 11)])],[(3,[.vecc 7 5 1100 8])],[])
 |14=>([],[(3,[(1,.lv 0 3),(4,.lr),(6,.lv 0 5),(12,.lv 0 7)]),(14,[(0,.lv 0 11),(1,.lv 0 3),(2,.lv 0 7),(5,.lv 0 5),(9,.lr)]),(15,[(2,.lv 0 5)]),(17,[(2,.lv 0 5),(5,.lv 0 5)]),(22,[(1,.lv 0 3),(2,.lv 0 7),(4,.lv 0 5),(7,.lv 0 5),(10,.lr)])],[(6,[.vec 9 9 4])],[])
 |16=>([],[(9,[(2,.lv 0 1),(6,.lr),(9,.lv 0 1),(13,.lr)])],[],[])
 |17=>([],[(9,[(2,.lv 0 1),(6,.lr),(10,.lv 0 1),(14,.lr)])],[],[])
 |19=>([],[(4,[(0,.lv 0 6),(2,.lv 0 13),(3,.lv 0 5),(5,.lv 0 9),(13,.lv 0 15)])],[],[])
 |23=>([],[(3,[(0,.lv 0 3),(3,.lv 0 3),(6,.lr),(7,.lv 0 5)])],[],[])
 |24=>([],[(7,[(1,.lv 0 3),(4,.lr),(6,.lv 0 9),(12,.lv 0 10)])],[(1,[.vecc 7 5 1100 8])],[])
 |25=>([],[(6,[(8,.lr),(13,.lr)]),(8,[(3,.lr),(4,.bv),(7,.sp)])],[(1,[.lst 3]),(9,[.pub 3 42])],[])
 |26=>([],[(7,[(1,.lv 0 7),(2,.lv 0 3),(3,.lv 0 4),(5,.lv 0 5),(8,.lr),(13,.lv 0 7)]),(15,[(1,.lv 0 9),(6,.lr),(8,.lv 0 3),(9,.lv 0 4),(14,.lr),(20,.lv 0 9)])],[(3,[.vecc 7 3 1100 7]),(10,[.vecc 9 4 1101 14])],[])
 |30=>([],[(13,[(2,.lv 0 5),(7,.lv 0 5)])],[],[])
 |35=>([],[(5,[(6,.lv 0 1),(11,.lr),(13,.lv 0 1),(17,.lr)]),(9,[(3,.lv 0 1),(7,.lr),(12,.lr),(14,.lv 0 1),(18,.lr),(22,.lr)]),(13,[(6,.lv 0 1),(11,.lr),(13,.lv 0 1),(17,.lr)]),(17,[(3,.lv 0 1),(7,.lr),(12,.lr),(14,.lv 0 1),(18,.lr),(22,.lr)])],[],[])
 |36=>([],[(8,[(3,.lv 0 1),(7,.lr),(9,.lv 0 1),(13,.lr)]),(16,[(6,.lr),(11,.lr)]),(27,[(6,.lr),(11,.lr)])],[],[])
 |37=>([],[(23,[(3,.lv 0 12),(8,.lv 0 12),(13,.lv 0 12),(15,.lv 0 12),(23,.lv 0 12),(25,.lv 0 8),(30,.lr)])],[],[])
 |38=>([],[(18,[(2,.lv 0 1),(4,.lv 0 1),(8,.lr),(11,.lr)])],[],[])
 |40=>([],[(5,[(1,.lv 0 4),(4,.lr),(6,.lv 0 5),(9,.lr),(10,.lv 0 8),(11,.lv 0 9)])],[],[])
 |44=>([],[(4,[(2,.lv 0 4),(5,.lr),(7,.lv 0 10),(13,.lv 0 11)]),(11,[(2,.lv 0 4),(5,.lr),(7,.lv 0 14),(13,.lv 0 15)]),(12,[(2,.lv 0 4),(5,.lr),(7,.lv 0 14),(13,.lv 0 17)])],[],[])
 |52=>([],[(7,[(7,.lv 0 6),(13,.lr)])],[(3,[.vec 4 4 8])],[])
 |54=>([],[(7,[(1,.lv 0 7),(2,.lv 0 3),(3,.lv 0 4),(4,.lv 0 9),(9,.lv 0 7)]),(15,[(1,.lv 0 10),(3,.lv 0 12),(5,.lv 0 3),(6,.lv 0 4),(8,.lv 0 12),(14,.lv 0 10)])],[(3,[.vecc 7 3 1100 7]),(11,[.vecc 10 4 1101 14])],[])
 |60=>([],[(9,[(6,.lr),(11,.lr)]),(12,[(9,.lr),(14,.lr)]),(14,[(3,.lr),(4,.bv),(7,.sp)])],[(1,[.lst 3]),(15,[.pub 3 68])],[])
 |64=>([],[(3,[(0,.lv 0 3),(2,.lv 0 3),(4,.lv 0 5)])],[],[])
 |67=>([],[],[(1,[.vec 3 3 1])],[])
 |69=>([],[],[(1,[.vec 3 3 1])],[])
 |73=>([],[(12,[(7,.lr),(13,.lr)]),(14,[(7,.lr),(13,.lr)])],[],[])
 |77=>([],[(13,[(1,.cg)]),(16,[(3,.cg)])],[],[])
 |80=>([],[(7,[(7,.lr),(9,.lv 0 11)])],[(2,[.vec 8 8 4])],[])
 |83=>([],[],[(5,[.vec 3 3 7])],[])
 |85=>([],[(4,[(2,.lv 0 5),(5,.lr),(7,.lv 0 13),(13,.lv 0 14)]),(5,[(2,.lv 0 5),(5,.lr),(7,.lv 0 13),(13,.lv 0 16)]),(10,[(1,.lv 0 8),(3,.lv 0 5),(5,.lv 0 13),(10,.lv 0 8)]),(8,[(1,.lv 0 5),(4,.lv 0 5),(8,.lr),(9,.lv 0 8),(11,.lv 0 5),(13,.lv 0 19),(20,.lv 0 8)])],[],[])
 |88=>([],[(1,[(2,.lv 0 4),(5,.lr),(8,.lv 0 4),(11,.lr),(14,.lv 0 10),(15,.lv 0 11)])],[],[])
 |90=>([],[(1,[(0,.lv 0 6),(5,.lr),(11,.lv 0 11)]),(13,[(0,.lv 0 5),(1,.lv 0 11),(6,.lr)])],[],[])
 |101=>([],[(7,[(7,.lv 0 6),(13,.lr)])],[(3,[.vec 4 4 14])],[])
 |110=>([],[(6,[(2,.lv 0 5),(7,.lv 0 5),(11,.lr),(13,.lv 0 5),(17,.lr)]),(9,[(1,.lv 0 3),(4,.lv 0 5),(7,.lr)])],[(1,[.vec 7 7 4])],[])
 |126=>([],[(7,[(0,.lv 0 3),(2,.lv 0 3),(5,.lr),(8,.lv 0 5),(10,.ck 0 3)])],[],[])
 |129=>([],[(12,[(5,.cg)])],[],[])
 |131=>([],[],[(5,[.vec 3 3 7])],[])
 |132=>([],[(1,[(2,.lv 0 3),(5,.lr),(7,.lv 0 5),(13,.lv 0 7)]),(4,[(0,.lv 0 7),(2,.lv 0 3),(3,.lv 0 7),(5,.lv 0 5),(6,.cc)])],[],[])
 |133=>([],[],[(1,[.vecc 2215 1 2005 1])],[])
 |135=>([7],[],[],[])
 |137=>([],[(11,[(2,.lv 0 6),(5,.lr),(6,.lv 0 10),(7,.lv 0 9),(8,.lv 0 17),(10,.lv 0 12)])],[],[])
 |144=>([],[(12,[(1,.lv 0 7),(4,.lv 0 7),(8,.lr),(9,.lv 0 15)])],[(0,[.vecc 7 5 1100 8])],[])
 |155=>([17],[],[],[])
 |160=>([],[(4,[(8,.lr),(13,.lr),(14,.cc)]),(6,[(9,.lr),(13,.lr)])],[],[])
 |161=>([],[(5,[(4,.lr),(8,.lr),(9,.cc)]),(11,[(9,.lr),(13,.lr)]),(17,[(4,.lr),(8,.lr),(9,.cc)]),(23,[(9,.lr),(13,.lr)]),(35,[(6,.lr),(10,.lr),(11,.cc)])],[],[])
 |163=>([],[(4,[(3,.lr),(7,.lr)])],[],[])
 |164=>([],[(4,[(4,.lr),(9,.lr)]),(7,[(4,.lr),(9,.lr)])],[],[])
 |165=>([],[(4,[(4,.lr),(9,.lr)]),(7,[(4,.lr),(9,.lr)])],[],[])
 |166=>([],[(4,[(3,.lr),(7,.lr)])],[],[])
 |167=>([],[(13,[(0,.lv 0 2),(2,.lv 0 3)]),(15,[(0,.lv 0 2),(2,.lv 0 3)])],[],[])
 |184=>([],[(4,[(5,.lr),(9,.lr)])],[],[])
 |186=>([],[(4,[(5,.lr),(9,.lr)])],[],[])
 |189=>([],[(4,[(5,.lr),(9,.lr)])],[],[])
 |192=>([],[(4,[(5,.lr),(9,.lr)])],[],[])
 |203=>([],[(4,[(1,.lv 0 4),(5,.lv 0 4),(10,.lv 0 4),(12,.lv 0 4),(20,.lv 0 4),(22,.lv 0 1),(27,.lr)])],[],[])
 |205=>([],[(7,[(2,.lv 0 6),(5,.lv 0 6)])],[],[])
 |217=>([],[(3,[(0,.lv 0 1),(4,.lv 0 4)]),(5,[(0,.lv 0 1),(3,.lv 0 4)]),(7,[(0,.lv 0 1),(3,.lv 0 4)]),(8,[(6,.lv 0 7),(9,.lv 0 4)])],[],[])
 |218=>([],[(4,[(4,.cg)]),(6,[(4,.cg)]),(10,[(4,.cg)]),(11,[(4,.cg)])],[],[])
 |219=>([],[(3,[(1,.lv 0 1),(3,.lv 0 2),(4,.lv 0 3)]),(6,[(1,.lv 0 1),(3,.lv 0 2),(4,.lv 0 3)]),(10,[(1,.lv 0 1),(3,.lv 0 2),(4,.lv 0 3)]),(11,[(0,.lv 0 9),(1,.lv 0 7),(2,.lv 0 2),(3,.lv 0 3)])],[],[])
 |220=>([],[(2,[(1,.lv 0 2),(4,.sl),(5,.lv 0 3),(7,.ac),(9,.lv 0 2)])],[],[])
 |227=>([],[],[(1,[.vec 3 3 1])],[])
 |228=>([],[(1,[(3,.lo),(8,.lo)])],[],[])
 |229=>([2,3,5],[],[],[])
 |230=>([],[],[(1,[.vecc 12 3 1100 7])],[])
 |232=>([],[],[(0,[.vecc 5 5 1100 8])],[])
 |237=>([],[(10,[(0,.lv 0 4),(1,.lv 0 5),(2,.lv 0 6),(4,.lv 0 7),(6,.lr),(12,.lv 0 10)])],[],[])
 |239=>([1],[],[(1,[.vecc 6 4 1100 14])],[])
 |240=>([],[(2,[(0,.lv 0 4),(3,.lv 0 4),(5,.lv 0 5),(7,.lr),(8,.lv 0 6)])],[],[])
 |244=>([],[(4,[(8,.lr),(13,.lr),(14,.cc)]),(6,[(9,.lr),(13,.lr)])],[],[])
 |245=>([],[(5,[(4,.lr),(8,.lr),(9,.cc)]),(11,[(9,.lr),(13,.lr)]),(17,[(4,.lr),(8,.lr),(9,.cc)]),(23,[(9,.lr),(13,.lr)]),(35,[(6,.lr),(10,.lr),(11,.cc)])],[],[])
 |248=>([],[(10,[(1,.lv 0 2),(4,.lv 0 3)])],[],[])
 |251=>([],[(1,[(1,.lv 0 2),(3,.lv 0 3),(6,.lv 0 2),(8,.lv 0 3)])],[],[])
 |254=>([],[(1,[(1,.lv 0 2),(3,.lv 0 3),(6,.lv 0 2),(8,.lv 0 3)])],[],[])
 |256=>([],[(1,[(1,.lv 0 2),(3,.lv 0 3),(6,.lv 0 2),(8,.lv 0 3),(11,.lv 0 2),(13,.lv 0 3),(16,.lv 0 2),(18,.lv 0 3)])],[],[])
 |271=>([],[(1,[(1,.lv 0 3),(2,.cc),(5,.cc)])],[],[])
 |272=>([],[(1,[(1,.lv 0 3),(2,.cc),(5,.cc)])],[],[])
 |276=>([],[(1,[(2,.lv 0 4),(3,.mp),(8,.lv 0 9)])],[],[])
 |279=>([],[(3,[(0,.lv 0 1),(3,.lv 0 3)])],[],[])
 |280=>([],[(1,[(1,.cg)]),(5,[(2,.cg)]),(9,[(2,.cg)]),(25,[(5,.cg)]),(27,[(3,.cg)]),(30,[(2,.cg)]),(32,[(1,.lv 0 12),(4,.sl),(5,.lv 0 17),(7,.ac)]),(33,[(0,.lv 0 5),(1,.lv 0 6),(2,.lv 0 7),(7,.lv 0 8)])],[(32,[.pub 25 145])],[])
 |282=>([],[(1,[(1,.cg)]),(4,[(2,.cg)]),(13,[(1,.cg)]),(18,[(4,.cg)]),(21,[(2,.cg)])],[],[])
 |284=>([],[(7,[(5,.cg)]),(10,[(0,.lv 0 5),(1,.lv 0 6),(2,.lv 0 7),(3,.lv 0 10),(4,.lv 0 14),(7,.lv 0 8)]),(13,[(4,.cg)])],[],[])
 |285=>([],[(1,[(1,.cg)]),(4,[(3,.cg)]),(7,[(3,.lo),(4,.lv 0 7),(5,.lv 0 11),(11,.lv 0 13)]),(16,[(1,.cg)]),(19,[(0,.lv 0 5),(1,.lv 0 6),(2,.lv 0 7),(3,.lv 0 14),(4,.lv 0 13),(7,.lv 0 8)])],[],[])
 |286=>([],[(3,[(1,.lv 0 2),(5,.lo),(14,.lv 0 2)])],[],[])
 |287=>([],[(5,[(1,.lv 0 9),(4,.lv 0 3),(5,.lv 0 4),(7,.lv 0 9)]),(6,[(2,.lv 0 4)])],[(1,[.vec 7 7 4])],[])
 |288=>([],[(4,[(2,.bv)])],[],[])
 |289=>([],[(5,[(2,.lv 0 4),(3,.lv 0 3),(4,.lv 0 4),(5,.lv 0 9)])],[(1,[.vec 7 7 4])],[])
 |290=>([],[(1,[(1,.lv 0 4),(2,.lv 0 3),(3,.lv 0 4),(4,.lv 0 5)])],[],[])
 |291=>([],[(1,[(3,.sm)])],[],[])
 |297=>([],[],[(1,[.vecc 10 3 1100 7])],[])
 |298=>([],[],[(1,[.vecc 10 4 1100 14])],[])
 |306=>([],[(4,[(8,.lr),(13,.lr),(14,.cc)]),(6,[(9,.lr),(13,.lr)])],[],[])
 |307=>([],[(5,[(4,.lr),(8,.lr),(9,.cc)]),(11,[(9,.lr),(13,.lr)]),(17,[(4,.lr),(8,.lr),(9,.cc)]),(23,[(9,.lr),(13,.lr)]),(35,[(6,.lr),(10,.lr),(11,.cc)])],[],[])
 |311=>([],[(3,[(13,.lr),(19,.lr)])],[],[])
 |329=>([],[(4,[(4,.cg)]),(5,[(2,.cg)]),(8,[(3,.lo),(4,.lv 0 4),(5,.lv 0 8),(9,.lv 0 6)])],[],[])
 |330=>([],[(1,[(4,.lo),(9,.lo),(11,.lv 0 3),(13,.lv 0 3)])],[],[])
 |331=>([],[],[(1,[.vecc 9 5 1100 8])],[])
 |332=>([],[(2,[(0,.lv 0 1),(2,.lv 0 3)]),(3,[(1,.lv 0 1),(3,.lv 0 1),(5,.lv 0 1),(8,.lv 0 3)])],[],[])
 |334=>([],[(1,[(1,.cg)]),(8,[(2,.cg)]),(11,[(3,.cg)]),(14,[(1,.lv 0 12),(5,.lo)])],[],[])
 |335=>([],[(2,[(1,.lv 0 2),(4,.sl),(5,.lv 0 3),(7,.ac),(9,.lv 0 4)])],[],[])
 |336=>([],[(6,[(1,.cg)])],[],[])
 |337=>([],[(3,[(1,.lv 0 5),(2,.lv 0 4)])],[],[])
 |338=>([],[(3,[(0,.lv 0 1),(3,.lv 0 3)])],[],[])
 |339=>([],[(3,[(0,.lv 0 2),(3,.lv 0 5)]),(8,[(0,.lv 0 2),(2,.lv 0 5)]),(11,[(0,.lv 0 2),(2,.lv 0 5)]),(14,[(1,.lv 0 8),(4,.lv 0 8),(6,.lv 0 8),(8,.lv 0 5)])],[],[])
 |350=>([],[(3,[(13,.lr),(19,.lr)])],[],[])
 |355=>([],[(4,[(3,.ro (.xb true 373 (.t 16) (.t 18)))])],[],[])
 |361=>([],[(3,[(1,.lv 0 3),(3,.lv 0 3),(5,.lv 0 2),(7,.lv 0 2)])],[],[])
 |362=>([],[(2,[(0,.lv 0 2),(2,.lv 0 5)]),(4,[(0,.lv 0 2),(2,.lv 0 5)]),(6,[(0,.lv 0 2),(2,.lv 0 5)]),(8,[(0,.lv 0 2),(2,.lv 0 5)]),(9,[(0,.lv 0 2),(4,.lv 0 2),(8,.lv 0 5)])],[],[])
 |369=>([],[(1,[(2,.lv 0 4),(4,.lv 0 5),(6,.lr),(9,.lv 0 4),(11,.lv 0 6),(13,.lr),(16,.lv 0 10),(17,.lv 0 11)])],[],[])
 |370=>([],[(3,[(13,.lr),(19,.lr)])],[],[])
 |380=>([5,10],[],[],[])
 |381=>([],[(1,[(2,.ro (.xb false 385 (.t 5) (.t 6)))])],[],[])
 |_=>([],[],[],[])
def rk (k:Nat)(f:Func):RC:=cd (hs k).1 (hs k).2.1 (hs k).2.2.1 (hs k).2.2.2 (bo f.body)
def KM:Nat:=226503817846736087787258446266994625086768474765441137800473764454661292179076137847366327998850105076363932976795632
noncomputable def cx (k:Nat):Bool:=match Tryz.prog.funcs[k]? with
 |some f=>f.body.isSome && !(f.name == "runtime.NumGoroutine")&&Zt Tryz.prog f.ntmps (rk k f) (f.body.getD .skip)&&Ke Tryz.prog f.results.toList (rs f)
 |none=>false
noncomputable def kq (a n:Nat):Bool:=(List.range' a n).all fun k=>!bt KM k||cx k
theorem kq0:kq 0 80=true:=by decide +kernel
theorem kq80:kq 80 80=true:=by decide +kernel
theorem kq160:kq 160 80=true:=by decide +kernel
theorem kq240:kq 240 80=true:=by decide +kernel
theorem kq320:kq 320 67=true:=by decide +kernel
theorem kc {k:Nat}{f:Func}(hf:Tryz.prog.funcs[k]? = some f)(hk:bt KM k=true)(hl:k<387):CK Tryz.prog k f.ntmps (rk k f) (rs f):=by
 have h:(!bt KM k||cx k)=true:=by
  by_cases h0:k<80
  ·exact QlB.1 kq0 k (List.mem_range'_1.2 ⟨by omega,by omega⟩)
  by_cases h80:k<160
  ·exact QlB.1 kq80 k (List.mem_range'_1.2 ⟨by omega,by omega⟩)
  by_cases h160:k<240
  ·exact QlB.1 kq160 k (List.mem_range'_1.2 ⟨by omega,by omega⟩)
  by_cases h240:k<320
  ·exact QlB.1 kq240 k (List.mem_range'_1.2 ⟨by omega,by omega⟩)
  by_cases h320:k<387
  ·exact QlB.1 kq320 k (List.mem_range'_1.2 ⟨by omega,by omega⟩)
  omega
 rw[hk]at h;unfold cx at h;rw[hf]at h;exact ck hf rfl h
section
variable {k:Nat}{f:Func}{args:List AV}{m:Qk}(hf:Tryz.prog.funcs[k]? = some f)
include hf
theorem wG {R:AV→Qk→Prop}(w:QU Tryz.prog (rk k f) (St.enter args m) (ZI (rs f) m.length R))(hk:bt KM k=true:=by rfl)(hl:Nat.blt k 387=true:=by rfl)(ha:Nat.ble args.length f.ntmps=true:=by rfl):Qe Tryz.prog k args m R:=(kc hf hk (QmT hl)).go (QmT ha) w
theorem wF {v:AV}(w:QU Tryz.prog (rk k f) (St.enter args []) (ZI (rs f) 0 fun x _=>x=v))(hk:bt KM k=true:=by rfl)(hl:Nat.blt k 387=true:=by rfl)(ha:Nat.ble args.length f.ntmps=true:=by rfl):Qh Tryz.prog k args v:=(kc hf hk (QmT hl)).fn (QmT ha) w
end
noncomputable def ct (k:Nat):Option (RC×List RR×Nat):=bif bt KM k&&Nat.blt k 387 then Tryz.prog.funcs[k]?.map fun f=>(rk k f,rs f,f.ntmps)else none
theorem Qfp {k:Nat}{c:RC}{r:List RR}{n:Nat}(h:ct k=some (c,r,n)):CK Tryz.prog k n c r:=by
 unfold ct at h;cases hb:(bt KM k&&Nat.blt k 387)with
 |false=>rw[hb]at h;cases h
 |true=>
  rw[hb,cond_true]at h;rw[QlM]at hb;obtain⟨f,hf,e⟩:=Qlp.1 h;cases e;exact kc hf hb.1 (QmT hb.2)
set_option linter.defProp false
def eK:=(Qm7 (Qm7 (Qm7 (Qm7 (Qm7 (Qm7 eC (Qm7 @rk.eq_1 @hs.eq_1)) (Qm7 (Qm7 @hs.eq_2 @hs.eq_3) (Qm7 @hs.eq_4 @hs.eq_5))) (Qm7 (Qm7 @hs.eq_6 (Qm7 @hs.eq_7 @hs.eq_8)) (Qm7 (Qm7 @hs.eq_9 @hs.eq_10) (Qm7 @hs.eq_11 @hs.eq_12)))) (Qm7 (Qm7 (Qm7 @hs.eq_13 (Qm7 @hs.eq_14 @hs.eq_15)) (Qm7 (Qm7 @hs.eq_16 @hs.eq_17) (Qm7 @hs.eq_18 @hs.eq_19))) (Qm7 (Qm7 @hs.eq_20 (Qm7 @hs.eq_21 @hs.eq_22)) (Qm7 (Qm7 @hs.eq_23 @hs.eq_24) (Qm7 @hs.eq_25 @hs.eq_26))))) (Qm7 (Qm7 (Qm7 (Qm7 @hs.eq_27 (Qm7 @hs.eq_28 @hs.eq_29)) (Qm7 (Qm7 @hs.eq_30 @hs.eq_31) (Qm7 @hs.eq_32 @hs.eq_33))) (Qm7 (Qm7 @hs.eq_34 (Qm7 @hs.eq_35 @hs.eq_36)) (Qm7 (Qm7 @hs.eq_37 @hs.eq_38) (Qm7 @hs.eq_39 @hs.eq_40)))) (Qm7 (Qm7 (Qm7 @hs.eq_41 (Qm7 @hs.eq_42 @hs.eq_43)) (Qm7 (Qm7 @hs.eq_44 @hs.eq_45) (Qm7 @hs.eq_46 @hs.eq_47))) (Qm7 (Qm7 (Qm7 @hs.eq_48 @hs.eq_49) (Qm7 @hs.eq_50 @hs.eq_51)) (Qm7 (Qm7 @hs.eq_52 @hs.eq_53) (Qm7 @hs.eq_54 @hs.eq_55)))))) (Qm7 (Qm7 (Qm7 (Qm7 (Qm7 @hs.eq_56 (Qm7 @hs.eq_57 @hs.eq_58)) (Qm7 (Qm7 @hs.eq_59 @hs.eq_60) (Qm7 @hs.eq_61 @hs.eq_62))) (Qm7 (Qm7 @hs.eq_63 (Qm7 @hs.eq_64 @hs.eq_65)) (Qm7 (Qm7 @hs.eq_66 @hs.eq_67) (Qm7 @hs.eq_68 @hs.eq_69)))) (Qm7 (Qm7 (Qm7 @hs.eq_70 (Qm7 @hs.eq_71 @hs.eq_72)) (Qm7 (Qm7 @hs.eq_73 @hs.eq_74) (Qm7 @hs.eq_75 @hs.eq_76))) (Qm7 (Qm7 @hs.eq_77 (Qm7 @hs.eq_78 @hs.eq_79)) (Qm7 (Qm7 @hs.eq_80 @hs.eq_81) (Qm7 @hs.eq_82 @hs.eq_83))))) (Qm7 (Qm7 (Qm7 (Qm7 @hs.eq_84 (Qm7 @hs.eq_85 @hs.eq_86)) (Qm7 (Qm7 @hs.eq_87 @hs.eq_88) (Qm7 @hs.eq_89 @hs.eq_90))) (Qm7 (Qm7 @hs.eq_91 (Qm7 @hs.eq_92 @hs.eq_93)) (Qm7 (Qm7 @hs.eq_94 @hs.eq_95) (Qm7 @hs.eq_96 @hs.eq_97)))) (Qm7 (Qm7 (Qm7 @hs.eq_98 (Qm7 @hs.eq_99 @hs.eq_100)) (Qm7 (Qm7 @hs.eq_101 @hs.eq_102) (Qm7 @hs.eq_103 @hs.eq_104))) (Qm7 (Qm7 (Qm7 @hs.eq_105 @hs.eq_106) (Qm7 @hs.eq_107 @hs.eq_108)) (Qm7 (Qm7 @hs.eq_109 @hs.eq_110) (Qm7 @hs.eq_111 @hs.eq_112)))))))
def J5:RC→List RC
 |.seq a b=>J5 a++J5 b
 |.cond _ a b=>J5 a++J5 b
 |.block _ a=>J5 a
 |.loop a=>a :: J5 a
 |.scope a=>J5 a
 |.gho _ a=>J5 a
 |.jump _ a b=>J5 a++J5 b
 |.skip=>[]
 |.reg _=>[]
 |.draw _=>[]
 |.exit _=>[]
 |.lab=>[]
 |.ret=>[]
 |.no=>[]
 |.goto _=>[]
def Ap:Nat→List RC→RC
 |0,x :: _=>x
 |i+1,_ :: l=>Ap i l
 |_,[]=>.no
def lp (k i:Nat)(f:Func):RC:=Ap i (J5 (rk k f))
def eL:=(Qm7 (Qm7 (Qm7 (Qm7 @lp.eq_1 @J5.eq_1) (Qm7 @J5.eq_2 @J5.eq_3)) (Qm7 (Qm7 @J5.eq_4 @J5.eq_5) (Qm7 @J5.eq_6 (Qm7 @J5.eq_7 @J5.eq_8)))) (Qm7 (Qm7 (Qm7 @J5.eq_9 @J5.eq_10) (Qm7 @J5.eq_11 (Qm7 @J5.eq_12 @J5.eq_13))) (Qm7 (Qm7 @J5.eq_14 @J5.eq_15) (Qm7 @Ap.eq_1 (Qm7 @Ap.eq_2 @Ap.eq_3)))))
end Go.Proofs.YtmlohboeoeoamaaGreatDoor.Rc

namespace Go.Proofs.YtmlohboeoeoamaaGreatDoor.Rc
open Go Am Cg
abbrev gl1:List AV:=[.int .i64 1,.int .i64 2,.int .i64 2,.int .i64 1,.int .i64 1,.int .i64 6,.int .i64 7,.int .i64 7,.int .i64 1,.int .i64 1,.int .i64 2,.int .i64 2,.int .i64 2,.int .i64 2,.int .i64 6,.int .i64 7,.int .i64 7,.int .i64 2,.int .i64 1,.int .i64 2,.int .i64 2,.int .i64 2,.int .i64 2,.int .i64 6,.int .i64 7,.int .i64 8,.int .i64 9]
abbrev gl0:List AV:=[.int .u64 0,.int .u64 1,.int .u64 2147483648,.int .u64 2147483647,.int .u64 9223372036854775808,.int .u64 9223372036854775807,.int .u64 0,.int .u64 4294967295,.int .u64 0,.int .u64 18446744073709551615,.int .u64 0,.int .u64 0,.int .u64 0,.int .u64 0,.int .u64 0,.int .u64 0,.int .u64 0,.int .u64 2147483647]
abbrev ja (a b:Nat):Am.Item:=⟨some a,.val (.mov (.t b)),none⟩
abbrev jb (a b c:Nat):Am.Item:=⟨some a,.val (.mov (.t b)),some (c,true)⟩
abbrev jc (a b c:Nat):Am.Item:=⟨some a,.val (.pick (.t b) (.t c) (.c (.bool false))),none⟩
abbrev jd (a:Nat)(b:Int):Am.Item:=⟨some a,.val (.mov (.c (.int .i64 b))),none⟩
abbrev je (a b c:Nat):Am.Item:=⟨some a,.val (.pick (.t b) (.c (.bool true)) (.t c)),none⟩
abbrev jf (a b c d:Nat):Am.Item:=⟨some a,.val (.faddr b (.t c)),some (d,true)⟩
abbrev jg (a b c d:Nat):Am.Item:=⟨some a,.val (.faddr b (.t c)),some (d,false)⟩
abbrev jh (a b c:Nat):Am.Item:=⟨some a,.val (.load none (.t b)),some (c,false)⟩
abbrev ji (a b c:Nat):Am.Item:=⟨some a,.val (.mov (.t b)),some (c,false)⟩
abbrev jj (a b:Nat)(c:Int)(d:Nat):Am.Item:=⟨some a,.val (.bin .num .add (.t b) (.c (.int .i64 c))),some (d,true)⟩
abbrev jk (a b c:Nat):Am.Item:=⟨some a,.val (.load none (.t b)),some (c,true)⟩
abbrev jl (a b c:Nat):Am.Item:=⟨some a,.val (.faddr b (.t c)),none⟩
abbrev jm (a b:Nat):Am.Item:=⟨some a,.val (.load none (.t b)),none⟩
abbrev jn (a:Nat):Am.Item:=⟨some a,.val (.mov (.c (.nils))),none⟩
abbrev jo (a b:Nat)(c:Int)(d:Nat):Am.Item:=⟨some a,.val (.bin .num .gtr (.t b) (.c (.int .i64 c))),some (d,false)⟩
abbrev jp (a b:Nat)(c:Int):Am.Item:=⟨some a,.val (.bin .num .add (.t b) (.c (.int .i64 c))),none⟩
abbrev jq (a b c d:Nat)(e:Int)(f:Nat):Am.Item:=⟨some a,.call (.f b) [(.t c),(.t d),(.c (.int .i64 e))],some (f,true)⟩
abbrev jr (a b c d:Nat):Am.Item:=⟨some a,.call (.f b) [(.t c),(.t d)],none⟩
abbrev js (a b:Nat)(c:Int):Am.Item:=⟨some a,.val (.bin .num .eql (.t b) (.c (.int .i64 c))),none⟩
abbrev jt (a b c:Nat):Am.Item:=⟨some a,.boxN b (.t c),none⟩
abbrev ju (a b c:Nat):Am.Item:=⟨some a,.val (.len b (.t c)),none⟩
abbrev jv (a:Nat):Am.Item:=⟨some a,.val (.mov (.c (.bool false))),none⟩
abbrev jQ (g:List Am.Item)(c:RC):RC:=.seq (.reg g) c
abbrev jX (a b:Nat):RC:=.cond (.t a) .skip (.exit b)
abbrev IL:=List Am.Item
abbrev CT (k n:Nat)(r:RC)(o:List RR):Prop:=CK Tryz.prog k n r o
def SK:IL:=[jn 2]
def SL:IL:=[ja 3 0,⟨some 4,.isnil false (.t 3),none⟩]
def SM:IL:=[jn 2]
def SN:IL:=[⟨some 5,.bsl0 5 4,none⟩,ja 6 0,⟨some 7,.app 4 40 57 (.t 5) (.t 6),none⟩,ja 2 7]
def LU:RC:=jQ SK (.seq (jQ SL (.cond (.t 4) (jQ SM (.gho (.vec 2 2 4) (.gho (.give 2 2 1 1000) (.ret)))) (.skip))) (jQ SN (.gho (.give 2 5 1 1000) (.ret))))
def Rh:List RR:=[.tmp 2]
theorem k51:CT 51 8 LU Rh:=ck Tryz.func51 Tryz.ntmps51 xH
def LV:IL:=[jt 3 3 0,jt 4 4 1,jt 5 5 2,jd 6 0]
def LW:IL:=[jl 11 1 5,jm 12 11,⟨some 13,.val (.bin .num .leq (.t 12) (.c (.int .i64 2))),none⟩,ja 7 13]
def LX:IL:=[⟨some 15,.val (.load (some 3) (.t 4)),none⟩,jl 16 0 5,jm 17 16,jr 18 53 15 17,ja 14 18,⟨some 19,.val (.ext (.t 14) 0),none⟩,⟨some 20,.val (.ext (.t 14) 1),none⟩,⟨some 8,.allocN 8 [.int .i64 0,.str [],.str [],.int .i64 0,.int .i64 0,.int .i64 0,.int .i64 0,.int .i64 0],none⟩,⟨none,.store 8 (.t 8) (.t 19),none⟩,ja 9 20]
def HY:IL:=[jl 21 5 8,jm 22 21,js 23 22 9,ja 24 23,jf 25 3 8 24,jk 26 25 24,⟨some 27,.val (.bin .num .neq (.t 26) (.c (.int .i64 5))),(some (24,true))⟩,jc 28 24 27,ja 29 28,jf 30 1 5 29,jk 31 30 29,⟨some 32,.val (.bin .num .eql (.t 31) (.c (.int .i64 0))),(some (29,true))⟩,jc 33 29 32,ja 34 33,jf 35 2 5 34,jk 36 35 34,⟨some 37,.val (.bin .num .leq (.t 36) (.c (.int .u64 2147483647))),(some (34,true))⟩,jc 38 34 37,ja 39 38,jf 40 0 3 39,⟨some 41,.val (.load (some 2) (.t 40)),(some (39,true))⟩,jf 42 6 8 39,jk 43 42 39,jf 44 2 5 39,jk 45 44 39,⟨some 46,.call (.f 148) [(.t 41),(.t 43),(.t 45)],(some (39,true))⟩,⟨some 47,.val (.un .not (.t 46)),(some (39,true))⟩,jc 48 39 47,ja 10 48]
def LY:IL:=[jl 50 0 5,jm 51 50,⟨some 52,.val (.bin .num .lss (.t 51) (.c (.int .i64 1))),none⟩,ja 53 52,jg 54 0 5 53,jh 55 54 53,jo 56 55 65535 53,je 57 53 56,ja 58 57,jg 59 1 5 58,jh 60 59 58,⟨some 61,.val (.bin .num .lss (.t 60) (.c (.int .i64 0))),(some (58,false))⟩,je 62 58 61,ja 63 62,jg 64 1 5 63,jh 65 64 63,jo 66 65 6 63,je 67 63 66,ja 49 67]
def BL:IL:=[jd 6 1]
def LZ:IL:=[ja 69 7,ja 70 69,jf 71 3 5 70,jk 72 71 70,⟨some 73,.val (.bin .str .neq (.t 72) (.c (.str []))),(some (70,true))⟩,jc 74 70 73,ja 75 74,ji 76 7 75,⟨some 77,.val (.un .not (.t 76)),(some (75,false))⟩,ji 78 77 75,jf 79 2 5 78,jk 80 79 78,⟨some 81,.val (.bin .num .neq (.t 80) (.c (.int .u64 0))),(some (78,true))⟩,⟨some 82,.val (.pick (.t 78) (.t 81) (.c (.bool false))),(some (75,false))⟩,je 83 75 82,ja 84 83,ji 85 9 84,ji 86 85 84,jb 87 10 86,⟨some 88,.val (.un .not (.t 87)),(some (86,true))⟩,⟨some 89,.val (.pick (.t 86) (.t 88) (.c (.bool false))),(some (84,false))⟩,je 90 84 89,ja 68 90]
def BM:IL:=[jd 6 1]
def SO:IL:=[jl 92 1 5,jm 93 92,js 94 93 3,ja 95 94,jf 96 3 5 95,jk 97 96 95,⟨some 98,.val (.len 0 (.t 97)),(some (95,true))⟩,⟨some 99,.val (.bin .num .gtr (.t 98) (.c (.int .i64 4096))),(some (95,true))⟩,jc 100 95 99,ja 101 100,jg 102 3 5 101,jh 103 102 101,⟨some 104,.val (.len 0 (.t 103)),(some (101,false))⟩,jo 105 104 65536 101,je 106 101 105,ja 91 106]
def SP:IL:=[jd 6 3]
def C1:IL:=[jd 6 0]
def r93:RC:=jQ LV (jQ LW (jQ LX (jQ HY (.seq (.block 0 (jQ LY (.cond (.t 49) (jQ BL (.ret)) (jQ LZ (.cond (.t 68) (jQ BM (.ret)) (jQ SO (.cond (.t 91) (jQ SP (.ret)) (.skip)))))))) (jQ C1 (.ret))))))
def o93:List RR:=[.tmp 6]
theorem k93:CT 93 107 r93 o93:=ck Tryz.func93 Tryz.ntmps93 xH
def Cb:IL:=[jn 2]
def Cc:IL:=[ja 3 0,⟨some 4,.isnil false (.t 3),none⟩]
def SQ:IL:=[jn 2]
def Cd:IL:=[⟨some 5,.bsl0 5 8,none⟩,ja 6 0,⟨some 7,.app 8 136 50 (.t 5) (.t 6),none⟩,ja 2 7]
def Aq:RC:=jQ Cb (.seq (jQ Cc (.cond (.t 4) (jQ SQ (.gho (.vec 2 2 8) (.gho (.give 2 2 1 1000) (.ret)))) (.skip))) (jQ Cd (.gho (.give 2 5 1 1000) (.ret))))
def C2:List RR:=[.tmp 2]
theorem L0:CT 95 8 Aq C2:=ck Tryz.func95 Tryz.ntmps95 xH
def C3:IL:=[jn 2]
def C4:IL:=[ja 3 0,⟨some 4,.isnil false (.t 3),none⟩]
def C5:IL:=[jn 2]
def C6:IL:=[⟨some 5,.bsl0 5 7,none⟩,ja 6 0,⟨some 7,.app 7 128 32 (.t 5) (.t 6),none⟩,ja 2 7]
def SR:RC:=jQ C3 (.seq (jQ C4 (.cond (.t 4) (jQ C5 (.gho (.vec 2 2 7) (.gho (.give 2 2 1 1000) (.ret)))) (.skip))) (jQ C6 (.gho (.give 2 5 1 1000) (.ret))))
def NQ:List RR:=[.tmp 2]
theorem Iu:CT 149 8 SR NQ:=ck Tryz.func149 Tryz.ntmps149 xH
def Ar:IL:=[jn 2]
def Au:IL:=[ja 3 0,⟨some 4,.isnil false (.t 3),none⟩]
def Av:IL:=[jn 2]
def Aw:IL:=[⟨some 5,.bsl0 5 14,none⟩,ja 6 0,⟨some 7,.app 14 256 68 (.t 5) (.t 6),none⟩,ja 2 7]
def Iv:RC:=jQ Ar (.seq (jQ Au (.cond (.t 4) (jQ Av (.gho (.vec 2 2 14) (.gho (.give 2 2 1 1000) (.ret)))) (.skip))) (jQ Aw (.gho (.give 2 5 1 1000) (.ret))))
def SS:List RR:=[.tmp 2]
theorem Qdh:CT 152 8 Iv SS:=ck Tryz.func152 Tryz.ntmps152 xH
def Ax:IL:=[jd 4 0]
def Ay:IL:=[ja 14 1,ju 15 0 14,ja 5 15]
def Az:IL:=[ja 17 5,js 18 17 0,ja 19 18,ji 20 1 19,ji 21 0 19,⟨some 22,.val (.bin .str .eql (.t 20) (.t 21)),(some (19,false))⟩,je 23 19 22,ja 16 23]
def AA:IL:=[jd 4 0]
def AB:IL:=[ja 25 5,js 26 25 1,ja 24 26]
def AC:IL:=[ja 27 0,ja 28 1,⟨some 29,.val (.idx (.t 28) (.c (.int .i64 0))),none⟩,jr 30 381 27 29,ja 4 30]
def AD:IL:=[ja 32 5,ja 33 0,ju 34 0 33,⟨some 35,.val (.bin .num .geq (.t 32) (.t 34)),none⟩,ja 31 35]
def AE:IL:=[jd 4 (-1)]
def AF:IL:=[ja 45 0,ja 46 1,jr 47 382 45 46,ja 4 47]
def Qbw:IL:=[ja 48 1,⟨some 49,.val (.idx (.t 48) (.c (.int .i64 0))),none⟩,ja 6 49]
def Qbx:IL:=[ja 50 1,⟨some 51,.val (.idx (.t 50) (.c (.int .i64 1))),none⟩,ja 7 51]
def Qby:IL:=[jd 8 0]
def Qbz:IL:=[ja 52 0,ju 53 0 52,ja 54 5,⟨some 55,.val (.bin .num .sub (.t 53) (.t 54)),none⟩,jp 56 55 1,ja 9 56]
def QbA:IL:=[jd 10 0]
def QbB:IL:=[ja 57 8,ja 58 9,⟨some 59,.val (.bin .num .lss (.t 57) (.t 58)),none⟩]
def QbC:IL:=[ja 60 0,ja 61 8,⟨some 62,.val (.idx (.t 60) (.t 61)),none⟩,ja 63 6,⟨some 64,.val (.bin .num .neq (.t 62) (.t 63)),none⟩]
def QbD:IL:=[ja 65 0,ja 66 8,jp 67 66 1,ja 68 9,⟨some 69,.val (.slc none (.t 65) (some (.t 67)) (some (.t 68)) none),none⟩,ja 70 6,jr 71 381 69 70,ja 11 71]
def QbE:IL:=[ja 72 11,⟨some 73,.val (.bin .num .lss (.t 72) (.c (.int .i64 0))),none⟩]
def QbF:IL:=[jd 4 (-1)]
def QbG:IL:=[ja 74 8,ja 75 11,jp 76 75 1,⟨some 77,.val (.bin .num .add (.t 74) (.t 76)),none⟩,ja 8 77]
def QbH:IL:=[ja 78 0,ja 79 8,jp 80 79 1,⟨some 81,.val (.idx (.t 78) (.t 80)),none⟩,ja 82 7,⟨some 83,.val (.bin .num .eql (.t 81) (.t 82)),none⟩,ja 84 83,jb 85 0 84,jb 86 8 84,jb 87 8 84,jb 88 5 84,⟨some 89,.val (.bin .num .add (.t 87) (.t 88)),(some (84,true))⟩,⟨some 90,.val (.slc none (.t 85) (some (.t 86)) (some (.t 89)) none),(some (84,true))⟩,jb 91 1 84,⟨some 92,.val (.bin .str .eql (.t 90) (.t 91)),(some (84,true))⟩,jc 93 84 92]
def QbI:IL:=[ja 94 8,ja 4 94]
def QbJ:IL:=[ja 95 8,jp 96 95 1,ja 8 96]
def QbK:IL:=[ja 97 10,jp 98 97 1,ja 10 98]
def QbL:IL:=[ja 108 0,ja 109 8,⟨some 110,.val (.slc none (.t 108) (some (.t 109)) none none),none⟩,ja 111 1,jr 112 382 110 111,ja 12 112]
def QbM:IL:=[ja 113 12,⟨some 114,.val (.bin .num .geq (.t 113) (.c (.int .i64 0))),none⟩]
def QbN:IL:=[ja 115 12,ja 116 8,⟨some 117,.val (.bin .num .add (.t 115) (.t 116)),none⟩,ja 4 117]
def QbO:IL:=[jd 4 (-1)]
def QbP:IL:=[ja 133 0,ja 134 8,⟨some 135,.val (.slc none (.t 133) (some (.t 134)) none none),none⟩,ja 136 1,jr 137 384 135 136,ja 13 137]
def QbQ:IL:=[ja 138 13,⟨some 139,.val (.bin .num .lss (.t 138) (.c (.int .i64 0))),none⟩]
def QbR:IL:=[jd 4 (-1)]
def QbS:IL:=[ja 140 8,ja 141 13,⟨some 142,.val (.bin .num .add (.t 140) (.t 141)),none⟩,ja 4 142]
def Qdi:RC:=.seq (jQ QbB (jX 59 1)) (.block 2 (.seq (jQ QbC (.cond (.t 64) (jQ QbD (.seq (jQ QbE (.cond (.t 73) (jQ QbF (.ret)) (.skip))) (.reg QbG))) (.skip))) (.seq (jQ QbH (.cond (.t 93) (jQ QbI (.ret)) (.skip))) (jQ QbJ (jQ QbK (.seq (.no) (.cond (.t 107) (jQ QbL (.seq (jQ QbM (.cond (.t 114) (jQ QbN (.ret)) (.skip))) (jQ QbO (.ret)))) (.seq (.no) (.cond (.t 132) (jQ QbP (.seq (jQ QbQ (.cond (.t 139) (jQ QbR (.ret)) (.skip))) (jQ QbS (.ret)))) (.skip))))))))))
def QbT:IL:=[jd 4 (-1)]
def SU:RC:=jQ Ax (jQ Ay (.seq (.block 0 (jQ Az (.cond (.t 16) (jQ AA (.ret)) (jQ AB (.cond (.t 24) (jQ AC (.ret)) (jQ AD (.cond (.t 31) (jQ AE (.ret)) (.seq (.no) (.cond (.t 36) (jQ AF (.ret)) (.skip)))))))))) (jQ Qbw (jQ Qbx (jQ Qby (jQ Qbz (jQ QbA (.seq (.block 1 (.loop Qdi)) (jQ QbT (.ret))))))))))
def Iw:List RR:=[.tmp 4]
theorem Qdj:CT 374 143 SU Iw:=ck Tryz.func374 Tryz.ntmps374 xH
def L1:IL:=[jt 2 2 0,jt 3 3 1,jv 4]
def L2:IL:=[jl 6 2 3,jm 7 6,⟨some 8,.call (.f 118) [(.t 7)],none⟩,⟨some 9,.val (.un .not (.t 8)),none⟩,ja 10 9,jg 11 2 3 10,jh 12 11 10,⟨some 13,.val (.len 0 (.t 12)),(some (10,false))⟩,jo 14 13 4096 10,je 15 10 14,ja 16 15,jg 17 3 3 16,jh 18 17 16,⟨some 19,.val (.bin .num .lss (.t 18) (.c (.int .i64 1))),(some (16,false))⟩,je 20 16 19,ja 21 20,jg 22 3 3 21,jh 23 22 21,jo 24 23 5 21,je 25 21 24,ja 26 25,jg 27 5 3 26,jh 28 27 26,⟨some 29,.val (.bin .num .lss (.t 28) (.c (.int .i64 1))),(some (26,false))⟩,je 30 26 29,ja 31 30,jg 32 5 3 31,jh 33 32 31,jo 34 33 10 31,je 35 31 34]
def L3:IL:=[jv 4]
def L4:IL:=[jl 36 4 3,jm 37 36,⟨some 38,.val (.bin .num .geq (.t 37) (.c (.int .i64 1))),none⟩,ja 39 38,jf 40 4 3 39,jk 41 40 39,⟨some 42,.val (.bin .num .leq (.t 41) (.c (.int .i64 5))),(some (39,true))⟩,jc 43 39 42,ja 44 43,jg 45 4 3 44,jh 46 45 44,⟨some 47,.val (.bin .num .eql (.t 46) (.c (.int .i64 7))),(some (44,false))⟩,je 48 44 47,ja 5 48]
def L5:IL:=[jl 49 3 3,jm 50 49,⟨some 51,.val (.bin .num .neq (.t 50) (.c (.int .i64 5))),none⟩]
def L6:IL:=[jl 52 4 3,jm 53 52,js 54 53 0,ja 5 54]
def SX:IL:=[ja 55 5,ja 56 55,⟨some 57,.val (.load (some 2) (.t 2)),(some (56,true))⟩,⟨some 58,.val (.load (some 8) (.t 3)),(some (56,true))⟩,⟨some 59,.call (.f 119) [(.t 57),(.t 58)],(some (56,true))⟩,jc 60 56 59,ja 61 60,jf 62 7 3 61,jk 63 62 61,⟨some 64,.val (.bin .num .eql (.t 63) (.c (.int .i64 (-1)))),(some (61,true))⟩,jb 65 64 61,jg 66 3 3 65,jh 67 66 65,⟨some 68,.val (.bin .num .eql (.t 67) (.c (.int .i64 2))),(some (65,false))⟩,⟨some 69,.val (.pick (.t 65) (.c (.bool true)) (.t 68)),(some (61,true))⟩,jc 70 61 69,ja 4 70]
def r75:RC:=jQ L1 (.seq (jQ L2 (.cond (.t 35) (jQ L3 (.ret)) (.skip))) (jQ L4 (.seq (jQ L5 (.cond (.t 51) (.reg L6) (.skip))) (jQ SX (.ret)))))
def o75:List RR:=[.tmp 4]
theorem k75:CT 75 71 r75 o75:=ck Tryz.func75 Tryz.ntmps75 xH
abbrev Qdk:IL:=[jv 2]
abbrev Qdl:IL:=[ja 4 0,ju 5 0 4,js 6 5 0,ja 7 6,ji 8 0 7,⟨some 9,.val (.len 0 (.t 8)),(some (7,false))⟩,jo 10 9 40 7,je 11 7 10,ja 12 11,ji 13 0 12,⟨some 14,.val (.idx (.t 13) (.c (.int .i64 0))),(some (12,false))⟩,⟨some 15,.call (.f 168) [(.t 14)],(some (12,false))⟩,⟨some 16,.val (.un .not (.t 15)),(some (12,false))⟩,ji 17 16 12,jb 18 0 17,⟨some 19,.val (.idx (.t 18) (.c (.int .i64 0))),(some (17,true))⟩,⟨some 20,.call (.f 169) [(.t 19)],(some (17,true))⟩,⟨some 21,.val (.un .not (.t 20)),(some (17,true))⟩,⟨some 22,.val (.pick (.t 17) (.t 21) (.c (.bool false))),(some (12,false))⟩,je 23 12 22]
abbrev Qdm:IL:=[jv 2]
abbrev Qdn:IL:=[jd 3 1]
abbrev Qdo:IL:=[ja 24 3,ja 25 0,ju 26 0 25,⟨some 27,.val (.bin .num .lss (.t 24) (.t 26)),none⟩]
abbrev Qdp:IL:=[ja 30 0,ja 31 3,⟨some 32,.val (.idx (.t 30) (.t 31)),none⟩,⟨some 33,.call (.f 168) [(.t 32)],none⟩,⟨some 34,.val (.un .not (.t 33)),none⟩,ja 35 34,jb 36 0 35,jb 37 3 35,⟨some 38,.val (.idx (.t 36) (.t 37)),(some (35,true))⟩,⟨some 39,.call (.f 169) [(.t 38)],(some (35,true))⟩,⟨some 40,.val (.un .not (.t 39)),(some (35,true))⟩,jc 41 35 40,ja 42 41,jb 43 0 42,jb 44 3 42,⟨some 45,.val (.idx (.t 43) (.t 44)),(some (42,true))⟩,⟨some 46,.val (.bin .num .neq (.t 45) (.c (.int .u8 95))),(some (42,true))⟩,jc 47 42 46,ja 48 47,jb 49 0 48,jb 50 3 48,⟨some 51,.val (.idx (.t 49) (.t 50)),(some (48,true))⟩,⟨some 52,.val (.bin .num .lss (.t 51) (.c (.int .u8 48))),(some (48,true))⟩,jb 53 52 48,ji 54 0 53,ji 55 3 53,⟨some 56,.val (.idx (.t 54) (.t 55)),(some (53,false))⟩,⟨some 57,.val (.bin .num .gtr (.t 56) (.c (.int .u8 57))),(some (53,false))⟩,⟨some 58,.val (.pick (.t 53) (.c (.bool true)) (.t 57)),(some (48,true))⟩,jc 59 48 58]
abbrev Qdq:IL:=[jv 2]
abbrev Qdr:IL:=[ja 28 3,jp 29 28 1,ja 3 29]
abbrev AG:RC:=.seq (jQ Qdo (jX 27 0)) (.seq (.block 1 (jQ Qdp (.cond (.t 59) (jQ Qdq (.ret)) (.skip)))) (.reg Qdr))
abbrev Qds:IL:=[⟨some 2,.val (.mov (.c (.bool true))),none⟩]
abbrev QgP:RC:=jQ Qdk (.seq (jQ Qdl (.cond (.t 23) (jQ Qdm (.ret)) (.skip))) (.seq (jQ Qdn (.block 0 (.loop AG))) (jQ Qds (.ret))))
abbrev QgQ:List RR:=[.tmp 2]
theorem QgR:CT 114 60 QgP QgQ:=ck Tryz.func114 Tryz.ntmps114 xH
def AH:IL:=[jd 4 0]
def AI:IL:=[ja 6 0,ja 7 1,⟨some 8,.val (.idx (.t 6) (.t 7)),none⟩,ja 5 8]
def AJ:IL:=[ja 10 5,⟨some 11,.val (.bin .num .lss (.t 10) (.c (.int .u8 128))),none⟩,ja 9 11]
def AK:IL:=[jd 4 1]
def C7:IL:=[ja 13 5,⟨some 14,.val (.bin .num .geq (.t 13) (.c (.int .u8 194))),none⟩,ja 15 14,jb 16 5 15,⟨some 17,.val (.bin .num .leq (.t 16) (.c (.int .u8 223))),(some (15,true))⟩,jc 18 15 17,ja 19 18,jb 20 0 19,jb 21 1 19,jj 22 21 1 19,jq 23 313 20 22 1 19,jc 24 19 23,ja 12 24]
def AL:IL:=[jd 4 2]
def C8:IL:=[ja 26 5,⟨some 27,.val (.bin .num .eql (.t 26) (.c (.int .u8 224))),none⟩,ja 28 27,jb 29 0 28,jb 30 1 28,jj 31 30 1 28,⟨some 32,.call (.f 314) [(.t 29),(.t 31),(.c (.int .u8 160)),(.c (.int .u8 191))],(some (28,true))⟩,jc 33 28 32,ja 34 33,jb 35 0 34,jb 36 1 34,jj 37 36 2 34,jq 38 313 35 37 1 34,jc 39 34 38,ja 25 39]
def AM:IL:=[jd 4 3]
def C9:IL:=[ja 41 5,⟨some 42,.val (.bin .num .eql (.t 41) (.c (.int .u8 237))),none⟩,ja 43 42,jb 44 0 43,jb 45 1 43,jj 46 45 1 43,⟨some 47,.call (.f 314) [(.t 44),(.t 46),(.c (.int .u8 128)),(.c (.int .u8 159))],(some (43,true))⟩,jc 48 43 47,ja 49 48,jb 50 0 49,jb 51 1 49,jj 52 51 2 49,jq 53 313 50 52 1 49,jc 54 49 53,ja 40 54]
def AN:IL:=[jd 4 3]
def NR:IL:=[ja 56 5,⟨some 57,.val (.bin .num .geq (.t 56) (.c (.int .u8 225))),none⟩,ja 58 57,jb 59 5 58,⟨some 60,.val (.bin .num .leq (.t 59) (.c (.int .u8 239))),(some (58,true))⟩,jc 61 58 60,ja 62 61,jb 63 5 62,⟨some 64,.val (.bin .num .neq (.t 63) (.c (.int .u8 237))),(some (62,true))⟩,jc 65 62 64,ja 66 65,jb 67 0 66,jb 68 1 66,jj 69 68 1 66,jq 70 313 67 69 2 66,jc 71 66 70,ja 55 71]
def Ri:IL:=[jd 4 3]
def NS:IL:=[ja 73 5,⟨some 74,.val (.bin .num .eql (.t 73) (.c (.int .u8 240))),none⟩,ja 75 74,jb 76 0 75,jb 77 1 75,jj 78 77 1 75,⟨some 79,.call (.f 314) [(.t 76),(.t 78),(.c (.int .u8 144)),(.c (.int .u8 191))],(some (75,true))⟩,jc 80 75 79,ja 81 80,jb 82 0 81,jb 83 1 81,jj 84 83 2 81,jq 85 313 82 84 2 81,jc 86 81 85,ja 72 86]
def Rj:IL:=[jd 4 4]
def NT:IL:=[ja 88 5,⟨some 89,.val (.bin .num .geq (.t 88) (.c (.int .u8 241))),none⟩,ja 90 89,jb 91 5 90,⟨some 92,.val (.bin .num .leq (.t 91) (.c (.int .u8 243))),(some (90,true))⟩,jc 93 90 92,ja 94 93,jb 95 0 94,jb 96 1 94,jj 97 96 1 94,jq 98 313 95 97 3 94,jc 99 94 98,ja 87 99]
def Rk:IL:=[jd 4 4]
def NU:IL:=[ja 101 5,⟨some 102,.val (.bin .num .eql (.t 101) (.c (.int .u8 244))),none⟩,ja 103 102,jb 104 0 103,jb 105 1 103,jj 106 105 1 103,⟨some 107,.call (.f 314) [(.t 104),(.t 106),(.c (.int .u8 128)),(.c (.int .u8 143))],(some (103,true))⟩,jc 108 103 107,ja 109 108,jb 110 0 109,jb 111 1 109,jj 112 111 2 109,jq 113 313 110 112 2 109,jc 114 109 113,ja 100 114]
def Rl:IL:=[jd 4 4]
def Rm:IL:=[jd 4 0]
def Qdt:RC:=jQ AH (jQ AI (.seq (.block 0 (jQ AJ (.cond (.t 9) (jQ AK (.ret)) (jQ C7 (.cond (.t 12) (jQ AL (.ret)) (jQ C8 (.cond (.t 25) (jQ AM (.ret)) (jQ C9 (.cond (.t 40) (jQ AN (.ret)) (jQ NR (.cond (.t 55) (jQ Ri (.ret)) (jQ NS (.cond (.t 72) (jQ Rj (.ret)) (jQ NT (.cond (.t 87) (jQ Rk (.ret)) (jQ NU (.cond (.t 100) (jQ Rl (.ret)) (.skip)))))))))))))))))) (jQ Rm (.ret))))
def Qdu:List RR:=[.tmp 4]
theorem QgS:CT 262 115 Qdt Qdu:=ck Tryz.func262 Tryz.ntmps262 xH
end Go.Proofs.YtmlohboeoeoamaaGreatDoor.Rc

namespace Go.Proofs.YtmlohboeoeoamaaGreatDoor.Bt
open Go

theorem ZM (n:Int):IntKind.u64.wrap n=n % 18446744073709551616:=qF
theorem AO (n:Int):IntKind.u8.wrap n=n % 256:=qF
theorem QA (n:Int):IntKind.i64.wrap n=(n+9223372036854775808) % 18446744073709551616-9223372036854775808:=IntKind.wrap_i64 n

theorem WH {n:Nat}(h:n<18446744073709551616):(BitVec.ofInt 64 (n:Int)).toNat=n:=by
 simp;omega

theorem Rn (a b:Nat)(ha:a<18446744073709551616)(hb:b<18446744073709551616):bits .xor .u64 (a:Int) (b:Int)=((a ^^^ b:Nat):Int):=by
 have hx:a ^^^ b<2 ^ 64:=Nat.xor_lt_two_pow xw xw;show IntKind.u64.wrap ((BitVec.ofInt 64 (a:Int) ^^^ BitVec.ofInt 64 (b:Int)).toNat:Int)=_;rw[BitVec.toNat_xor,WH ha,WH hb,ZM];omega
theorem Hs (a b:Nat)(ha:a<18446744073709551616)(hb:b<18446744073709551616):bits .and .u64 (a:Int) (b:Int)=((a &&& b:Nat):Int):=by
 have hx:a &&& b<2 ^ 64:=Nat.and_lt_two_pow _ xw;show IntKind.u64.wrap ((BitVec.ofInt 64 (a:Int) &&& BitVec.ofInt 64 (b:Int)).toNat:Int)=_;rw[BitVec.toNat_and,WH ha,WH hb,ZM];omega
theorem AP (a b:Nat)(ha:a<18446744073709551616)(hb:b<18446744073709551616):bits .or .u64 (a:Int) (b:Int)=((a ||| b:Nat):Int):=by
 have hx:a ||| b<2 ^ 64:=Nat.or_lt_two_pow xw xw
 show IntKind.u64.wrap ((BitVec.ofInt 64 (a:Int) ||| BitVec.ofInt 64 (b:Int)).toNat:Int)=_;rw[BitVec.toNat_or,WH ha,WH hb,ZM];omega

theorem GX (a:Nat)(ha:a<18446744073709551616):a ^^^ 18446744073709551615=18446744073709551615-a:=by
 have h1:(BitVec.ofNat 64 a ^^^ BitVec.allOnes 64).toNat=a ^^^ 18446744073709551615:=by
  rw[BitVec.toNat_xor,BitVec.toNat_ofNat,BitVec.toNat_allOnes,Nat.mod_eq_of_lt xw]
 rw[←h1,BitVec.xor_allOnes,BitVec.toNat_not,BitVec.toNat_ofNat,Nat.mod_eq_of_lt xw]

theorem Ma (a:Int)(h0:0≤a)(h1:a<18446744073709551616):bits .xor .u64 a 0=a:=by
 obtain⟨n,rfl⟩:=Qnb h0;have:=Rn n 0 xw xw;rw[Nat.xor_zero]at this;exact this
theorem Mb (a:Int)(h0:0≤a)(h1:a<18446744073709551616):bits .xor .u64 a 18446744073709551615=18446744073709551615-a:=by
 obtain⟨n,rfl⟩:=Qnb h0;have:=Rn n 18446744073709551615 xw xw;rw[GX n xw]at this;rw[show((18446744073709551615:Nat):Int)=18446744073709551615 from rfl]at this;rw[this];omega
theorem PU (a:Int)(h0:0≤a)(h1:a<18446744073709551616):bits .and .u64 a 1=a % 2:=by
 obtain⟨n,rfl⟩:=Qnb h0;have:=Hs n 1 xw xw;rw[Nat.and_one_is_mod]at this;rw[show((1:Nat):Int)=1 from rfl]at this;rw[this];omega
theorem Mc (a:Int)(h0 : -9223372036854775808≤a)(h1:a<9223372036854775808):bits .xor .i64 a 0=a:=by
 show IntKind.i64.wrap ((BitVec.ofInt 64 a ^^^ BitVec.ofInt 64 0).toNat:Int)=_;rw[BitVec.toNat_xor,show(BitVec.ofInt 64 0).toNat=0 from rfl,Nat.xor_zero,BitVec.toNat_ofInt,QA];omega
theorem Md (a:Int)(h0 : -9223372036854775808≤a)(h1:a<9223372036854775808):bits .xor .i64 a (-1) = -1-a:=by
 show IntKind.i64.wrap ((BitVec.ofInt 64 a ^^^ BitVec.ofInt 64 (-1)).toNat:Int)=_;rw[BitVec.toNat_xor,show(BitVec.ofInt 64 (-1)).toNat=18446744073709551615 from rfl,BitVec.toNat_ofInt,GX _ xw,QA];omega

end Go.Proofs.YtmlohboeoeoamaaGreatDoor.Bt

set_option linter.unusedSimpArgs false
namespace Go.Proofs.YtmlohboeoeoamaaGreatDoor.Va
open Go Am Rc Bt

def RB (v:AV):Prop:=∃b,v=.bool b
theorem RB.rf {v:AV}{l:List AV}(h:RB v):v.rf=true∧(AV.rfL l=true∨v.nl=true):=by
 obtain⟨b,rfl⟩:=h;exact⟨rfl,.inr rfl⟩

def isk (k:Int):Bool:=decide (k≥1)&&decide (k≤9)
def Zp (k:Int):Bool:=k==7||k==8
def wk (k:Int):Int:=if k=1∨k=4∨k=5∨k=9 then 0 else if k=2∨k=3 then 1 else if k=6 then 2 else if k=7∨k=8 then 3 else if k=10 then 4 else -1

theorem Iy (k:Int):Qh Tryz.prog 108 [.int .i64 k] (.bool (isk k)):=by
 refine wF Tryz.func108 ?_;simp only[eK,Tryz.f108,seval];exact y_

theorem NV (k:Int):Qh Tryz.prog 158 [.int .i64 k] (.bool (isk k)):=by
 refine wF Tryz.func158 ?_;simp only[eK,Tryz.f158,seval];exact y_

theorem NW (k:Int):Qh Tryz.prog 260 [.int .i64 k] (.bool (Zp k)):=by
 refine wF Tryz.func260 ?_;simp only[eK,Tryz.f260,seval];exact xp

theorem Qdv (k:Int):Qh Tryz.prog 257 [.int .i64 k] (.bool (Zp k)):=by
 refine wF Tryz.func257 ?_;simp only[eK,Tryz.f257,seval];exact xp

def oc (n:Int)(s a:List UInt8)(c k kd t u:Int):AV:=.agg [.int .i64 n,.str s,.str a,.int .i64 c,.int .i64 k,.int .i64 kd,.int .i64 t,.int .i64 u]

def pk (c kd:Int):Bool:=c==4&&((decide (kd≥1)&&decide (kd≤6))||kd==9)
def Me (c kd:Int):Int:=if c=5 then 6 else if pk c kd=true then 5 else wk kd

section
variable (n:Int)(s a:List UInt8)(c k kd t u:Int)

theorem Iz:Qh Tryz.prog 281 [oc n s a c k kd t u] (.bool (pk c kd)):=by
 refine wF Tryz.func281 ?_;simp only[eK,Tryz.f281,seval];exact zP

theorem y31:Qh Tryz.prog 31 [oc n s a c k kd t u] (.bool (pk c kd)):=by
 refine wF Tryz.func31 ?_;simp only[eK,Tryz.f31,seval];exact zP

theorem Qdw:Qh Tryz.prog 333 [oc n s a c k kd t u] (.int .i64 (Me c kd)):=by
 have hP:=Iz n s a c k kd t u;simp only[oc]at hP;refine wF Tryz.func333 ?_;simp only[eK,Tryz.f333,seval];simp only[oc,eE,seval];by_cases hc:c=5
 ·have b0:(c==5)=true:=v6
  simp only[b0,Me,Qlv hc,Qa,seval]
 ·have b0:(c==5)=false:=v6
  simp only[b0,Me,Qlu hc,eE,seval];refine aC hP ?_;cases pk c kd
  ·simp only[QlH,eE,seval]
   repeat' (first|(refine QV (fun h=>?_) (fun h=>?_)<;>simp only[h,Qa,seval])|(refine XH (fun h=>?_) (fun h=>?_)<;>simp only[h,Ql,eE,seval])|(refine XJ (fun h=>?_) (fun h=>?_)<;>simp only[h,Ql,eE,seval]))
   all_goals((try simp only[Qls,Qne,ne_eq]at *)<;>unfold wk<;>(repeat' split)<;>first|rfl|(exfalso;omega))
  ·simp only[Qa,seval]

end

theorem Qr (i:Nat)(n:Nat)(h:i<n)(hn:n≤maxLen):IntKind.i64.wrap ((i:Int)+1)=((i+1:Nat):Int):=by
 simp only[maxLen]at hn;rw[QA];omega

theorem QB {i n:Nat}(h:i<n):decide ((i:Int)<(n:Int))=true:=xD
theorem QI {i n:Nat}(h:¬i<n):decide ((i:Int)<(n:Int))=false:=xD
theorem Qp (i:Nat):(0≤(i:Int))=True:=xA

end Go.Proofs.YtmlohboeoeoamaaGreatDoor.Va

namespace Go.Proofs.YtmlohboeoeoamaaGreatDoor.Br
open Go Am Go.RowKit Go.WideShapes Go.ChangeShapes Go.ChangeAt Go.Joins Go.Deep Go.WideElems Go.Maps

section
variable {H:Type}{enc:TypeId×Value→H}{P:Program}{W:World}{base:Nat}{sp:Nat→Bool}{held:Bool}

end

theorem Fs {X α:Type}{f:X→List α}{sz:Nat}(hsz:0<sz)(hf:∀x,(f x).length=sz):∀(xs:List X) (j:Nat),(xs.flatMap f)[j]? = (xs[j / sz]?).bind fun x=>(f x)[j % sz]?
 | [],j=>xA
 |x :: xs,j=>by
  rw[QmU];by_cases hj:j<sz
  ·rw[QmQ (by rw[hf];exact hj),Nat.div_eq_of_lt hj,Nat.mod_eq_of_lt hj];rfl
  ·obtain⟨i,rfl⟩:∃i,j=sz+i:=⟨j-sz,xw⟩;rw[QmR (by rw[hf];omega),hf,Fs hsz hf xs,show sz+i-sz=i by omega,show(sz+i) / sz=i / sz+1 by rw[Nat.add_div_left _ hsz],Nat.add_mod_left];rfl

section
variable {H:Type}{enc:TypeId×Value→H}{P:Program}{W:World}

structure El (enc:TypeId×Value→H)(P:Program)(e:TypeId)(sz:Nat)(X:Type) where
 av:X→AV
 vals:X→List Value
 Kk:X→DataW H
 ok:X→Prop
 pos:0<sz
 len:∀x,(vals x).length=sz
 cells:∀x,(av x).cells.length=sz
 rfl':∀x,AV.rfL (av x).cells=true
 leaf:∀x,(av x).cells.all AV.leaf=true
 rep:∀(G:Gh) x,RepL G (av x).cells (vals x)
 opened:∀ {W:World} {n:Nat} {cs:List Value} {d:DataW H} {pl:List MemPlace},cs.length=sz→DataW.trod enc P W 0 (fun _=>true) true n e cs=some (d,pl)→∃x,ok x∧cs=vals x∧d=Kk x∧pl=[]
 shut:∀(W:World) (sp:Nat→Bool) x,ok x→∃n,DataW.trod enc P W 0 sp true n e (vals x)=some (Kk x,[])

end
end Go.Proofs.YtmlohboeoeoamaaGreatDoor.Br

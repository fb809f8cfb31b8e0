/- Parts of the proof, in order. -/
import Derived.WalkKit
import Derived.WalkLawsBesides
import Derived.Lib.Builder
import Derived.Laws.Externs
import Derived.Laws.StructEq
import Derived.Laws.IdiomStrings
import Derived.MapKept
import Derived.Deep.AppendSrc

set_option linter.defProp false
namespace Go.Proofs.YtmlohboeoeoamaaGreatDoor
theorem xw {p:Prop}(w:p:=by omega):p:=w
theorem xx {p:Prop}(w:p:=by rfl):p:=w
theorem xy {p:Prop}(w:p:=by decide):p:=w
theorem xz {p:Prop}(w:p:=by simp only[Qa,seval]):p:=w
theorem xA {p:Prop}(w:p:=by simp):p:=w
theorem xB {p:Prop}(w:p:=by simp only[QlW,Qmq,Qa,seval]<;>rfl):p:=w
theorem xC {p:Prop}(w:p:=by simp only[maxLen];omega):p:=w
theorem xD {p:Prop}(w:p:=by simp;omega):p:=w
theorem xE {p:Prop}(w:p:=by rw[QA];omega):p:=w
theorem xF {p:Prop}(w:p:=by simp only[QlW,Qmq,Qa,seval]):p:=w
theorem xG {p:Prop}(w:p:=by simp only[QlD,Qmk,maxLen];omega):p:=w
theorem xH {p:Prop}(w:p:=by decide +kernel):p:=w
theorem xI {p:Prop}(w:p:=by simp only[QlD,Qmk];omega):p:=w
theorem xJ {p:Prop}(w:p:=by simp only[Qa,seval]<;>rfl):p:=w
theorem xK {p:Prop}(w:p:=by rw[Qmi];simp only[Qlr,Qmm,Qns];omega):p:=w
theorem xL {p:Prop}(w:p:=by exact h1):p:=w
theorem xM {p:Prop}(w:p:=by exact h3):p:=w
theorem xN {p:Prop}(w:p:=by exact h5):p:=w
theorem xO {p:Prop}(w:p:=by exact h0):p:=w
theorem xP {p:Prop}(w:p:=by simp only[f0,Qa,seval]):p:=w
theorem xQ {p:Prop}(w:p:=by simpa using h):p:=w
theorem xR {p:Prop}(w:p:=by exact h4):p:=w
theorem xS {p:Prop}(w:p:=by simp<;>rfl):p:=w
theorem xT {p:Prop}(w:p:=by rw[hm 4 (by decide),m40]<;>rfl):p:=w
theorem xU {p:Prop}(w:p:=by exact h6):p:=w
theorem xV {p:Prop}(w:p:=by exact h8):p:=w
theorem xW {p:Prop}(w:p:=by rw[hf,h30]<;>rfl):p:=w
theorem xX {p:Prop}(w:p:=by simp only[QlD];omega):p:=w
theorem xY {p:Prop}(w:p:=by simp only[Qlr];omega):p:=w
theorem xZ {p:Prop}(w:p:=by exact h7):p:=w
theorem x_ {p:Prop}(w:p:=by simp only[Qns];omega):p:=w
theorem j0 {p:Prop}(w:p:=by rw[hm 3 (by decide),m30]<;>rfl):p:=w
theorem j3 {p:Prop}(w:p:=by simp only[f2,Qa,seval]):p:=w
theorem j4 {p:Prop}(w:p:=by simp[Gh.row]):p:=w
theorem j5 {p:Prop}(w:p:=by exact m3):p:=w
theorem j6 {p:Prop}(w:p:=by simp only[f1,Qa,seval]):p:=w
theorem j7 {p:Prop}(w:p:=by exact h9):p:=w
theorem j8 {p:Prop}(w:p:=by exact mR):p:=w
theorem j9 {p:Prop}(w:p:=by exact m5'):p:=w
theorem jw {p:Prop}(w:p:=by kernel_rfl):p:=w
theorem jx {p:Prop}(w:p:=by rw[hf,h40]<;>rfl):p:=w
theorem jy {p:Prop}(w:p:=by simp[Lit.wf,IntKind.min,IntKind.max,IntKind.bits,IntKind.signed];omega):p:=w
theorem jz {p:Prop}(w:p:=by simp only[zeroValue,typeInfo,Sem.run_bind,run_program,Result.andThen_ok,hi,hzv,Sem.run_pure]):p:=w
theorem jA {p:Prop}(w:p:=by simpa using h2):p:=w
theorem jB {p:Prop}(w:p:=by simp[Qt]):p:=w
theorem jC {p:Prop}(w:p:=by simpa using h1):p:=w
theorem jD {p:Prop}(w:p:=by simp[hk]):p:=w
theorem jE {p:Prop}(w:p:=by simp[maxLen];omega):p:=w
theorem jF {p:Prop}(w:p:=by rw[hm 5 (by decide),m50]<;>rfl):p:=w
theorem jG {p:Prop}(w:p:=by rw[hm 6 (by decide),m60]<;>rfl):p:=w
theorem jH {p:Prop}(w:p:=by rw[decide_eq_decide];omega):p:=w
theorem jI {p:Prop}(w:p:=by simp only[binOp,Op.stringOp,hs,hu];rfl):p:=w
theorem jJ {p:Prop}(w:p:=by simp only[Ql2,QlD,Qmk,hd1,hd2];omega):p:=w
theorem jK {p:Prop}(w:p:=by simp at hl ⊢;omega):p:=w
theorem jL {p:Prop}(w:p:=by rw[hlen];exact(by rfl)):p:=w
theorem jM {p:Prop}(w:p:=by rw[hf,h80]<;>rfl):p:=w
theorem jN {p:Prop}(w:p:=by rw[hf,h50]<;>rfl):p:=w
theorem jO {p:Prop}(w:p:=by exact m4):p:=w
theorem jP {p:Prop}(w:p:=by exact h12):p:=w
theorem jR {p:Prop}(w:p:=by rw[Qmj,Qml];omega):p:=w
theorem jS {p:Prop}(w:p:=by rw[Xj];omega):p:=w
theorem jT {p:Prop}(w:p:=by dsimp only;omega):p:=w
theorem jU {p:Prop}(w:p:=by rw[hf,h70]<;>rfl):p:=w
theorem jV {p:Prop}(w:p:=by rw[hf,h60]<;>rfl):p:=w
theorem jW {p:Prop}(w:p:=by rw[hm 1000 (by decide),mR0]<;>rfl):p:=w
theorem jY {p:Prop}(w:p:=by exact h11):p:=w
theorem jZ {p:Prop}(w:p:=by rw[hm 7 (by decide),m70]<;>rfl):p:=w
theorem j_ {p:Prop}(w:p:=by simp only[QlU];omega):p:=w
theorem k8 {p:Prop}(w:p:=by simp only[f4,Qa,seval]):p:=w
theorem ke {p:Prop}(w:p:=by simp[cc]):p:=w
theorem kg {p:Prop}(w:p:=by rw[hx];simp):p:=w
theorem ki {p:Prop}(w:p:=by rw[hf,h90]<;>rfl):p:=w
theorem kj {p:Prop}(w:p:=by rw[hf,h10]<;>rfl):p:=w
theorem kn {p:Prop}(w:p:=by simpa using e):p:=w
theorem ko {p:Prop}(w:p:=by exact m6'):p:=w
theorem kq {p:Prop}(w:p:=by cases h):p:=w
theorem kr {p:Prop}(w:p:=by rw[avs];first|rfl|simp only[QlW,Qmq,Nx,nn0,eE,seval]):p:=w
theorem ku {p:Prop}(w:p:=by rw[hf,h120]<;>rfl):p:=w
theorem kw {p:Prop}(w:p:=by simp only[f3,Qa,seval]):p:=w
theorem kz {p:Prop}(w:p:=by rw[Qmj];omega):p:=w
theorem kA {p:Prop}(w:p:=by rw[hmm 5 (by decide),m50]<;>rfl):p:=w
theorem kB {p:Prop}(w:p:=by exact m1'):p:=w
theorem kC {p:Prop}(w:p:=by simp[AV.isC]at h):p:=w
theorem kD {p:Prop}(w:p:=by simpa using hl):p:=w
theorem kE {p:Prop}(w:p:=by rw[Qml];omega):p:=w
theorem kF {p:Prop}(w:p:=by simp only[QlW,h3,Qa,seval]):p:=w
theorem kG {p:Prop}(w:p:=by rw[hf,h130]<;>rfl):p:=w
theorem kH {p:Prop}(w:p:=by rw[hf,h110]<;>rfl):p:=w
theorem kI {p:Prop}(w:p:=by exact m4'):p:=w
theorem kJ {p:Prop}(w:p:=by rw[hts];exact(by rfl)):p:=w
theorem kK {p:Prop}(w:p:=by rw[hK0];exact(by rfl)):p:=w
theorem kL {p:Prop}(w:p:=by exact h17):p:=w
theorem kM {p:Prop}(w:p:=by exact lp _):p:=w
theorem kN {p:Prop}(w:p:=by simp[V.kd,V.oth,oth,V.bits,V.text,V.list,V.pairs,V.slots,V.raws,Zp]):p:=w
theorem kO {p:Prop}(w:p:=by rw[Qmj]):p:=w
theorem kP {p:Prop}(w:p:=by rw[hm 1100 (by decide),mS0]<;>rfl):p:=w
theorem kQ {p:Prop}(w:p:=by cases e;exact .inr (Qlk _)):p:=w
theorem kR {p:Prop}(w:p:=by simp[h4]):p:=w
theorem kS {p:Prop}(w:p:=by exact h13):p:=w
theorem kT {p:Prop}(w:p:=by exact m6):p:=w
theorem kU {p:Prop}(w:p:=by exact h19):p:=w
theorem kW {p:Prop}(w:p:=by exact m8'):p:=w
theorem kX {p:Prop}(w:p:=by rw[htn.size];exact hr.top):p:=w
theorem kY {p:Prop}(w:p:=by simp[hy]):p:=w
theorem kZ {p:Prop}(w:p:=by cases e):p:=w
theorem k_ {p:Prop}(w:p:=by simp only[execOp,Sem.run_bind,eb,ey,hrun,Result.andThen_ok];rfl):p:=w
theorem q6 {p:Prop}(w:p:=by rw[hmm 8 (by decide),m80]<;>rfl):p:=w
theorem q7 {p:Prop}(w:p:=by simp[h5]):p:=w
theorem q8 {p:Prop}(w:p:=by rw[hb];rfl):p:=w
theorem q9 {p:Prop}(w:p:=by exact m5):p:=w
theorem qa {p:Prop}(w:p:=by exact h18):p:=w
theorem qc {p:Prop}(w:p:=by exact h16):p:=w
theorem qd {p:Prop}(w:p:=by rw[Qd w]):p:=w
theorem qe {p:Prop}(w:p:=by unfold XE at *;rw[←h,QnK (a:=b.1.bits),QnK (a:=b.1.text)]):p:=w
theorem qf {p:Prop}(w:p:=by have:=hv.ns;simp only[maxLen];omega):p:=w
theorem qg {p:Prop}(w:p:=by rw[Qne];omega):p:=w
theorem qh {p:Prop}(w:p:=by simpa using hB1):p:=w
theorem qi {p:Prop}(w:p:=by rw[hl];simp):p:=w
theorem qj {p:Prop}(w:p:=by rw[hf];simp):p:=w
theorem qk {p:Prop}(w:p:=by rw[Ql2];exact(by rfl)):p:=w
theorem ql {p:Prop}(w:p:=by rw[Qnf];exact(by rfl)):p:=w
theorem qm {p:Prop}(w:p:=by rw[QE (by omega)];exact hz):p:=w
theorem qn {p:Prop}(w:p:=by simp[h1]):p:=w
theorem qo {p:Prop}(w:p:=by rw[hf,h180]<;>rfl):p:=w
theorem qp {p:Prop}(w:p:=by exact h20):p:=w
theorem qq {p:Prop}(w:p:=by exact m7'):p:=w
theorem qr {p:Prop}(w:p:=by simpa using hlt):p:=w
theorem qs {p:Prop}(w:p:=by simp only[Qmy,Q9,QlV,QnB,Int.natCast_one,Qa,seval]):p:=w
theorem qt {p:Prop}(w:p:=by simpa using w2):p:=w
theorem qu {p:Prop}(w:p:=by simp only[QlW,Qmq,C.av,Qa,seval]):p:=w
theorem qw {p:Prop}(w:p:=by simp only[QlN,Qa,seval]):p:=w
theorem qx {p:Prop}(w:p:=by rw[hf,h00]<;>rfl):p:=w
theorem qy {p:Prop}(w:p:=by rw[QA];simp only[Qne,ne_eq];omega):p:=w
theorem qz {p:Prop}(w:p:=by simp[hx]):p:=w
theorem qA {p:Prop}(w:p:=by exact mS):p:=w
theorem qB {p:Prop}(w:p:=by rw[hlen2];exact hbl _ (by rw[hbo];exact Qlk _)):p:=w
theorem qC {p:Prop}(w:p:=by simpa using QlB.1 h x (by simp)):p:=w
theorem qD {p:Prop}(w:p:=by rw[hmm 6 (by decide),m60]<;>rfl):p:=w
theorem qE {p:Prop}(w:p:=by rw[Ql5];omega):p:=w
theorem qF {p:Prop}(w:p:=by simp[IntKind.wrap,IntKind.bits,IntKind.signed]):p:=w
theorem qG {p:Prop}(w:p:=by rw[hm 1 (by decide),m10]<;>rfl):p:=w
theorem qH {p:Prop}(w:p:=by simpa using ht):p:=w
theorem qI {p:Prop}(w:p:=by simp only[Ql2,QlD,Qmk,hd1,hd2,maxLen];omega):p:=w
theorem qJ {p:Prop}(w:p:=by rw[ZM];omega):p:=w
theorem qK {p:Prop}(w:p:=by rw[QY];omega):p:=w
theorem qL {p:Prop}(w:p:=by rw[hlk];simp):p:=w
theorem qM {p:Prop}(w:p:=by rw[hf,h170]<;>rfl):p:=w
theorem qN {p:Prop}(w:p:=by rw[hf,h190]<;>rfl):p:=w
theorem qO {p:Prop}(w:p:=by rw[hf,h200]<;>rfl):p:=w
theorem qP {p:Prop}(w:p:=by rw[hf,h100]<;>rfl):p:=w
theorem qQ {p:Prop}(w:p:=by unfold PT at *;omega):p:=w
theorem qR {p:Prop}(w:p:=by simp only[Qmj,maxLen];omega):p:=w
theorem qS {p:Prop}(w:p:=by simp only;omega):p:=w
theorem qT {p:Prop}(w:p:=by rw[ZN];rfl):p:=w
theorem qU {p:Prop}(w:p:=by exact m1):p:=w
theorem qV {p:Prop}(w:p:=by rw[VJ hi];simp only[h3,←QnB,Qlj,Qa,seval]):p:=w
theorem qW {p:Prop}(w:p:=by rw[hKs];exact(by exact m7)):p:=w
theorem qX {p:Prop}(w:p:=by rw[hKs];exact(by exact mS)):p:=w
theorem qY {p:Prop}(w:p:=by intro k y hk hy;rw[QmO hk]at hy;cases hy):p:=w
theorem qZ {p:Prop}(w:p:=by obtain⟨rfl,rfl⟩:=hx;exact h):p:=w
theorem q_ {p:Prop}(w:p:=by rw[←h0]<;>rfl):p:=w
theorem w8 {p:Prop}(w:p:=by simp only[eE,seval]<;>rfl):p:=w
theorem w9 {p:Prop}(w:p:=by exact h21):p:=w
theorem we {p:Prop}(w:p:=by simpa using hi):p:=w
theorem wg {p:Prop}(w:p:=by simp[h2]):p:=w
theorem wh {p:Prop}(w:p:=by rw[Qng,hi];simp):p:=w
theorem wl {p:Prop}(w:p:=by rw[hx,Ql1 (by omega)];rfl):p:=w
theorem wm {p:Prop}(w:p:=by rw[Qd];rfl):p:=w
theorem wo {p:Prop}(w:p:=by rw[←hK];simp):p:=w
theorem wq {p:Prop}(w:p:=by rw[←hi];simp):p:=w
theorem ws {p:Prop}(w:p:=by cases a<;>cases b<;>rfl):p:=w
theorem wu {p:Prop}(w:p:=by simpa using hm):p:=w
theorem wv {p:Prop}(w:p:=by rw[hlk];rfl):p:=w
theorem ww {p:Prop}(w:p:=by simpa using Qnq hf):p:=w
theorem wx {p:Prop}(w:p:=by rw[Z1];rfl):p:=w
theorem wy {p:Prop}(w:p:=by rw[h4];dsimp only;omega):p:=w
theorem wz {p:Prop}(w:p:=by rw[h3];dsimp only;omega):p:=w
theorem wA {p:Prop}(w:p:=by simp only[Qlr]at *;omega):p:=w
theorem wB {p:Prop}(w:p:=by simp only[Qns]at *;omega):p:=w
theorem wC {p:Prop}(w:p:=by simp only[Ql2]):p:=w
theorem wD {p:Prop}(w:p:=by simp[JT,Ql]):p:=w
theorem wE {p:Prop}(w:p:=by simp[hi]):p:=w
theorem wH {p:Prop}(w:p:=by rw[hf,h160]<;>rfl):p:=w
theorem wI {p:Prop}(w:p:=by rw[hf,h140]<;>rfl):p:=w
theorem wJ {p:Prop}(w:p:=by exact h5'):p:=w
theorem wK {p:Prop}(w:p:=by simp only[QlV,Qa,seval]):p:=w
theorem wL {p:Prop}(w:p:=by simp only[f10,Qa,seval]):p:=w
theorem wM {p:Prop}(w:p:=by simp only[f14,Qa,seval]):p:=w
theorem wN {p:Prop}(w:p:=by rw[hf,h210]<;>rfl):p:=w
theorem wO {p:Prop}(w:p:=by rw[Qd v]):p:=w
theorem wP {p:Prop}(w:p:=by exact h1'):p:=w
theorem wQ {p:Prop}(w:p:=by exact h15):p:=w
theorem wR {p:Prop}(w:p:=by rw[hF0];exact(by rfl)):p:=w
theorem wT {p:Prop}(w:p:=by exact h22):p:=w
theorem wU {p:Prop}(w:p:=by exact m16):p:=w
theorem wV {p:Prop}(w:p:=by exact m17):p:=w
theorem wW {p:Prop}(w:p:=by simp[Op.bytesLess]at h):p:=w
theorem wX {p:Prop}(w:p:=by simp only[f6,Qa,seval]):p:=w
theorem wY {p:Prop}(w:p:=by simp only[Qmj];omega):p:=w
theorem wZ {p:Prop}(w:p:=by show(0:Nat)<_;decide):p:=w
theorem w_ {p:Prop}(w:p:=by simp[h]):p:=w
theorem v5 {p:Prop}(w:p:=by simp[Qw]):p:=w
theorem v6 {p:Prop}(w:p:=by simp[hc]):p:=w
theorem v7 {p:Prop}(w:p:=by apply Array.ext';simp):p:=w
theorem v8 {p:Prop}(w:p:=by rw[Qls]at hp;simp[hp]):p:=w
theorem v9 {p:Prop}(w:p:=by exact h2):p:=w
theorem vd {p:Prop}(w:p:=by rw[Qmj];exact Qlk _):p:=w
theorem ve {p:Prop}(w:p:=by simp[hq]):p:=w
theorem vf {p:Prop}(w:p:=by unfold C.left;omega):p:=w
theorem vh {p:Prop}(w:p:=by rw[hc];rfl):p:=w
theorem vi {p:Prop}(w:p:=by simpa using hc):p:=w
theorem vj {p:Prop}(w:p:=by split<;>omega):p:=w
theorem vk {p:Prop}(w:p:=by unfold PT;omega):p:=w
theorem vn {p:Prop}(w:p:=by exact m13):p:=w
theorem vp {p:Prop}(w:p:=by exact m15):p:=w
theorem vq {p:Prop}(w:p:=by rw[e2];simp):p:=w
theorem vr {p:Prop}(w:p:=by exact hpl _):p:=w
theorem vt {p:Prop}(w:p:=by exact m7):p:=w
theorem vu {p:Prop}(w:p:=by simp[h9]):p:=w
theorem vw {p:Prop}(w:p:=by simp[hw]):p:=w
theorem vx {p:Prop}(w:p:=by simp[w2]):p:=w
theorem o0 {p:Prop}(w:p:=by
 refine R1 (n:=n) P hP l s m hm hrec hM hro g o ho h5 v z d _ i.left.toNat (QN o.key 0 [],QN o.kind 0 []) false false i _ _ ⟨xx,xx,xx,xx,xx,xx,xx,xx,xx,xx,xx,xx,xx,xx,xx,xx,xx,xx,xx⟩ hci xw xw xw rfl (fun _=>rfl) (fun _=>rfl) _ (fun f fr x a b c' hf' hxa hxb hR'=>?_) (fun f fr e c' h8 m8 h9 hR' he=>?_)
 ·obtain⟨h0,h5',h6,h7,h8,h12,h14,h17,h18,h19,m5,m6,m7,m8,m12,m14,m17,m22,m145⟩:=hf';have hxi:=hio _ _ hR';rw[hR'];dsimp only;simp only[PG.cells]at m5;simp only[vc]at m6 m12;simp only[PO.cells]at m7;simp only[J0]at m8;simp only[WM]at m14;simp only[kc,QlK,QlL]at m17;simp only[Xi,h0,h14,m14,JA,eE,seval];refine QO (Tu P c' (l+1) s _ kM d) qu ?_;rintro x1 m1 ⟨rfl,rfl⟩ _;simp only[h12,h17,m12,m17,pp,Qmj,eE,seval];have hlz:=fun(b:Bool) (k:Int) (y:V) (h:b=false→y=QN k 0 [])=>Qm7 (YR (b:=b) (l:=y.list.map V.av) (fun e=>by rw[h e];rfl)) (Qm7 (YR (b:=b) (l:=y.pairs.map V.pav) (fun e=>by rw[h e];rfl)) (Qm7 (YR (b:=b) (l:=y.slots.map V.sav) (fun e=>by rw[h e];rfl)) (YR (b:=b) (l:=y.raws.map R.av) (fun e=>by rw[h e];rfl))))
  obtain⟨p1,p2,p3,p4⟩:=hlz a _ _ hxa;obtain⟨q1,q2,q3,q4⟩:=hlz b _ _ hxb;refine QK (y:=kc a x.1++kc b x.2) (l:=[V.pav x]) ws ws ws (by simp only[kc,QlK,QlL,QlW,Qmq,p1,p2,p3,p4,q1,q2,q3,q4];rw[Z1 x];rfl) ?_;refine UV (xs:=z.pairs.map V.pav) (ys:=[V.pav x]) rfl rfl xA (JN z.pairs) (JN [x]) jE xD (by exact m145) ?_;have hub:∀y:V,y.ok M→y.bits<18446744073709551616:=fun y hy=>by
   have:=hy.bits;simp[Lit.wf,IntKind.min,IntKind.max,IntKind.bits,IntKind.signed]at this;omega
  have hkf:KF P o.key z.pairs:=fun p hp=>⟨hpo.1 p hp,hub _ (hol.keys p hp)⟩
  have hpr:=Qa9 (P:=P) hky (z.pairs++[x]) xD (fun p hp=>by
   rcases QmJ.1 hp with h|h
   ·exact(hkf p h).1
   ·rw[QnC]at h;subst h;exact hxi.one) (fun p hp=>by
   rcases QmJ.1 hp with h|h
   ·exact(hkf p h).2
   ·rw[QnC]at h;subst h;exact hub _ hxi.ky)
  rw[RY hkf ⟨hxi.one,hub _ hxi.ky⟩ hpo.2,Qnf]at hpr;have hk:List.take (z.pairs.length+1) (z.pairs.map V.pav++[V.pav x])=z.pairs.map V.pav++[V.pav x]:=QlY xA;have hst:=hset (Yc (Z2 o.key z.pairs x));rw[show(Yc (Z2 o.key z.pairs x)).av=.agg [.int .i64 12,.int .u64 0,.str [],.list [],.list ((Z2 o.key z.pairs x).map V.pav),.list [],.list []]from Qd _]at hst;generalize Zl g v o (Yc (Z2 o.key z.pairs x))=w at hst ⊢;rw[Qd w]at hst;simp only[Qmj,QlD,Qmk,Qa,seval];refine DN (site:=145) (g:=_) (sz:=14) (n:=z.pairs.length+1) (xs:=z.pairs.map V.pav++[V.pav x]) xJ xz xA ?_;rw[hk];simp only[h5',h6,h7,m5,m6,m7,eE,seval];refine aC hpr ?_;simp only[eE,seval];refine aC hst ?_;simp only[h8,m8,QY,eE,seval];exact⟨qd,rfl⟩
 ·rw[hR'];dsimp only;simp only[vc]at m8;simp only[h8,m8,h9,QY,eE,seval];exact⟨he,v,c',wO,rfl⟩):p:=w
theorem o8 {p:Prop}(w:p:=by refine QK (l:=[V.sav (x.1,z)]) rfl rfl rfl qT ?_;refine QF (site:=1100) (g:=gs) (n:=(K i).length) (xs:=(K i).map V.sav) (ys:=[V.sav (x.1,z)]) xx qA rfl kO rfl (W8 [(x.1,z)]) xG xI ?_;simp only[h7,h32,m7,e1,eE,seval];exact fin _ _ (gs+1) xL xM xU xZ (by exact h30') (by exact h31) xx j5 kT (by rw[hKs,Ql2];exact xx) (by rw[hKs,Qnf];exact xx) j8 (Hn rfl rfl rfl)):p:=w
theorem od {p:Prop}(w:p:=by
 all_goals
  constructor
  ·intro hh
   first
    |cases hh
    |(refine⟨xw,?_⟩;first|exact hh|(refine⟨xw,?_⟩;first|exact hh|(refine⟨xw,?_⟩;exact hh))|exact⟨by assumption,hh⟩)
  ·intro hh
   first
    |exact hh.2.2.2
    |exact hh.2.2
    |(exfalso;omega)
    |(exfalso;simp_all;done)):p:=w
theorem og {p:Prop}(w:p:=by
 simp only[vv,eE,seval];by_cases h1:k=1∨k=4∨k=5∨k=9
 · have hs:Xl k b t=⟨0,0,b,[]⟩:=by unfold Xl;rw[Qlv h1]
   rcases h1 with rfl|rfl|rfl|rfl<;>simp only[hs,R.av,seval,splice,QlX,Qmy,Ql0,Ql6,QlK,QlL,QlD,Qmk,eE]<;>rfl
 have hk1:(k==1)=false:=xD
 have hk4:(k==4)=false:=xD
 have hk5:(k==5)=false:=xD
 have hk9:(k==9)=false:=xD
 by_cases h2:k=2∨k=3
 · have hs:Xl k b t=⟨0,1,(YL (IntKind.i64.wrap (b:Int))).toNat,[]⟩:=by unfold Xl;rw[Qlu h1,Qlv h2]
   rcases h2 with rfl|rfl <;>
     (simp only[seval,eE]
      refine aC hz ?_;simp only[hs,R.av,hzn,splice,QlX,Qmy,Ql0,Ql6,QlK,QlL,QlD,Qmk,eE,seval])
 have hk2:(k==2)=false:=xD
 have hk3:(k==3)=false:=xD
 by_cases h6:k=6
 · have hs:Xl k b t=⟨0,2,Xx k b,[]⟩:=by unfold Xl;rw[Qlu h1,Qlu h2,Qlv h6]
   have b6:(k==6)=true:=by simp[h6]
   simp only[hk1,hk4,hk5,hk9,hk2,hk3,b6,QlX,Ql6,QlD,Qmk,eE,seval];refine aC hn ?_;simp only[hs,R.av,splice,QlX,Qmy,Ql0,Ql6,QlK,QlL,QlD,Qmk,eE,seval]
 have hk6:(k==6)=false:=xD
 by_cases h7:k=7∨k=8
 · have hs:Xl k b t=⟨0,3,0,t⟩:=by unfold Xl;rw[Qlu h1,Qlu h2,Qlu h6,Qlv h7]
   rcases h7 with rfl|rfl<;>simp only[hs,R.av,seval,splice,QlX,Qmy,Ql0,Ql6,QlK,QlL,QlD,Qmk,eE]<;>rfl
 have hk7:(k==7)=false:=xD
 have hk8:(k==8)=false:=xD
 have hs:Xl k b t=zr:=by unfold Xl;rw[Qlu h1,Qlu h2,Qlu h6,Qlu h7]
 simp only[hk1,hk4,hk5,hk9,hk2,hk3,hk6,hk7,hk8,hs,zr,R.av,splice,QlX,Qmy,Ql0,Ql6,QlL,QlD,Qmk,eE,seval]
 try rfl):p:=w
theorem oj {p:Prop}(w:p:=by
 cases op<;>simp only[Zd,QlH,QlM,Qlq]at hc;rename_i t y ol oh om;obtain⟨⟨⟨⟨⟨h1,h2⟩,h3⟩,h4⟩,h5⟩,h6⟩:=hc;have r1:=Qv h h2;have ht:Sj P t sz:=by
  cases sz with
  |none=>exact KQ h1
  |some z=>
   simp only at h1;split at h1
   ·rename_i e hu;simp only[Qmo]at h1;obtain⟨i,hi,hz⟩:=h1;exact⟨e,i,hu,hi,by simpa using hz⟩
   ·cases h1
 simp only[Qx]at hx;split at hx
 ·rename_i n b1 e1 e2;split at hx
  ·rename_i b2 e3;cases mx with
   |none=>
    simp only at hx;have hom:om=none:=by cases om<;>simp[Yk]at h5 ⊢
    subst hom;obtain⟨v,h7,h8⟩:=UQ (P:=P) h e1 hx r1 ht (Wk h h3 e2) (Wk h h4 e3) (m:=none) (show MxV none none from rfl) (fun e=>kZ);exact⟨v,by simp only[execOp,Sem.run_bind,Option.map_none,h7];rfl,h8⟩
   |some rm=>
    simp only at hx;split at hx
    ·rename_i c hcc;have hsm:om.isSome=true:=by cases om<;>simp[Yk]at h5 ⊢
     obtain⟨v,h7,h8⟩:=UQ (P:=P) h e1 hx r1 ht (Wk h h3 e2) (Wk h h4 e3) (m:=om.map a.eval) ⟨by simpa using hsm,Wk h h5 hcc⟩ (fun _=>by
      rcases h6 with h6|h6
      ·cases om<;>simp at h6 hsm
      ·simpa using h6)
     exact⟨v,by simp only[execOp,Sem.run_bind,h7];rfl,h8⟩
    ·cases hx
  ·cases hx
 ·cases hx):p:=w
theorem oo {p:Prop}(w:p:=by
 refine aC hwo ?_;by_cases hw:wr=wk o.kind
 case neg=>
  have b7:(wr != wk o.kind)=true:=vw
  rw[Qlu hw];simp only[b7,eE,seval];exact⟨xy,v,c,by rw[Qd v];rfl,(put_self hm hs).symm⟩
 have b7:(wr != wk o.kind)=false:=vw
 rw[Qlv hw];simp only[b7,WL,eE,seval];by_cases h10:o.kind=10
 ·have b10:(o.kind==10)=true:=by simp[h10]
  rw[Qlv h10];simp only[b10,eE,seval];refine QO (hne _ h10 h5) xF ?_;intro x m1 hx _;cases hr:KJ rec g v o c with
  |error e=>
   rw[hr]at hx;obtain⟨he,y,c',rfl,rfl⟩:=hx;simp only[Qd y,QY,eE,seval];exact⟨he,y,c',by rw[Qd y],rfl⟩
  |ok p=>
   obtain⟨w,d⟩:=p;rw[hr]at hx;obtain⟨rfl,rfl⟩:=hx;simp only[Qd w,QY,eE,seval];exact⟨qd,rfl⟩
 ·have b10:(o.kind==10)=false:=by simp[h10]
  rw[Qlu h10];simp only[b10,eE,seval];refine QO (hon _) xF ?_;intro x m1 hx _;cases hr:Kz P g v o c with
  |error e=>
   rw[hr]at hx;obtain⟨he,y,c',rfl,rfl⟩:=hx;simp only[Qd y,QY,eE,seval];exact⟨he,y,c',by rw[Qd y],rfl⟩
  |ok p=>
   obtain⟨w,d⟩:=p;rw[hr]at hx;obtain⟨rfl,rfl⟩:=hx;simp only[Qd w,QY,eE,seval];exact⟨qd,rfl⟩):p:=w
theorem ot {p:Prop}(w:p:=by refine QK (l:=[V.sav y]) rfl rfl rfl qT ?_;refine QF (site:=1100) (g:=n) (n:=(K i).length) (xs:=(K i).map V.sav) (ys:=[V.sav y]) xx qA rfl kO rfl (W8 [y]) xG xI ?_;simp only[h9,h20,m9,e1,eE,seval];exact keep hdd _ _ xR xU xZ xV j7 qa kU xx kI ko qq kW xx xx (Ge rfl rfl)):p:=w
theorem ou {p:Prop}(w:p:=by simp only[h7,h9,m7,m9,eE,seval];refine QK (l:=[V.sav (o.num,z)]) rfl rfl rfl qT ?_;refine QF (site:=1100) (g:=gs) (n:=(L k).length) (xs:=(L k).map V.sav) (ys:=[V.sav (o.num,z)]) xx qA rfl kO rfl (W8 [(o.num,z)]) xG xI ?_;simp only[h7,h10',m7,e1,eE,seval];exact fin _ _ (gs+1) xL xM xN xU xZ xV j7 xx j5 j9 kT (by rw[hKs,Ql2];exact xx) (by exact m9') (by rw[hKs,Qnf];exact xx) (Dx rfl)):p:=w
theorem ow {p:Prop}(w:p:=by rw[hr]at hx;obtain⟨he,y,c',rfl,rfl⟩:=hx;simp only[Qd y,QY,eE,seval];exact⟨he,y,c',by rw[Qd y],rfl⟩):p:=w
theorem oz {p:Prop}(w:p:=by rw[hz,Qlu xA,Qms]at hKs;simp only[h32,e1,Qa,seval];exact fin _ _ gs xL xM xU xZ (by exact h30') (by exact h31) xx j5 kT qW qX j8 (Hn rfl rfl rfl)):p:=w
theorem oA {p:Prop}(w:p:=by
 have h:n<128:=by(have h:(n:Int)<128:=xQ);omega
 simp only[h0,h3,ZT,seval];refine WE rfl ?_;refine QF rfl hv rfl (YN l).symm rfl rfl jE xD ?_;have he:=WF (m:=[]) (fr:=QJ fr 3 (.vec (g+1) 1 (bl l++[.int .u8 ((UInt8.ofNat n).toNat:Int)]))) (site:=3) (g:=g+1) (sz:=1) (n:=l.length+(0+1)) (q:=false) rfl (by simp[bl]);have hb:bytesOf (bl l++[.int .u8 ((UInt8.ofNat n).toNat:Int)])=some (l++[UInt8.ofNat n]):=by
  have:=Kh (l++[UInt8.ofNat n])
  rwa [YM]at this
 simp only[Qed n h,he,hb,ZT,seval];rw[←hl,H6 j n h]):p:=w
theorem oB {p:Prop}(w:p:=by
 refine RepL.of_all (by simp[X5]) fun j x v hx hv=>?_
 simp only[X5,QmN]at hx;simp only[Array.toList_map,Array.toList_range,QmN]at hv;by_cases hj:j<n*i.size
 ·rw[List.getElem?_range hj]at hx hv;simp only[QlO,QlP]at hx hv;have hm:j % i.size<i.size:=Nat.mod_lt _ xw;obtain⟨u,hu1,hu2⟩:=rz.at_ (i:=j % i.size) (Qln xw);rw[Qln xw]at hx;simp only[QmA]at hx;subst hx;rw[hzl]at hv;rw[QlS]at hu1;rw[Array.getElem!_eq_getD,Qly,hu1]at hv;simp only[QmA]at hv;subst hv;exact hu2
 ·rw[QmO xD]at hx;cases hx):p:=w
theorem oC {p:Prop}(w:p:=by
 refine Qj (hcl _ j5 xx) (by simp only[QlW,Qmq,h3,Qa,seval]<;>rfl) ?_;cases hp:(L.take i).any fun y=>nm y==nm x
 ·rw[hp]at hstep;simp only[h9,e1,Qa,seval];exact⟨L.length-(i+1),xw,_,_,i+1,rfl,rfl,hstep,xO,xM,xZ,xV,xx,j5,xS⟩
 ·rw[hp]at hstep;have hf:Ur L nm=false:=by
   rw[Qnn];intro h';rw[Q3.2 fun k hk=>Q3.1 h' k xw]at hstep;cases hstep
  simp only[hf,Qmx,Qa,seval]):p:=w
theorem oD {p:Prop}(w:p:=by simp only[h13,e1,Qa,seval];exact fin _ _ (h+1) xM xx jY jP xx j8 xx xS):p:=w
theorem oE {p:Prop}(w:p:=by refine QK (l:=[V.pav x]) rfl rfl rfl wx ?_;refine QF (site:=4) (g:=h) (n:=(We T i).length) (xs:=(We T i).map V.pav) (ys:=[V.pav x]) xx jO rfl hti.symm rfl (JN [x]) xG xI ?_;simp only[h13,e1,Qa,seval];exact keep hst _ _ (h+1) xM xx jY jP xx j8 xx xS):p:=w
theorem oF {p:Prop}(w:p:=by
 simp only[C6,Qa,seval];refine Z4 rfl ?_;simp only[Qa,seval];refine QF (site:=5) (g:=1) (xs:=[]) (ys:=xs) rfl rfl rfl rfl rfl h jE xD ?_;simp only[Qa,seval];refine Zu (l:=0) (site:=5) (g:=2) (o:=0) (n:=xs.length) (q:=false) (sz:=7) (xs:=xs) qw xz xA xy hr ?_;simp only[hng,NQ,eE,seval]
 try simp[AV.still,AV.un,Zw,XC]):p:=w
theorem oG {p:Prop}(w:p:=by
 simp only[SN,Qa,seval];refine Z4 rfl ?_;simp only[Qa,seval];refine QF (site:=5) (g:=1) (xs:=[]) (ys:=xs) rfl rfl rfl rfl rfl h jE xD ?_;simp only[Qa,seval];refine Zu (l:=0) (site:=5) (g:=2) (o:=0) (n:=xs.length) (q:=false) (sz:=4) (xs:=xs) qw xz xA xy hr ?_;simp only[hng,Rh,eE,seval]
 try simp[AV.still,AV.un,Zw,XC]):p:=w
theorem oH {p:Prop}(w:p:=by
 simp only[Cd,Qa,seval];refine Z4 rfl ?_;simp only[Qa,seval];refine QF (site:=5) (g:=1) (xs:=[]) (ys:=xs) rfl rfl rfl rfl rfl h jE xD ?_;simp only[Qa,seval];refine Zu (l:=0) (site:=5) (g:=2) (o:=0) (n:=xs.length) (q:=false) (sz:=8) (xs:=xs) qw xz xA xy hr ?_;simp only[hng,C2,eE,seval]
 try simp[AV.still,AV.un,Zw,XC]):p:=w
theorem oI {p:Prop}(w:p:=by unfold Oper.wp;rw[hrun];have hd':o.dst=d:=hd;show K (a.put o.dst _) _;rw[hd'];refine hK _ _ _ _ h (hr'.put hdN (.ptr ?_)) he;show(if (0:Nat)=0∧s=s then some w.heap.size else G.nm 0 s)=some w.heap.size;simp):p:=w
theorem oJ {p:Prop}(w:p:=by
 refine go _ ?_ ?_ ?_ ?_ ?_ ?_ ?_
 ·simp only[f0,Qa,seval]
 ·simp only[f1,Qa,seval]
 ·simp only[f3,Qa,seval]
 ·simp only[f4,Qa,seval]
 ·simp only[f18,Qa,seval]
 ·simp only[f20,Qa,seval]
 ·simp only[Qa,seval]):p:=w
theorem oK {p:Prop}(w:p:=by
 cases a1:decide ((l.length:Int) > 0)<;>try simp only[c12,Qnd,Qnc,eE,seval]
 all_goals(cases a2:decide ((p.length:Int) > 0)<;>try simp only[c10,Qnd,Qnc,w,eE,seval])
 all_goals(cases a3:decide (((s.length+r.length:Nat):Int) > 0)<;>try simp only[Qnd,Qnc,eE,seval])
 all_goals(cases a4:((b:Int)==0)<;>try simp only[a4,n4,Qmx,Qm9,QS,eE,seval])
 all_goals(cases a5:(t==[])<;>try simp only[Qmx,Qm9,Qa,seval])):p:=w
theorem oL {p:Prop}(w:p:=by
 simp only[Qa,seval];by_cases h1:a<b
 ·have d1:decide (a<b)=true:=jC
  simp only[d1,cN,Qlv h1,Qa,seval]
 ·have d1:decide (a<b)=false:=jC
  by_cases h2:b<a
  ·have d2:decide (a > b)=true:=jA
   simp only[d1,d2,cN,Qlu h1,Qlv h2,Qa,seval]
  ·have d2:decide (a > b)=false:=jA
   simp only[d1,d2,cN,Qlu h1,Qlu h2,Qa,seval]):p:=w
theorem oM {p:Prop}(w:p:=by
 refine CP h hc (GQ hvs hm hN ha) fun e G' st' a' w' hq hr' he=>?_
 obtain⟨hex,hds,x,y,fr,m',hx,hy,hst,hml,hR⟩:=hq;have hdef:a'.defers=[]:=by
  have:=hr'.ds;rw[hds]at this;cases hd:a'.defers with
  |nil=>rfl
  |cons d l=>rw[hd]at this;cases this
 have hfin:=NM (R:=R) hr hr' he hx hy hst hml hR;rcases hex with rfl|rfl
 ·exact⟨hdef,hfin⟩
 ·exact⟨hdef,hfin⟩):p:=w
theorem oN {p:Prop}(w:p:=by rw[hr]at hx;obtain⟨he,y,c',rfl,rfl⟩:=hx;dsimp only;simp only[Xa he,Qd y,QY,eE,seval];exact⟨he,v,c',wO,rfl⟩):p:=w
theorem oO {p:Prop}(w:p:=by
 have e2:(Qo.map fun(x:Nat×Operand)=>(x.1,a.eval x.2)).toList=Qo.toList.map fun x=>(x.1,a.eval x.2):=xA
 simp only[execOp,ho,Instr.buildSlice,Sem.run_bind,run_underlying hu,Result.andThen_ok,XR hi];rw[Qlu xw,Qlu hne];simp only[Sem.run_bind,Sem.run_pure,Result.andThen_ok,zeroValue,typeInfo,run_program,hi,hzv,e2,hfill,newRow,run_newObj];rfl):p:=w
theorem oP {p:Prop}(w:p:=by exact⟨_,by simp only[run_underlying hu,Result.andThen_ok];rfl,.int _ _⟩):p:=w
theorem oQ {p:Prop}(w:p:=by
 rw[Qlv (hB.1 hB1)];subst hB1;simp only[hd,Qa,seval]
 try rfl):p:=w
theorem oR {p:Prop}(w:p:=by try simp[AV.still,AV.un,Zw,XC]):p:=w
theorem oS {p:Prop}(w:p:=by exact .list (sz:=0) (cs:=[]) .nil xA rfl rfl xA rfl (Qlk _) (Qlx _)):p:=w
theorem oT {p:Prop}(w:p:=by
 refine go _ ?_ ?_ ?_ ?_ ?_
 ·simp only[f0,Qa,seval]
 ·simp only[f3,Qa,seval]
 ·simp only[f4,Qa,seval]
 ·simp only[f18,Qa,seval]
 ·simp only[f24,Qa,seval]):p:=w
theorem oU {p:Prop}(w:p:=by
 by_cases hh:l'=l∧s'=s
 ·obtain⟨rfl,rfl⟩:=hh;rw[Qs (Xm kg)]at e;cases e
 ·rw[QE xw]at e;obtain⟨a1,a2,a3,a4⟩:=h.vec l' s' g sz zs e;refine⟨a1,a2,a3,a4.imp id fun⟨b',e',r⟩=>⟨b',e',r.of (ht.heap b' ?_) fun _ h=>h⟩⟩;rintro rfl;exact h.inj3 _ _ _ _ _ hb e'):p:=w
theorem oV {p:Prop}(w:p:=by
 refine⟨n / 128,xw,_,_,n / 128,g+1,j,l++[UInt8.ofNat (n % 128+128)],rfl,rfl,rfl,?_,?_,?_,?_,?_⟩
 ·simp only[Ql2,QlD,Qmk,ZT,seval]
 ·simp only[QZ,YM]<;>rfl
 ·have:=Da (9-(j+1)) n xw hlt
  rwa [show 9-(j+1)+1=9-j by omega]at this
 ·simp;omega
 ·rw[←hl,FR j n xw];simp):p:=w
theorem oW {p:Prop}(w:p:=by exact⟨by rw[hf,h.f4]<;>rfl,by rw[hf,h.f5]<;>rfl,by rw[hf,h.f9]<;>rfl,by rw[hf,h.f11]<;>rfl,by rw[hf,h.f13]<;>rfl,by rw[hf,h.f15]<;>rfl,by rw[hm 4 xy,h.m4]<;>rfl,by rw[hm 5 xy,h.m5]<;>rfl,by rw[hm 13 xy,h.m13]<;>rfl,by rw[hm 15 xy,h.m15]<;>rfl⟩):p:=w
theorem oX {p:Prop}(w:p:=by cases op<;>simp only[Zd,QlH,QlM,Qls]at hc;rename_i t y;obtain⟨v,h1,h2⟩:=Un (P:=P) h hx' (Qv h hc.2) hc.1;exact⟨v,by simp[execOp,h1],h2⟩):p:=w
theorem oY {p:Prop}(w:p:=by simp only[QI hlj,ZG hj hlj,e1,Qa,seval];exact Ac.go hk hlt rfl (by rw[XM hx];exact(Ql9 ..).symm)):p:=w
theorem oZ {p:Prop}(w:p:=by
 simp only[hc,Xx,hk,decide_true,and_self,splice,QlX,Qmy,Ql0,Ql6,QlK,QlL,QlD,Qmk,eE,seval]
 try rfl):p:=w
theorem o_ {p:Prop}(w:p:=by
 refine Qj hw2 kF ?_;simp only[e1,h10,Qa,seval];refine fin _ _ _ ?_ ?_ ?_ ?_ ?_ (YO _ _ _) ?_
 ·simp only[h3,Qa,seval]
 ·simp only[h8,Qa,seval]
 ·simp only[h9,Qa,seval]
 ·simp only[Qa,seval]
 ·rw[UH xy xy,w5]<;>rfl
 ·rw[hp,hbo,QlJ]):p:=w
theorem z7 {p:Prop}(w:p:=by simp only[QmW,Qmx,Qa,seval]):p:=w
theorem z8 {p:Prop}(w:p:=by simp only[Qmx,QmW,Qa,seval]):p:=w
theorem z9 {p:Prop}(w:p:=by refine⟨Zc ?_ xy (Qlx _),Zc hkd xy (Qlx _),F6 hky,fun hn e=>XZ hn⟩;unfold XT at hky;exact JJ xw xw):p:=w
theorem za {p:Prop}(w:p:=by simp only[Qmx,Qa,seval]):p:=w
theorem zb {p:Prop}(w:p:=by
 rcases Yp p l 0 with⟨h1,h2⟩|⟨k,o,h1,_,h3⟩
 ·rw[h1];have:l.any p=false:=by
   rw[List.any_eq_false];intro x hx;exact fun h=>by have:=Qno.1 h2 x hx;exact this h
  rw[this];rfl
 ·rw[h1];have:l.any p=true:=Qm6.2 ⟨o,Qnp h3,Qnq h3⟩;rw[this];exact Qnr xw):p:=w
theorem zd {p:Prop}(w:p:=by all_goals(cases a5:(t==[])<;>try simp only[Qmx,Qm9,Qa,seval])):p:=w
theorem ze {p:Prop}(w:p:=by simp only[QB hlj,e2,cond_true,cond_false,Qa,seval];exact Ac.go hj hlj rfl vh):p:=w
theorem zf {p:Prop}(w:p:=by
 exact next _ _ hany ⟨xM,xN,qa,kU,xx,(by exact m3'),j9⟩ (by
  intro s hs;simp only[QmM,QnI,or_false]at hs;rcases hs with rfl|rfl|rfl
  ·show(fr 12).isRow=false;rw[n12];rfl
  ·rfl
  ·rfl)):p:=w
theorem zg {p:Prop}(w:p:=by
 all_goals(cases t1:(w.wire==3)<;>try simp only[QmW,Qm8,Qnd,h5,eE,seval])
 all_goals(cases t2:decide ((w.data.length:Int) > 4096)<;>try simp only[SP,Qnd,Qnc,h5,eE,seval])
 all_goals(cases t3:decide ((w.data.length:Int) > 65536)<;>try simp only[C1,QlH,Qa,seval])):p:=w
theorem zh {p:Prop}(w:p:=by exact hQ _ xN xZ j7 xx):p:=w
theorem zi {p:Prop}(w:p:=by exact⟨s.length-(i+1),xw,_,_,i+1,rfl,rfl,xw,by rw[hstep,hp],xO,xZ,xx⟩):p:=w
theorem zj {p:Prop}(w:p:=by simp only[ia,ist,h18,m9,e2,eE,seval];exact fin2 _ _ _ rfl xL qU xM j5 xx jP kS xS qc kL xx):p:=w
theorem zk {p:Prop}(w:p:=by subst e;rw[←hti]at h9;rw[Qm5]at h9 mR;simp only[QI hlt,Qa,seval];exact q _ _ g ⟨xM,xN,xZ,j7,j5,j9,qq,j8⟩):p:=w
theorem zl {p:Prop}(w:p:=by exact fin _ _ hun v9 xM xR xN xU jY (by exact h36) (by exact h37) xx q9 ko (by exact m11') (Ge rfl rfl)):p:=w
theorem zm {p:Prop}(w:p:=by simp only[h47,e1,Qa,seval];exact fin _ _ hmi xR xN xU (by exact h45) (by exact h46) xx jO q9 ko xS (by exact n14)):p:=w
theorem zp {p:Prop}(w:p:=by exact Ac.go hj hlj rfl vh):p:=w
theorem zq {p:Prop}(w:p:=by exact⟨xs.length-2*b,xw,_,2*b,i+1,rfl,rfl,xw,xw,by rw[hA1];omega,xP,j6,j3,xz⟩):p:=w
theorem zt {p:Prop}(w:p:=by
 have b0:(o.kind==10)=true:=w_
 simp only[b0,Qlv h,eE,seval];cases a1:decide (o.target≥0)<;>cases a2:decide (o.target<(P.progs.length:Int))<;>simp only[a2,Qm8,QmW,Qmj,eE,seval]):p:=w
theorem zu {p:Prop}(w:p:=by refine K8 (fa:=[]) (fb:=[]) xx hy rfl rfl rfl (.inl rfl) ?_;simp only[h3,h6,g3,eE,seval];refine K8 (fa:=[]) (fb:=[]) xx hx rfl rfl rfl (.inl rfl) ?_;simp only[QS,Qa,seval]):p:=w
theorem zw {p:Prop}(w:p:=by simp only[Xa he,pp,QY,eE,seval];exact⟨he,v,_,wO,rfl⟩):p:=w
theorem zx {p:Prop}(w:p:=by
 obtain⟨t,i,e⟩:=q;dsimp only;simp only[Wx,C.av,hs,Jj,EL,QY,eE,seval];by_cases he:e=0
 ·subst he;rw[Qlv rfl];exact⟨rfl,rfl⟩
 ·rw[Qlu he];exact⟨he,⟨0,w,t,[]⟩,i,rfl,rfl⟩):p:=w
theorem zy {p:Prop}(w:p:=by simp only[QB hlj,Qp,QmS,Qf,hg,hgo,cond_true,cond_false,eE,seval];refine aC (z71 o.name) ?_;simp only[e2,cond_true,cond_false,Qa,seval];exact Ac.go hj hlj rfl (by rw[hc,XM ho];rfl)):p:=w
theorem zz {p:Prop}(w:p:=by simp only[QlD,Qmk]at hadd;simp only[QS,hadd,h4,Qa,seval];exact⟨l.length-(0+1),xw,_,_,0+1,rfl,rfl,xw,xO,(by rw[hFx];exact xx),xx,ZK rfl⟩):p:=w
theorem zA {p:Prop}(w:p:=by simp only[C.mk.injEq,Qmf,and_true];omega):p:=w
theorem zB {p:Prop}(w:p:=by rw[QE xw]at e;obtain⟨b',cs',e',hc,hr⟩:=h.cells l' s' zs e;exact⟨b',cs',e',hc.of (ht.heap b' (fun eb=>hh (by subst eb;exact h.inj1 _ _ _ _ _ e' hb))),hr⟩):p:=w
theorem zC {p:Prop}(w:p:=by simp only[QmW,Qa,seval]):p:=w
theorem zD {p:Prop}(w:p:=by rw[hr]at hy hR;obtain⟨he',u,c',rfl,rfl⟩:=hy;simp only[Qd u,Xa he',h6,h8,h17,m6,m8,m17,pp,eE,seval];exact he _ _ e c' xV xx xx hR.symm he'):p:=w
theorem zE {p:Prop}(w:p:=by refine aC Ew.Yx ?_;simp only[Qa,seval]):p:=w
theorem zF {p:Prop}(w:p:=by simp only[QI hlt,h4,eE,seval];simp[AV.un,Zw,XC,m4];rw[QlY vd]):p:=w
theorem zG {p:Prop}(w:p:=by intro f' fr' h' a3 a4 a11 a12 a13 b1 b4 b6;exact⟨T.length-(i+1),xw,f',fr',i+1,g,h',rfl,rfl,xw,a3,a4,a11,a12,a13,b1,by rw[b4,Qng,hi];simp,b6⟩):p:=w
theorem zH {p:Prop}(w:p:=by intro f t h1 h2 hmg f0 f1 f2 f3 f4 f18 f19 f20;rw[BB,Qlv rfl,JR];exact fin f t xw xw xw xw hmg f0 f1 f2 f3 f4 f18 f19 f20):p:=w
theorem zI {p:Prop}(w:p:=by rw[Qlv hk]at hv;rw[Qlv hk,Qlv hk];obtain⟨t0,t1⟩:=ho.tgt hk;refine h _ ?_ _ hv;unfold Qg;rw[Qln (by omega:o.target.toNat<P.progs.length)];exact Qmg _):p:=w
theorem zJ {p:Prop}(w:p:=by rw[ih xQ];omega):p:=w
theorem zK {p:Prop}(w:p:=by simp only[QS,hadd,h4,e1,Qa,seval];exact⟨l.length-(i+1),xw,_,_,i+1,rfl,rfl,xw,xO,(by rw[hFx];exact xx),xx,ZK rfl⟩):p:=w
theorem zL {p:Prop}(w:p:=by exact⟨fun h=>⟨xw,rfl⟩,fun h=>by rw[h.1]⟩):p:=w
theorem zM {p:Prop}(w:p:=by
 have h := hk
 simp only [Rows.uptoSmall, Qms, Rows.uptoBulkAll, Qlr] at h
 omega):p:=w
theorem zN {p:Prop}(w:p:=by
 simp only[Qm9,Qa,seval];refine go hq0 _ xx xx _ (fun f h=>?_) (fun f h2 h=>?_)
 ·simp only[hp,h,Qa,seval]
 ·simp only[hp,h,h2,Qa,seval]):p:=w
theorem zO {p:Prop}(w:p:=by
 have b1:(o.kind==9)=true:=vu
 simp only[b0,b1,Qlu h,Qlv h9,eE,seval];cases a1:decide (o.target≥0)<;>simp only[Qm8,QmW,Qmj,eE,seval]):p:=w
theorem zP {p:Prop}(w:p:=by simp only[oc,pk,eE,seval];cases h0:(c==4)<;>cases h1:decide (kd≥1)<;>cases h2:decide (kd≤6)<;>simp only[h1,h2,Qm8,QmW,Qnc,Qnd,eE,seval]):p:=w
theorem zQ {p:Prop}(w:p:=by exact fin _ (by rw[hpc];rfl) xO xx):p:=w
theorem zR {p:Prop}(w:p:=by
 simp only[Xc]at hx;split at hx
 · rename_i h0;cases hx;exact⟨_,by simp only[binOp,Op.shift];rw[Qlu xw];rfl,.int _ _⟩
 · cases hx):p:=w
theorem zT {p:Prop}(w:p:=by cases h1:Qc m l s<;>cases h2:Qc m' l s<;>rw[h1,h2]at h<;>simp_all[Ob.sh]):p:=w
theorem zU {p:Prop}(w:p:=by simp only[hc,Xx,decide_false,and_false,eE,seval]):p:=w
theorem zV {p:Prop}(w:p:=by
 have hc:=X9 p.1;have e:ZE [Jl 1 p.1,Xf bd o 2 p.2]=(20+(Jl 1 p.1).data.length)+(20+(Xf bd o 2 p.2).data.length):=by simp[ZE]
 omega):p:=w
theorem zW {p:Prop}(w:p:=by simp only[QlO,QlP]at hjv;rw[hzl]at hjv;rw[QlS]at hv';rw[Array.getElem!_eq_getD,Qly,hv']at hjv;simp only[QmA]at hjv;exact hjv.symm):p:=w
theorem zX {p:Prop}(w:p:=by simp only[XW]at h;cases h1:Zs st.m s<;>rw[h1]at h<;>simp only[cond_true,cond_false,reduceCtorEq,QlP]at h;subst h;exact⟨h1,hK⟩):p:=w
theorem zY {p:Prop}(w:p:=by
 by_cases hh:l'=l∧s'=s
 ·obtain⟨rfl,rfl⟩:=hh;exact h.gone l' s' (by rw[hx];rfl)
 ·rw[QE xw]at e;exact h.gone l' s' e):p:=w
theorem zZ {p:Prop}(w:p:=by
 have e:i=v.list.length:=xw
 subst e;rw[Qm5,Qa1]at mR;simp only[QI hlt,h6,h7,m6,m7,eE,seval];simp[AV.un,AV.unL,Zw,XC,mR,QlY]):p:=w
theorem z_ {p:Prop}(w:p:=by
 intro hl;have i1:=ih fun q hq=>hl q ve
 have i2:=M8 (hl f xA);unfold ZE at i1 ⊢;simp only[QlW,QnG,QlD];omega):p:=w
theorem y5 {p:Prop}(w:p:=by simp only[QB hli,Qp,QmS,Qf,hg,hgo,hgz,wi,e2,cond_true,cond_false,eE,seval];exact Ac.go hi hli rfl (by rw[hc,WW hz ho];rfl)):p:=w
theorem y6 {p:Prop}(w:p:=by simpa only [QlJ]using this):p:=w
theorem y7 {p:Prop}(w:p:=by simp only[Qp,QmS,Qf,hg,cond_true,cond_false,eE,seval];refine aC (z70 x.name) ?_;simp only[cond_true,cond_false,Qa,seval]):p:=w
theorem y9 {p:Prop}(w:p:=by
 simp only[binOp]
 constructor<;>simp[Op.equal,Op.maxDepth,h 9999]):p:=w
theorem ya {p:Prop}(w:p:=by simp only[RO.lets,Qlq,QlR]at hc;exact .inl (QE xw).symm):p:=w
theorem yb {p:Prop}(w:p:=by unfold Qg;rw[Qln (by omega:t.toNat<P.progs.length)];exact Qmg _):p:=w
theorem yc {p:Prop}(w:p:=by simp only[QB hln,Qp,QmS,Qf,hgo,hgz,QS,e3,cond_true,cond_false,eE,seval];exact Ac.go hn' hln rfl (by rw[hc,XM hz];rfl)):p:=w
theorem yd {p:Prop}(w:p:=by simp only[execOp,ho,resolve,invoke,builtin,Sem.run_bind,Sem.run_pure,Result.andThen_ok,Qmp,QlW,Qmq,hxv,hyv,hrun]):p:=w
theorem ye {p:Prop}(w:p:=by rename_i h1;cases h;exact h1):p:=w
theorem yf {p:Prop}(w:p:=by
 rcases he with he|he
 ·exact he
 ·exact Dp xy h he):p:=w
theorem yg {p:Prop}(w:p:=by
 rcases he with he|he
 ·exact he
 ·exact DA xy h he):p:=w
theorem yh {p:Prop}(w:p:=by cases h;exact⟨Af.refl hc,hv,hk,QmP _⟩):p:=w
theorem yj {p:Prop}(w:p:=by all_goals((repeat' split)<;>first|rfl|(exfalso;omega))):p:=w
theorem yk {p:Prop}(w:p:=by rw[hR'];dsimp only;simp only[vc]at m8;simp only[h8,m8,h9,QY,eE,seval];exact⟨he,v',c',by rw[Qd v'],rfl⟩):p:=w
theorem yl {p:Prop}(w:p:=by
 have hk:k≠b:=by rintro rfl;rw[(h.nm l s k hb).2 o]at e;cases e
 exact KO (ht.heap k hk) (h.stab k o v e)):p:=w
theorem ym {p:Prop}(w:p:=by simp only[execOp,ho,resolve,invoke,builtin,Sem.run_bind,Sem.run_pure,Result.andThen_ok,Qmp,QlW,Qmq,hrun]):p:=w
theorem yn {p:Prop}(w:p:=by unfold eqGuard;split<;>rfl):p:=w
theorem yo {p:Prop}(w:p:=by
 rw[hm]at hx;cases hx;cases ok
 ·exact isC_ok h1
 ·exact .tup (.cons (isC_ok h1) (.cons (.bool _) .nil))):p:=w
theorem yp {p:Prop}(w:p:=by exact⟨_,_,_,_,hc,fun w' h=>by simp only[execOp,ho,Sem.run_bind,h,Result.andThen_ok,Sem.run_pure]⟩):p:=w
theorem yq {p:Prop}(w:p:=by rw[←hfold,←Array.foldl_toList,Array.toList_zipIdx]):p:=w
theorem yr {p:Prop}(w:p:=by
 intro hl;have i1:=ih fun q hq=>hl q ve
 unfold ZE at i1 ⊢;simp only[QlW,QnG,QlD,Z8];omega):p:=w
theorem yu {p:Prop}(w:p:=by simp only[hu,QlM,Qls,Qmo,QlR]at h1;obtain⟨⟨rfl,j,hj,hz⟩,hne⟩:=h1;exact⟨hne,e,j,hu,hj,hz⟩):p:=w
theorem yv {p:Prop}(w:p:=by simp only[fill,hr,AV.cells,hl,hlf,QlN,hz,Qlk,and_self,if_true,splice,Qmy,QlL];rw[Ql1 xw,Qms]):p:=w
theorem yw {p:Prop}(w:p:=by exact fin _ _ hstep xL xU xZ xx qU xS):p:=w
theorem yx {p:Prop}(w:p:=by simp only[b0,Xx,hk,false_and,eE,seval]):p:=w
theorem yy {p:Prop}(w:p:=by exact⟨b',e',(ht.heap b' (fun eb=>hh (by subst eb;exact h.inj1 _ _ _ _ _ e' hb))).trans hc⟩):p:=w
theorem yz {p:Prop}(w:p:=by
 rw[hg]at hx;cases hx;cases ok
 ·exact GJ hg
 ·exact .tup (.cons (GJ hg) (.cons (.bool _) .nil))):p:=w
theorem yA {p:Prop}(w:p:=by
 rcases Nat.mul_eq_zero.1 (by simpa using hcl.symm)with h0|h0
 ·exact h0
 ·exact absurd h0 hsz0):p:=w
theorem yB {p:Prop}(w:p:=by
 have hb:((m,v).1==n)=false:=kn
 rw[hb]at h;rw[QnH kn];exact ih h):p:=w
theorem yC {p:Prop}(w:p:=by rintro f fr g ⟨h3,h5',h7,h9,m3,m5,m7,mR⟩;simp only[h9,mR,eE,seval];simp[AV.un,Zw,XC,QlY]):p:=w
theorem yD {p:Prop}(w:p:=by
 simp only[Jd]at h;split at h
 ·rename_i st1 h1;cases h;exact FL (UW hN hT ih) h1 hQ
 ·cases h):p:=w
theorem yE {p:Prop}(w:p:=by
 rfl
 have b0:((k:Int)==0)=true:=by rw[h0];rfl
 simp only[hA,h,b0,cond_true,cond_false,Qa,seval]):p:=w
theorem yF {p:Prop}(w:p:=by exact⟨fun f k h=>kq,fun _=>xA⟩):p:=w
theorem yG {p:Prop}(w:p:=by refine aC h2 ?_;simp only[eE,seval]):p:=w
theorem yH {p:Prop}(w:p:=by
 have hf:Ur L nm=true:=Q3.2 fun k hk=>Q3.1 hx k xw
 simp only[QI hlt,hf,Qm9,Qa,seval]):p:=w
theorem yI {p:Prop}(w:p:=by simp only[QB hln,e3,cond_true,cond_false,Qa,seval];exact Ac.go hn' hln rfl vh):p:=w
theorem yJ {p:Prop}(w:p:=by
 split at h
 ·cases h;decide
 ·split at h
  ·rename_i h1;cases h;exact R2 hre h1
  ·exact Po h):p:=w
theorem yK {p:Prop}(w:p:=by simp only[QB hli,e2,cond_true,cond_false,Qa,seval];exact Ac.go hi hli rfl vh):p:=w
theorem yL {p:Prop}(w:p:=by rename_i ht;have:=x1 ht;have:=y1 ht;rw[Ru];exact⟨fun h=>⟨xw,h⟩,fun h=>h.2⟩):p:=w
theorem yM {p:Prop}(w:p:=by unfold WN at h;split at h<;>first|(cases h;done)|(split at h<;>cases h;done)|assumption):p:=w
theorem yN {p:Prop}(w:p:=by rw[←N1 a 239 xy,←N1 b 191 xy,←N1 c 189 xy];simp[YV,hr]):p:=w
theorem yO {p:Prop}(w:p:=by have h1:=Uj (wk o.kind) x.list;have h2:=Gk x.list;rw[D4];unfold F4;simp only[QlD];omega):p:=w
theorem yP {p:Prop}(w:p:=by simp only[Qnc,Qa,seval]):p:=w
theorem yQ {p:Prop}(w:p:=by
 intro s hs;simp only[QmM,QnI,or_false]at hs;rcases hs with rfl|rfl
 ·exact h1
 ·exact h2):p:=w
theorem yR {p:Prop}(w:p:=by rw[Qlv xw];simp only[Sem.run_bind,XR hi,Result.andThen_ok,XV,Sem.run_pure,hj]):p:=w
theorem yS {p:Prop}(w:p:=by rw[h.2];simp only[Am.put,put_put]):p:=w
theorem yT {p:Prop}(w:p:=by unfold Extern.findNext Extern.find;rw[h1,h2];exact⟨jw,jw⟩):p:=w
theorem yU {p:Prop}(w:p:=by exact(by decide:(0:Nat)<18446744073709551616)):p:=w
theorem yV {p:Prop}(w:p:=by simp only[d1,Qa,seval];exact q1 (by rw[hx];exact hy) _ _ (by rw[hx];exact xx)):p:=w
theorem yW {p:Prop}(w:p:=by refine aC hlo ?_;refine aC hx ?_;simp only[QY,eE,seval];exact⟨qd,rfl⟩):p:=w
theorem yX {p:Prop}(w:p:=by subst e;rw[Qm5,QeZ]at mR;simp only[QI hlt,h7,mR,eE,seval];simp[AV.un,Zw,XC,QlY]):p:=w
theorem yY {p:Prop}(w:p:=by
 intro h
 apply hdot
 rw[←UInt8.toNat_inj];have:c.toNat=46:=xw
 rw[this];rfl):p:=w
theorem yZ {p:Prop}(w:p:=by simp only[QI hli,he,e1,Qa,seval];exact Ac.go hk hlt rfl (by rw[hA,XM hx,Ql9])):p:=w
theorem y_ {p:Prop}(w:p:=by simp only[isk,Qa,seval];cases h:decide (k≥1)<;>simp only[Qm8,QmW,Qa,seval]):p:=w
theorem x5 {p:Prop}(w:p:=by simp only[e0,Qu,PO.cells,b4,b5,eE,seval];refine aC c1 ?_;simp only[eE,seval]):p:=w
theorem x6 {p:Prop}(w:p:=by cases c<;>first|trivial|exact hc|cases hc):p:=w
theorem x7 {p:Prop}(w:p:=by simp only[QlD,Qmk];omega):p:=w
theorem x8 {p:Prop}(w:p:=by simp[Lit.wf,IntKind.min,IntKind.max,IntKind.bits,IntKind.signed]at h;omega):p:=w
theorem x9 {p:Prop}(w:p:=by dsimp only;simp only[Xa he,QY,eE,seval];exact⟨he,v,c',wO,rfl⟩):p:=w
theorem xa {p:Prop}(w:p:=by cases h1:Qc m l s<;>cases h2:Qc m' l s<;>rw[h1,h2]at h<;>simp_all[Ob.row]):p:=w
theorem xc {p:Prop}(w:p:=by rw[Qlv hlt]at hv;simp only[←hv,Qa3,Nat.mod_eq_of_lt hlt,h5,h6,ZT,seval]):p:=w
theorem xd {p:Prop}(w:p:=by refine⟨(t1.1.trans r1.1 hc).trans q1 hc,q2,?_⟩;dsimp only at q3;omega):p:=w
theorem xe {p:Prop}(w:p:=by simp only[QI hlt,h3,Qa,seval]):p:=w
theorem xf {p:Prop}(w:p:=by simp only[e0,Qu,PO.cells,b,eE,seval];refine aC h1 ?_;simp only[eE,seval]):p:=w
theorem xg {p:Prop}(w:p:=by
 simp only[hs,Yw,avs,splice,QlX,Qmy,Ql0,Ql6,QlL,QlD,Qmk,eE,seval]
 try rfl):p:=w
theorem xh {p:Prop}(w:p:=by simp only[hA,h,b0,wj,Qp,QmS,Qf,hg,hgy,QS,cond_true,cond_false,eE,seval]):p:=w
theorem xi {p:Prop}(w:p:=by simp only[Qf,e,QmS];rw[Qlv xw,Qlv ⟨trivial,trivial,hi⟩,QlN]):p:=w
theorem xj {p:Prop}(w:p:=by intro x hx;obtain⟨p,hp,rfl⟩:=QmK.1 hx;exact ezP (h1 p hp) (hb p hp)):p:=w
theorem xk {p:Prop}(w:p:=by rename_i hk;rw[Qlv hk]at h;have:=hbd _ _ (ho.tgt hk) h;dsimp only;omega):p:=w
theorem xl {p:Prop}(w:p:=by simp only[QI hlt,ZG hk hlt,hn,Qa,seval]):p:=w
theorem xm {p:Prop}(w:p:=by
 have hg:Qz (fr :: m) 0 site=1:=by unfold Qz;rw[e]
 simp only[hg];exact h):p:=w
theorem xn {p:Prop}(w:p:=by exact fin _ n (by rw[Qlu a1]) hj xL xM xx):p:=w
theorem xo {p:Prop}(w:p:=by exact he _ _ 9 c xV xx xx hR.symm xy):p:=w
theorem xp {p:Prop}(w:p:=by simp only[Zp,Qa,seval];cases h:(k==7)<;>simp only[Qnc,Qnd,Qa,seval]):p:=w
theorem xq {p:Prop}(w:p:=by all_goals(simp only[*,Qnc,Qnu,Qnt]at e;simp only[e])):p:=w
theorem xr {p:Prop}(w:p:=by exact⟨r1,Kv hv ho.self hfw,Ku hk ho.wf r3 xw,xw⟩):p:=w
theorem xu {p:Prop}(w:p:=by
 simp only[Qa,seval]
 try rfl):p:=w
theorem xv {p:Prop}(w:p:=by generalize Xp m (p.ev f) (r.ev f).cells=v;cases v<;>simp[mget,P8]):p:=w
end Go.Proofs.YtmlohboeoeoamaaGreatDoor
namespace Go.Proofs.YtmlohboeoeoamaaGreatDoor

def Qli:=@Nat.eq_of_beq_eq_true
def Qlj:=@Nat.add_assoc
def Qlk:=@Nat.le_refl
def Qll:=@Nat.le_trans
def Qlm:=@List.getElem?_eq_some_iff
def Qln:=@List.getElem?_eq_getElem
def Qlo:=@Bool.and_eq_true_iff
def Qlp:=@Option.map_eq_some_iff
def Qlq:=@Bool.or_eq_true
def Qlr:=@decide_eq_true_eq
def Qls:=@beq_iff_eq
def Qlt:=@Array.getElem?_eq_some_iff
def Qlu:=@if_neg
def Qlv:=@if_pos
def Qlw:=@Nat.lt_of_lt_of_le
def Qlx:=@Nat.zero_le
def Qly:=@Array.getD_eq_getD_getElem?
def Qlz:=@Array.getElem?_setIfInBounds_self
def QlA:=@List.mem_iff_getElem?
def QlB:=@List.all_eq_true
def QlC:=@List.mem_of_getElem?
def QlD:=@List.length_cons
def QlE:=@List.mem_cons_of_mem
def QlF:=@Array.getElem?_eq_getElem
def QlG:=@List.mem_cons_self
def QlH:=@Bool.false_eq_true
def QlI:=@List.take_succ_eq_append_getElem
def QlJ:=@List.append_assoc
def QlK:=@List.cons_append
def QlL:=@List.nil_append
def QlM:=@Bool.and_eq_true
def QlN:=@Nat.zero_add
def QlO:=@Option.map_some
def QlP:=@Option.some.injEq
def QlQ:=@Option.isSome_iff_exists
def QlR:=@bne_iff_ne
def QlS:=@Array.getElem?_toList
def QlT:=@List.drop_drop
def QlU:=@Array.length_toList
def QlV:=@Nat.add_zero
def QlW:=@List.map_cons
def QlX:=@List.take_succ_cons
def QlY:=@List.take_of_length_le
def QlZ:=@Nat.add_mul
def Ql0:=@List.drop_succ_cons
def Ql1:=@List.drop_of_length_le
def Ql2:=@List.length_append
def Ql3:=@List.getElem?_take
def Ql4:=@List.getElem?_drop
def Ql5:=@List.length_drop
def Ql6:=@List.drop_zero
def Ql7:=@List.drop_eq_getElem_cons
def Ql8:=@Nat.le_of_eq
def Ql9:=@Bool.and_assoc
def Qma:=@List.mem_flatMap
def Qmb:=@List.mem_of_mem_drop
def Qmc:=@List.mem_of_mem_take
def Qmd:=@Nat.eq_zero_or_pos
def Qme:=@Option.isSome_none
def Qmf:=@true_and
def Qmg:=@List.getElem_mem
def Qmh:=@Bool.or_eq_false_iff
def Qmi:=@Bool.eq_iff_iff
def Qmj:=@List.length_map
def Qmk:=@List.length_nil
def Qml:=@List.length_take
def Qmm:=@Bool.not_eq_true'
def Qmn:=@Nat.sub_zero
def Qmo:=@Option.any_eq_true
def Qmp:=@List.map_toArray
def Qmq:=@List.map_nil
def Qmr:=@List.getElem?_cons_zero
def Qms:=@List.append_nil
def Qmt:=@List.size_toArray
def Qmu:=@List.eq_nil_of_length_eq_zero
def Qmv:=@Nat.mul_le_mul_right
def Qmw:=@List.getElem?_cons_succ
def Qmx:=@Bool.not_false
def Qmy:=@List.take_zero
def Qmz:=@beq_self_eq_true
def QmA:=@Option.getD_some
def QmB:=@List.all_cons
def QmC:=@List.all_nil
def QmD:=@Bool.and_true
def QmE:=@List.drop_nil
def QmF:=@List.take_take
def QmG:=@Nat.min_eq_left
def QmH:=@List.take_append_drop
def QmI:=@List.all_append
def QmJ:=@List.mem_append
def QmK:=@List.mem_map
def QmL:=@List.length_pos_iff
def QmM:=@List.mem_cons
def QmN:=@List.getElem?_map
def QmO:=@List.getElem?_eq_none
def QmP:=@Int.le_refl
def QmQ:=@List.getElem?_append_left
def QmR:=@List.getElem?_append_right
def QmS:=@Int.toNat_natCast
def QmT:=@Nat.le_of_ble_eq_true
def QmU:=@List.flatMap_cons
def QmV:=@Prod.mk.injEq
def QmW:=@Bool.false_and
def QmX:=@List.length_singleton
def QmY:=@List.mem_filter
def QmZ:=@List.mem_range
def Qm0:=@List.pairwise_cons
def Qm1:=@List.pairwise_append
def Qm2:=@List.filter_append
def Qm3:=@List.filter_cons
def Qm4:=@Option.getD_none
def Qm5:=@List.take_length
def Qm6:=@List.any_eq_true
def Qm7:=@And.intro
def Qm8:=@Bool.true_and
def Qm9:=@Bool.not_true
def Qna:=@Bool.and_false
def Qnb:=@Int.eq_ofNat_of_zero_le
def Qnc:=@Bool.true_or
def Qnd:=@Bool.false_or
def Qne:=@beq_eq_false_iff_ne
def Qnf:=@List.map_append
def Qng:=@List.take_add_one
def Qnh:=@Option.toList_some
def Qni:=@List.map_congr_left
def Qnj:=@List.map_map
def Qnk:=@List.find?_cons
def Qnl:=@decide_eq_false
def Qnm:=@Option.isSome_some
def Qnn:=@Bool.eq_false_iff
def Qno:=@List.find?_eq_none
def Qnp:=@List.mem_of_find?_eq_some
def Qnq:=@List.find?_some
def Qnr:=@decide_eq_true
def Qns:=@decide_eq_false_iff_not
def Qnt:=@Bool.or_false
def Qnu:=@Bool.or_true
def Qnv:=@Bool.and_eq_false_iff
def Qnw:=@List.getElem?_set_ne
def Qnx:=@Bool.not_eq_true
def Qny:=@Bool.true_eq_false
def Qnz:=@Nat.not_lt_zero
def QnA:=@List.length_eq_zero_iff
def QnB:=@Int.natCast_add
def QnC:=@List.mem_singleton
def QnD:=@List.pairwise_singleton
def QnE:=@List.pairwise_iff_getElem
def QnF:=@Int.tmod_eq_emod_of_nonneg
def QnG:=@List.sum_cons
def QnH:=@List.filter_cons_of_neg
def QnI:=@List.not_mem_nil
def QnJ:=@List.getElem_of_mem
def QnK:=@Bool.beq_comm
def QnL:=@List.pairwise_flatMap
def QnM:=@Int.fdiv_eq_ediv_of_nonneg
def QnN:=@List.getElem?_of_mem
def QnO:=@List.flatMap_append
def QnP:=@Int.tdiv_eq_ediv_of_nonneg
def QnQ:=@List.dropWhile_sublist
def QnR:=@List.takeWhile_sublist

end Go.Proofs.YtmlohboeoeoamaaGreatDoor

namespace Go.Proofs.YtmlohboeoeoamaaGreatDoor.Am
open Go
def Cm:List (Nat×List Value):=[(1,[.int .i64 1,.int .i64 2,.int .i64 2,.int .i64 1,.int .i64 1,.int .i64 6,.int .i64 7,.int .i64 7,.int .i64 1,.int .i64 1,.int .i64 2,.int .i64 2,.int .i64 2,.int .i64 2,.int .i64 6,.int .i64 7,.int .i64 7,.int .i64 2,.int .i64 1,.int .i64 2,.int .i64 2,.int .i64 2,.int .i64 2,.int .i64 6,.int .i64 7,.int .i64 8,.int .i64 9]),(0,[.int .u64 0,.int .u64 1,.int .u64 2147483648,.int .u64 2147483647,.int .u64 9223372036854775808,.int .u64 9223372036854775807,.int .u64 0,.int .u64 4294967295,.int .u64 0,.int .u64 18446744073709551615,.int .u64 0,.int .u64 0,.int .u64 0,.int .u64 0,.int .u64 0,.int .u64 0,.int .u64 0,.int .u64 2147483647])]

inductive MK where
 |s (l:List UInt8)
 |n (i:Int)
def MK.t:MK→Bool
 |.s _=>true
 |.n _=>false
def MK.v:MK→Value
 |.s l=>.string ⟨⟨l⟩⟩
 |.n i=>.int .i64 i
def MK.eq:MK→MK→Bool
 |.s a,.s b=>a==b
 |.n a,.n b=>a==b
 |_,_=>false

inductive AV where
 |top
 |int (k:IntKind) (n:Int)
 |bool (b:Bool)
 |str (s:List UInt8)
 |nils|nilp|nilf|nili|nilm
 |list (l:List AV)
 |agg (l:List AV)
 |tup (l:List AV)
 |iface (t:TypeId) (x:AV)
 |fn (f:Fn) (first cap:List AV)
 |ptr (lvl site off:Nat)
 |vec (lvl site gen off n:Nat) (Fw:Bool)
 |vptr (lvl site gen idx off:Nat)
 |rptr (l:List AV)
 |anyp
 |lcap (l:List AV)
 |mp (ks:List MK) (vs:List AV)
 |mptr (lvl site:Nat)
 deriving Inhabited

inductive IT where
 |str (t:List UInt8)
 |mp (ks:List MK) (vs:List AV)
 deriving Inhabited

inductive Ob where
 |none
 |cells (l:List AV)
 |vec (gen sz:Nat) (l:List AV)
 |iter (t:IT) (p:Nat)
 deriving Inhabited

abbrev Fr:=Nat→AV
abbrev Qk:=List (Nat→Ob)

structure DF where
 fn:Fn
 cap:List AV
 args:List AV

structure St where
 f:Fr
 m:Qk
 ds:List DF

def QJ {α:Type}(f:Nat→α)(d:Nat)(x:α):Nat→α:=fun i=>bif Nat.beq i d then x else f i

theorem QZ {α:Type}(f:Nat→α)(d:Nat)(x:α):QJ f d x d=x:=by simp[QJ]
theorem Q6 {α:Type}(f:Nat→α){d i:Nat}(x:α)(h:i≠d):QJ f d x i=f i:=by
 have:Nat.beq i d=false:=by
  cases h':Nat.beq i d with
  |false=>rfl
  |true=>exact absurd (Qli h') h
 simp[QJ,this]

def AV.cells:AV→List AV
 |.agg l=>l
 |x=>[x]

def QP (l:List AV):List AV:=l.flatMap AV.cells

def AV.leaf:AV→Bool
 |.agg _|.tup _|.top=>false
 |_=>true

mutual
def AV.rf:AV→Bool
 |.ptr .. | .vec .. | .vptr .. | .rptr _|.mptr .. => false
 |.agg l|.tup l=>AV.rfL l
 |.iface _ x=>x.rf
 |.fn _ a b=>AV.rfL a&&AV.rfL b
 |_=>true
def AV.rfL:List AV→Bool
 | []=>true
 |x :: l=>x.rf&&AV.rfL l
end

mutual
def AV.sh:AV→AV
 |.ptr l s o=>.ptr (l+1) s o
 |.vec l s g o n q=>.vec (l+1) s g o n q
 |.vptr l s g i o=>.vptr (l+1) s g i o
 |.mptr l s=>.mptr (l+1) s
 |.agg l=>.agg (AV.shL l)
 |.tup l=>.tup (AV.shL l)
 |.iface t x=>.iface t x.sh
 |.fn f a b=>.fn f (AV.shL a) (AV.shL b)
 |x=>x
def AV.shL:List AV→List AV
 | []=>[]
 |x :: l=>x.sh :: AV.shL l
end

def AV.shN:Nat→AV→AV
 |0,x=>x
 |n+1,x=>(x.shN n).sh

mutual
def AV.un:AV→Option AV
 |.ptr 0 _ _|.vec 0 _ _ _ _ _|.vptr 0 _ _ _ _|.mptr 0 _=>none
 |.ptr (l+1) s o=>some (.ptr l s o)
 |.vec (l+1) s g o n q=>some (.vec l s g o n q)
 |.vptr (l+1) s g i o=>some (.vptr l s g i o)
 |.mptr (l+1) s=>some (.mptr l s)
 |.agg l=>(AV.unL l).map .agg
 |.tup l=>(AV.unL l).map .tup
 |.iface t x=>x.un.map (.iface t)
 |.fn f a b=>match AV.unL a,AV.unL b with
  |some a,some b=>some (.fn f a b)
  |_,_=>none
 |x=>some x
def AV.unL:List AV→Option (List AV)
 | []=>some []
 |x :: l=>match x.un,AV.unL l with
  |some x,some l=>some (x :: l)
  |_,_=>none
end

mutual
def AV.scrub (s:Nat):AV→AV
 |.ptr 0 t o=>bif Nat.beq t s then .top else .ptr 0 t o
 |.mptr 0 t=>bif Nat.beq t s then .top else .mptr 0 t
 |.agg l=>.agg (AV.scrubL s l)
 |.tup l=>.tup (AV.scrubL s l)
 |.iface t x=>.iface t (x.scrub s)
 |.fn f a b=>.fn f (AV.scrubL s a) (AV.scrubL s b)
 |x=>x
def AV.scrubL (s:Nat):List AV→List AV
 | []=>[]
 |x :: l=>x.scrub s :: AV.scrubL s l
end

def Ob.scrub (s:Nat):Ob→Ob
 |.cells l=>.cells (AV.scrubL s l)
 |o=>o

def DF.scrub (s:Nat)(d:DF):DF:={ d with cap:=AV.scrubL s d.cap,args:=AV.scrubL s d.args }

def Qc:Qk→Nat→Nat→Ob
 | [],_,_=>.none
 |fr :: _,0,s=>fr s
 |_ :: m,l+1,s=>Qc m l s

def put:Qk→Nat→Nat→Ob→Qk
 | [],_,_,_=>[]
 |fr :: m,0,s,o=>QJ fr s o :: m
 |fr :: m,l+1,s,o=>fr :: put m l s o

def YD (s:Nat):Qk→Qk
 | []=>[]
 |fr :: m=>(fun i=>(fr i).scrub s) :: m

def St.fresh (st:St)(s:Nat)(l:List AV):St :=
 { f:=fun i=>(st.f i).scrub s,m:=put (YD s st.m) 0 s (.cells (AV.scrubL s l)),ds:=st.ds.map (DF.scrub s) }

mutual
def AV.still (own:Bool)(m:Qk):AV→Option AV
 |.nils=>some (.list [])
 |.lcap l=>some (.list l)
 |.vec l s g o n q=>if own&&l != 0 then some (.vec l s g o n q)else
  match Qc m l s with
  |.vec g' _ xs=>if g=g'∧o+n≤xs.length then some (.list ((xs.drop o).take n))else none
  |_=>none
 |.mptr l s=>if own&&l != 0 then some (.mptr l s)else if own then match Qc m 0 s with
  |.iter (.mp ks vs) _=>some (.mp ks vs)
  |_=>none else none
 |.agg l=>(AV.stillL own m l).map .agg
 |.tup l=>(AV.stillL own m l).map .tup
 |.iface t x=>(x.still own m).map (.iface t)
 |x=>some x
def AV.stillL (own:Bool)(m:Qk):List AV→Option (List AV)
 | []=>some []
 |x :: l=>match x.still own m,AV.stillL own m l with
  |some x,some l=>some (x :: l)
  |_,_=>none
end

mutual
def AV.gv:AV→Value
 |.int k n=>.int k n
 |.bool b=>.bool b
 |.str s=>.string ⟨⟨s⟩⟩
 |.agg l=>.agg ⟨AV.gvL l⟩
 |.fn f _ _=>.func f #[] #[]
 |_=>.tuple #[]
def AV.gvL:List AV→List Value
 | []=>[]
 |x :: l=>x.gv :: AV.gvL l
end
mutual
def AV.gr:AV→Bool
 |.int .. | .bool _|.str _=>true
 |.agg l=>AV.grL l
 |.fn _ a b=>a.isEmpty&&b.isEmpty
 |_=>false
def AV.grL:List AV→Bool
 | []=>true
 |x :: l=>x.gr&&AV.grL l
end

def Jn:List MK→List AV→Nat→List MapEntry
 |k :: ks,v :: vs,i=>{ key:=k.v,val:=v.gv,born:=i } :: Jn ks vs (i+1)
 |_,_,_=>[]
def IT.obj:IT→Nat→Obj
 |.str t,p=>.stringIter ⟨⟨t⟩⟩ p
 |.mp ks vs,_=>.map ⟨Jn ks vs 0⟩ (Jn ks vs 0).length

inductive SV where
 |cell (v:Value)
 |mapo (es:Array MapEntry) (c:Nat)
 |siz (n:Nat)
def rd (w:World)(b o:Nat):SV→Prop
 |.cell v=>w.cell? ⟨b,o,none⟩=some v
 |.mapo es c=>w.heap[b]? = some (.map es c)
 |.siz n=>∃cs t fz,w.heap[b]? = some (.cells cs t fz)∧cs.size=n∧o=n
def sv (w:World)(b o:Nat):Option SV:=match w.heap[b]? with
 |some (.map es c)=>some (.mapo es c)
 |some (.cells cs _ _)=>if o=cs.size then some (.siz o)else(w.cell? ⟨b,o,none⟩).map .cell
 |_=>(w.cell? ⟨b,o,none⟩).map .cell

def JO (b o:Nat):Option SV:=match Cm.lookup b with
 |some l=>if o=l.length then some (.siz o)else(l[o]?).map .cell
 |none=>none
def GG (w:World):Prop:=∀b o v,JO b o=some v→rd w b o v

structure Gh where
 stab:Nat→Nat→Option SV             -- cells (and maps) that are never written again
 nm:Nat→Nat→Option Nat              -- the block of a variable
 vm:Nat→Nat→Option Nat              -- the block of a row
 vc:Nat→Nat→Nat                     -- its capacity
 vg:Nat→Nat→Nat                     -- its generation
 vz:Nat→Nat→Nat                     -- cells an element
 tab:∀b o v,JO b o=some v→stab b o=some v

def Gh.dn (G:Gh)(l:Nat):Gh :=
 { stab:=G.stab,nm:=fun i s=>G.nm (i+l) s,vm:=fun i s=>G.vm (i+l) s,vc:=fun i s=>G.vc (i+l) s,vg:=fun i s=>G.vg (i+l) s,vz:=fun i s=>G.vz (i+l) s,tab:=G.tab }

mutual
inductive Rep (G:Gh):AV→Value→Prop
 |top (v:Value):Rep G .top v
 |int (k:IntKind) (n:Int):Rep G (.int k n) (.int k n)
 |bool (b:Bool):Rep G (.bool b) (.bool b)
 |str (s:List UInt8):Rep G (.str s) (.string ⟨⟨s⟩⟩)
 |nils:Rep G .nils (.slice none 0 0)
 |nilp:Rep G .nilp (.pointer none)
 |nilf:Rep G .nilf .nilFunc
 |nili:Rep G .nili .nilIface
 |nilm:Rep G .nilm (.map none)
 |anyp (p:Option Addr):Rep G .anyp (.pointer p)
 |list {l:List AV} {cs:List Value} {A:Option Addr} {n cap sz:Nat} (hc:RepL G (QP l) cs) (hz:∀x∈l,x.cells.length=sz) (hf:AV.rfL (QP l)=true) (hl:(QP l).all AV.leaf=true)
   (hs:∀j u,cs[j]? = some u→∃b o,A=some ⟨b,o,none⟩∧G.stab b (o+j)=some (.cell u)) (hn:n=l.length) (hcap:n≤cap) (hm:n≤maxLen):Rep G (.list l) (.slice A n cap)
 |lcap {l:List AV} {cs:List Value} {A:Option Addr} {n sz:Nat} (hc:RepL G (QP l) cs) (hz:∀x∈l,x.cells.length=sz) (hf:AV.rfL (QP l)=true) (hl:(QP l).all AV.leaf=true)
   (hs:∀j u,cs[j]? = some u→∃b o,A=some ⟨b,o,none⟩∧G.stab b (o+j)=some (.cell u)) (hn:n=l.length) (hm:n≤maxLen):Rep G (.lcap l) (.slice A n n)
 |agg {l:List AV} {vs:List Value} (h:RepL G l vs):Rep G (.agg l) (.agg ⟨vs⟩)
 |tup {l:List AV} {vs:List Value} (h:RepL G l vs):Rep G (.tup l) (.tuple ⟨vs⟩)
 |iface {t:TypeId} {x:AV} {v:Value} (h:Rep G x v):Rep G (.iface t x) (.iface t v)
 |fn {f:Fn} {a b:List AV} {va vb:List Value} (ha:RepL G a va) (hb:RepL G b vb):Rep G (.fn f a b) (.func f ⟨va⟩ ⟨vb⟩)
 |ptr {l s o b:Nat} (h:G.nm l s=some b):Rep G (.ptr l s o) (.pointer (some ⟨b,o,none⟩))
 |vec {l s g o n:Nat} {q:Bool} {v:Value} (hv:v.oneCell'=true) (hg:g≤G.vg l s) (h:g=G.vg l s→(G.vm l s=none∧o=0∧n=0∧∃A,v=.slice A 0 0∧(2000≤s→A=none))∨
   ∃b A c,G.vm l s=some b∧o+n≤G.vc l s∧v=.slice (some A) n c∧n≤c∧c≤maxLen∧(q=false→c=G.vc l s-o)∧((o<G.vc l s∨o=0)∧(q=false∨0<n)→A=⟨b,o*G.vz l s,none⟩)):Rep G (.vec l s g o n q) v
 |vptr {l s g i o:Nat} {v:Value} (hv:v.oneCell'=true) (hg:g≤G.vg l s) (h:g=G.vg l s→∃b,G.vm l s=some b∧v=.pointer (some ⟨b,i*G.vz l s+o,none⟩)):Rep G (.vptr l s g i o) v
 |mp {ks:List MK} {vs:List AV} {b:Nat} (h:G.stab b 0=some (.mapo ⟨Jn ks vs 0⟩ (Jn ks vs 0).length)):Rep G (.mp ks vs) (.map (some b))
 |mptr {l s b:Nat} (h:G.nm l s=some b):Rep G (.mptr l s) (.map (some b))
 |rptr {l:List AV} {cs:List Value} {b o:Nat} (hc:RepL G l cs) (hf:AV.rfL l=true) (hl:l.all AV.leaf=true) (hs:∀j u,cs[j]? = some u→G.stab b (o+j)=some (.cell u)):Rep G (.rptr l) (.pointer (some ⟨b,o,none⟩))
inductive RepL (G:Gh):List AV→List Value→Prop
 |nil:RepL G [] []
 |cons {x:AV} {v:Value} {l:List AV} {vs:List Value} (h:Rep G x v) (t:RepL G l vs):RepL G (x :: l) (v :: vs)
end

theorem Gh.dn_dn (G:Gh)(a b:Nat):(G.dn a).dn b=G.dn (b+a):=by
 simp only[Gh.dn,Qlj]

structure Gle (G G':Gh):Prop where
 stab:∀b o v,G.stab b o=some v→G'.stab b o=some v
 nm:∀l s b,G.nm l s=some b→G'.nm l s=some b
 vg:∀l s,G.vg l s≤G'.vg l s
 vs:∀l s,G'.vg l s=G.vg l s→G'.vm l s=G.vm l s∧G'.vc l s=G.vc l s∧G'.vz l s=G.vz l s

theorem Gle.refl (G:Gh):Gle G G:=⟨fun _ _ _ h=>h,fun _ _ _ h=>h,fun _ _=>Qlk _,fun _ _ _=>⟨rfl,rfl,rfl⟩⟩
theorem Gle.trans {a b c:Gh}(h:Gle a b)(k:Gle b c):Gle a c :=
 ⟨fun x o v e=>k.stab x o v (h.stab x o v e),fun l s b e=>k.nm l s b (h.nm l s b e),fun l s=>Qll (h.vg l s) (k.vg l s),fun l s e=>by
  have h1:=h.vg l s;have h2:=k.vg l s;obtain⟨a1,a2,a3⟩:=h.vs l s xw;obtain⟨b1,b2,b3⟩:=k.vs l s xw;exact⟨b1.trans a1,b2.trans a2,b3.trans a3⟩⟩
theorem Gle.dn {G G':Gh}(h:Gle G G')(l:Nat):Gle (G.dn l) (G'.dn l) :=
 ⟨h.stab,fun i s b e=>h.nm (i+l) s b e,fun i s=>h.vg (i+l) s,fun i s e=>h.vs (i+l) s e⟩

mutual
theorem Rep.mono {G G':Gh}(hg:Gle G G'):∀ {x:AV} {v:Value},Rep G x v→Rep G' x v
 |_,_,.top v=>.top v
 |_,_,.int k n=>.int k n
 |_,_,.bool b=>.bool b
 |_,_,.str s=>.str s
 |_,_,.nils=>.nils
 |_,_,.nilp=>.nilp
 |_,_,.nilf=>.nilf
 |_,_,.nili=>.nili
 |_,_,.nilm=>.nilm
 |_,_,.anyp p=>.anyp p
 |_,_,.list hc hz hf hl hs hn hcap hm=>.list (RepL.mono hg hc) hz hf hl (fun j u h=>by
   obtain⟨b,o,e,h'⟩:=hs j u h;exact⟨b,o,e,hg.stab _ _ _ h'⟩) hn hcap hm
 |_,_,.lcap hc hz hf hl hs hn hm=>.lcap (RepL.mono hg hc) hz hf hl (fun j u h=>by
   obtain⟨b,o,e,h'⟩:=hs j u h;exact⟨b,o,e,hg.stab _ _ _ h'⟩) hn hm
 |_,_,.agg h=>.agg (RepL.mono hg h)
 |_,_,.tup h=>.tup (RepL.mono hg h)
 |_,_,.iface h=>.iface (Rep.mono hg h)
 |_,_,.fn ha hb=>.fn (RepL.mono hg ha) (RepL.mono hg hb)
 |_,_,.ptr h=>.ptr (hg.nm _ _ _ h)
 |_,_,.mp h=>.mp (hg.stab _ _ _ h)
 |_,_,.mptr h=>.mptr (hg.nm _ _ _ h)
 |_,_,.vec (l:=l) (s:=s) hv hl h=>.vec hv (Qll hl (hg.vg _ _)) (fun e=>by
   have h1:=hg.vg l s;obtain⟨a1,a2,a3⟩:=hg.vs l s xw;rw[a1,a2,a3];exact h xw)
 |_,_,.vptr (l:=l) (s:=s) hv hl h=>.vptr hv (Qll hl (hg.vg _ _)) (fun e=>by
   have h1:=hg.vg l s;obtain⟨a1,_,a3⟩:=hg.vs l s xw;rw[a1,a3];exact h xw)
 |_,_,.rptr hc hf hl hs=>.rptr (RepL.mono hg hc) hf hl (fun j u h=>hg.stab _ _ _ (hs j u h))
theorem RepL.mono {G G':Gh}(hg:Gle G G'):∀ {x:List AV} {v:List Value},RepL G x v→RepL G' x v
 |_,_,.nil=>.nil
 |_,_,.cons h t=>.cons (Rep.mono hg h) (RepL.mono hg t)
end

theorem Rep.unlcap {G:Gh}{l:List AV}{v:Value}(h:Rep G (.lcap l) v):Rep G (.list l) v:=by
 cases h with
 |lcap hc hz hf hl hs hn hm=>exact .list hc hz hf hl hs hn (Qlk _) hm

theorem Rep.tolcap {G:Gh}{l:List AV}{A:Option Addr}{n:Nat}(h:Rep G (.list l) (.slice A n n)):Rep G (.lcap l) (.slice A n n):=by
 cases h with
 |list hc hz hf hl hs hn hcap hm=>exact .lcap hc hz hf hl hs hn hm

theorem RepL.length {G:Gh}{l:List AV}{vs:List Value}(h:RepL G l vs):vs.length=l.length:=by
 induction l generalizing vs with
 |nil=>cases h;rfl
 |cons x l ih=>cases h with|cons h t=>simp[ih t]

theorem RepL.at_ {G:Gh}{l:List AV}{vs:List Value}(h:RepL G l vs){i:Nat}{x:AV}(hx:l[i]? = some x):∃v,vs[i]? = some v∧Rep G x v:=by
 induction l generalizing vs i with
 |nil=>simp at hx
 |cons y l ih=>
  cases h with
  |cons h t=>
   cases i with
   |zero=>simp at hx;subst hx;exact⟨_,rfl,h⟩
   |succ i=>simp at hx;simpa using ih t hx

theorem RepL.back {G:Gh}{l:List AV}{vs:List Value}(h:RepL G l vs){i:Nat}{v:Value}(hx:vs[i]? = some v):∃x,l[i]? = some x∧Rep G x v:=by
 have hl:=h.length;have:i<l.length:=by rw[←hl];exact(Qlm.1 hx).1
 obtain⟨v',e,r⟩:=h.at_ (Qln this);rw[hx]at e
 injection e with e
 subst e;exact⟨_,Qln this,r⟩

theorem RepL.append {G:Gh}{l l':List AV}{vs vs':List Value}(h:RepL G l vs)(h':RepL G l' vs'):RepL G (l++l') (vs++vs'):=by
 induction l generalizing vs with
 |nil=>cases h;exact h'
 |cons x l ih=>cases h with|cons h t=>exact .cons h (ih t)

theorem RepL.take {G:Gh}{l:List AV}{vs:List Value}(h:RepL G l vs)(n:Nat):RepL G (l.take n) (vs.take n):=by
 induction l generalizing vs n with
 |nil=>cases h;simp;exact .nil
 |cons x l ih=>
  cases h with
  |cons h t=>
   cases n with
   |zero=>simp;exact .nil
   |succ n=>simp;exact .cons h (ih t n)

theorem RepL.drop {G:Gh}{l:List AV}{vs:List Value}(h:RepL G l vs)(n:Nat):RepL G (l.drop n) (vs.drop n):=by
 induction l generalizing vs n with
 |nil=>cases h;simp;exact .nil
 |cons x l ih=>
  cases h with
  |cons h t=>
   cases n with
   |zero=>simp;exact .cons h t
   |succ n=>simp;exact ih t n

theorem RepL.set {G:Gh}{l:List AV}{vs:List Value}(h:RepL G l vs)(n:Nat){x:AV}{v:Value}(hx:Rep G x v):RepL G (l.set n x) (vs.set n v):=by
 induction l generalizing vs n with
 |nil=>cases h;simp;exact .nil
 |cons y l ih=>
  cases h with
  |cons h t=>
   cases n with
   |zero=>simp;exact .cons hx t
   |succ n=>simp;exact .cons h (ih t n)

theorem RepL.of_all {G:Gh}{l:List AV}{vs:List Value}(hl:vs.length=l.length)(h:∀(i:Nat) x v,l[i]? = some x→vs[i]? = some v→Rep G x v):RepL G l vs:=by
 induction l generalizing vs with
 |nil=>cases vs with|nil=>exact .nil|cons _ _=>simp at hl
 |cons x l ih=>
  cases vs with
  |nil=>simp at hl
  |cons v vs=>exact .cons (h 0 x v rfl rfl) (ih kD (fun i y u hy hu=>h (i+1) y u (by simpa using hy) (by simpa using hu)))

theorem Rep.leaf {G:Gh}{x:AV}{v:Value}(h:Rep G x v)(hl:x.leaf=true):v.oneCell'=true:=by
 cases h with
 |top=>simp[AV.leaf]at hl
 |agg=>simp[AV.leaf]at hl
 |tup=>simp[AV.leaf]at hl
 |vec hv=>exact hv
 |vptr hv=>exact hv
 |_=>rfl

def Gh.sameStab (G G':Gh):Prop:=∀b o v,G.stab b o=some v→G'.stab b o=some v

mutual
theorem Rep.rfd {G G':Gh}(hg:G.sameStab G'):∀ {x:AV} {v:Value},x.rf=true→Rep G x v→Rep G' x v
 |_,_,_,.top v=>.top v
 |_,_,_,.int k n=>.int k n
 |_,_,_,.bool b=>.bool b
 |_,_,_,.str s=>.str s
 |_,_,_,.nils=>.nils
 |_,_,_,.nilp=>.nilp
 |_,_,_,.nilf=>.nilf
 |_,_,_,.nili=>.nili
 |_,_,_,.nilm=>.nilm
 |_,_,_,.anyp p=>.anyp p
 |_,_,_,.list hc hz hf hl hs hn hcap hm=>.list (RepL.rfd hg hf hc) hz hf hl (fun j u h=>by
   obtain⟨b,o,e,h'⟩:=hs j u h;exact⟨b,o,e,hg _ _ _ h'⟩) hn hcap hm
 |_,_,_,.lcap hc hz hf hl hs hn hm=>.lcap (RepL.rfd hg hf hc) hz hf hl (fun j u h=>by
   obtain⟨b,o,e,h'⟩:=hs j u h;exact⟨b,o,e,hg _ _ _ h'⟩) hn hm
 |_,_,hr,.agg h=>.agg (RepL.rfd hg hr h)
 |_,_,hr,.tup h=>.tup (RepL.rfd hg hr h)
 |_,_,hr,.iface h=>.iface (Rep.rfd hg hr h)
 |_,_,hr,.fn ha hb=>by
   have h2:=Qlo.1 hr;exact .fn (RepL.rfd hg h2.1 ha) (RepL.rfd hg h2.2 hb)
 |_,_,hr,.ptr h=>by cases hr
 |_,_,hr,.mp h=>.mp (hg _ _ _ h)
 |_,_,hr,.mptr h=>by cases hr
 |_,_,hr,.vec hv hl h=>by cases hr
 |_,_,hr,.vptr hv hl h=>by cases hr
 |_,_,hr,.rptr hc hf hl hs=>by cases hr
theorem RepL.rfd {G G':Gh}(hg:G.sameStab G'):∀ {x:List AV} {v:List Value},AV.rfL x=true→RepL G x v→RepL G' x v
 |_,_,_,.nil=>.nil
 |_,_,hr,.cons h t=>by
   have h2:=Qlo.1 hr;exact .cons (Rep.rfd hg h2.1 h) (RepL.rfd hg h2.2 t)
end

theorem RepL.ofrf {G:Gh}{l:Nat}{x:List AV}{v:List Value}(hr:AV.rfL x=true)(h:RepL (G.dn l) x v):RepL G x v:=RepL.rfd (G:=G.dn l) (G':=G) (fun _ _ _ h=>h) hr h
theorem RepL.torf {G:Gh}{l:Nat}{x:List AV}{v:List Value}(hr:AV.rfL x=true)(h:RepL G x v):RepL (G.dn l) x v:=RepL.rfd (G:=G) (G':=G.dn l) (fun _ _ _ h=>h) hr h

mutual
theorem Rep.sh {G:Gh}:∀ {x:AV} {v:Value},Rep (G.dn 1) x v→Rep G x.sh v
 |_,_,.top v=>.top v
 |_,_,.int k n=>.int k n
 |_,_,.bool b=>.bool b
 |_,_,.str s=>.str s
 |_,_,.nils=>.nils
 |_,_,.nilp=>.nilp
 |_,_,.nilf=>.nilf
 |_,_,.nili=>.nili
 |_,_,.nilm=>.nilm
 |_,_,.anyp p=>.anyp p
 |_,_,.list hc hz hf hl hs hn hcap hm=>.list (RepL.ofrf hf hc) hz hf hl hs hn hcap hm
 |_,_,.lcap hc hz hf hl hs hn hm=>.lcap (RepL.ofrf hf hc) hz hf hl hs hn hm
 |_,_,.agg h=>.agg (RepL.sh h)
 |_,_,.tup h=>.tup (RepL.sh h)
 |_,_,.iface h=>.iface (Rep.sh h)
 |_,_,.fn ha hb=>.fn (RepL.sh ha) (RepL.sh hb)
 |_,_,.ptr h=>.ptr h
 |_,_,.mp h=>.mp h
 |_,_,.mptr h=>.mptr h
 |_,_,.vec hv hl h=>.vec hv hl h
 |_,_,.vptr hv hl h=>.vptr hv hl h
 |_,_,.rptr hc hf hl hs=>.rptr (RepL.ofrf hf hc) hf hl hs
theorem RepL.sh {G:Gh}:∀ {x:List AV} {v:List Value},RepL (G.dn 1) x v→RepL G (AV.shL x) v
 |_,_,.nil=>.nil
 |_,_,.cons h t=>.cons (Rep.sh h) (RepL.sh t)
end

theorem Rep.shN (n:Nat):∀ {G:Gh} {x:AV} {v:Value},Rep (G.dn n) x v→Rep G (x.shN n) v:=by
 induction n with
 |zero=>intro G x v h;exact h
 |succ n ih=>
  intro G x v h;show Rep G ((x.shN n).sh) v;refine Rep.sh (ih ?_);rw[Gh.dn_dn];exact h

mutual
theorem Rep.un {G:Gh}:∀ {x:AV} {v:Value},Rep G x v→∀y,x.un=some y→Rep (G.dn 1) y v
 |_,_,.top v,y,e=>by cases e;exact .top v
 |_,_,.int k n,y,e=>by cases e;exact .int k n
 |_,_,.bool b,y,e=>by cases e;exact .bool b
 |_,_,.str s,y,e=>by cases e;exact .str s
 |_,_,.nils,y,e=>by cases e;exact .nils
 |_,_,.nilp,y,e=>by cases e;exact .nilp
 |_,_,.nilf,y,e=>by cases e;exact .nilf
 |_,_,.nili,y,e=>by cases e;exact .nili
 |_,_,.nilm,y,e=>by cases e;exact .nilm
 |_,_,.anyp p,y,e=>by cases e;exact .anyp p
 |_,_,.list hc hz hf hl hs hn hcap hm,y,e=>by cases e;exact .list (RepL.torf hf hc) hz hf hl hs hn hcap hm
 |_,_,.lcap hc hz hf hl hs hn hm,y,e=>by cases e;exact .lcap (RepL.torf hf hc) hz hf hl hs hn hm
 |_,_,.agg (l:=l) h,y,e=>by
   simp only[AV.un,Qlp]at e;obtain⟨l',e1,rfl⟩:=e;exact .agg (RepL.un h l' e1)
 |_,_,.tup (l:=l) h,y,e=>by
   simp only[AV.un,Qlp]at e;obtain⟨l',e1,rfl⟩:=e;exact .tup (RepL.un h l' e1)
 |_,_,.iface (x:=x) h,y,e=>by
   simp only[AV.un,Qlp]at e;obtain⟨l',e1,rfl⟩:=e;exact .iface (Rep.un h l' e1)
 |_,_,.fn (a:=a) (b:=b) ha hb,y,e=>by
   simp only[AV.un]at e;split at e
   ·rename_i a' b' ea eb;cases e;exact .fn (RepL.un ha a' ea) (RepL.un hb b' eb)
   ·cases e
 |.ptr l s o,_,.ptr h,y,e=>by
   cases l with
   |zero=>cases e
   |succ l=>cases e;exact .ptr h
 |.vec l s g o n q,_,.vec hv hl h,y,e=>by
   cases l with
   |zero=>cases e
   |succ l=>cases e;exact .vec hv hl h
 |.vptr l s g i o,_,.vptr hv hl h,y,e=>by
   cases l with
   |zero=>cases e
   |succ l=>cases e;exact .vptr hv hl h
 |_,_,.mp h,y,e=>by cases e;exact .mp h
 |.mptr l s,_,.mptr h,y,e=>by
   cases l with
   |zero=>cases e
   |succ l=>cases e;exact .mptr h
 |_,_,.rptr hc hf hl hs,y,e=>by cases e;exact .rptr (RepL.torf hf hc) hf hl hs
theorem RepL.un {G:Gh}:∀ {x:List AV} {v:List Value},RepL G x v→∀y,AV.unL x=some y→RepL (G.dn 1) y v
 |_,_,.nil,y,e=>by cases e;exact .nil
 |_,_,.cons (x:=x) (l:=l) h t,y,e=>by
   simp only[AV.unL]at e;split at e
   ·rename_i a' b' ea eb;cases e;exact .cons (Rep.un h a' ea) (RepL.un t b' eb)
   ·cases e
end

structure Gnew (s:Nat)(G G':Gh):Prop where
 stab:∀b o v,G.stab b o=some v→G'.stab b o=some v
 nm:∀l t b,(l=0→t≠s)→G.nm l t=some b→G'.nm l t=some b
 vg:∀l t,G.vg l t≤G'.vg l t
 vs:∀l t,G'.vg l t=G.vg l t→G'.vm l t=G.vm l t∧G'.vc l t=G.vc l t∧G'.vz l t=G.vz l t

mutual
theorem Rep.scrub {G G':Gh}{s:Nat}(hg:Gnew s G G'):∀ {x:AV} {v:Value},Rep G x v→Rep G' (x.scrub s) v
 |_,_,.top v=>.top v
 |_,_,.int k n=>.int k n
 |_,_,.bool b=>.bool b
 |_,_,.str s=>.str s
 |_,_,.nils=>.nils
 |_,_,.nilp=>.nilp
 |_,_,.nilf=>.nilf
 |_,_,.nili=>.nili
 |_,_,.nilm=>.nilm
 |_,_,.anyp p=>.anyp p
 |_,_,.list hc hz hf hl hs hn hcap hm=>.list (RepL.rfd hg.stab hf hc) hz hf hl (fun j u h=>by
   obtain⟨b,o,e,h'⟩:=hs j u h;exact⟨b,o,e,hg.stab _ _ _ h'⟩) hn hcap hm
 |_,_,.lcap hc hz hf hl hs hn hm=>.lcap (RepL.rfd hg.stab hf hc) hz hf hl (fun j u h=>by
   obtain⟨b,o,e,h'⟩:=hs j u h;exact⟨b,o,e,hg.stab _ _ _ h'⟩) hn hm
 |_,_,.agg h=>.agg (RepL.scrub hg h)
 |_,_,.tup h=>.tup (RepL.scrub hg h)
 |_,_,.iface h=>.iface (Rep.scrub hg h)
 |_,_,.fn ha hb=>.fn (RepL.scrub hg ha) (RepL.scrub hg hb)
 |.ptr l t o,_,.ptr h=>by
   cases l with
   |zero=>
    show Rep G' (bif Nat.beq t s then .top else .ptr 0 t o) _;cases hb:Nat.beq t s with
    |true=>exact .top _
    |false=>exact .ptr (hg.nm 0 t _ (fun _ e=>by subst e;simp at hb) h)
   |succ l=>exact .ptr (hg.nm _ _ _ (fun e=>kZ) h)
 |_,_,.mp h=>.mp (hg.stab _ _ _ h)
 |.mptr l t,_,.mptr h=>by
   cases l with
   |zero=>
    show Rep G' (bif Nat.beq t s then .top else .mptr 0 t) _;cases hb:Nat.beq t s with
    |true=>exact .top _
    |false=>exact .mptr (hg.nm 0 t _ (fun _ e=>by subst e;simp at hb) h)
   |succ l=>exact .mptr (hg.nm _ _ _ (fun e=>kZ) h)
 |_,_,.vec (l:=l) (s:=s) hv hl h=>.vec hv (Qll hl (hg.vg _ _)) (fun e=>by
   have h1:=hg.vg l s;obtain⟨a1,a2,a3⟩:=hg.vs l s xw;rw[a1,a2,a3];exact h xw)
 |_,_,.vptr (l:=l) (s:=s) hv hl h=>.vptr hv (Qll hl (hg.vg _ _)) (fun e=>by
   have h1:=hg.vg l s;obtain⟨a1,_,a3⟩:=hg.vs l s xw;rw[a1,a3];exact h xw)
 |_,_,.rptr hc hf hl hs=>.rptr (RepL.rfd hg.stab hf hc) hf hl (fun j u h=>hg.stab _ _ _ (hs j u h))
theorem RepL.scrub {G G':Gh}{s:Nat}(hg:Gnew s G G'):∀ {x:List AV} {v:List Value},RepL G x v→RepL G' (AV.scrubL s x) v
 |_,_,.nil=>.nil
 |_,_,.cons h t=>.cons (Rep.scrub hg h) (RepL.scrub hg t)
end

def Gh.mine (G:Gh)(b:Nat):Prop:=(∃l s,G.nm l s=some b)∨∃l s,G.vm l s=some b

def Zk (s t:Nat):Bool:=decide (s<2000)||t+2000==s

theorem PY {s t e:Nat}(h:Zk s t=true)(h':Zk s e=true)(hs:2000≤s):t=e:=by
 simp only[Zk,Qlq,Qlr,Qls]at h h';omega

def X3 (s:Nat)(w:World)(b:Nat)(cs:Array Value):Prop:=∃t lo hi,w.heap[b]? = some (.cells cs t (lo,hi))∧Zk s t=true∧∀o,o<cs.size→¬(lo≤o∧o<hi)

theorem X3.cell {s:Nat}{w:World}{b:Nat}{cs:Array Value}(h:X3 s w b cs)(i:Nat):w.cell? ⟨b,i,none⟩=cs[i]?:=by
 obtain⟨t,lo,hi,hh,_⟩:=h;exact cell_of_row w b i cs t (lo,hi) hh
theorem X3.lt {s:Nat}{w:World}{b:Nat}{cs:Array Value}(h:X3 s w b cs):b<w.heap.size:=by
 obtain⟨t,lo,hi,hh,_⟩:=h;exact(Qlt.1 hh).1
theorem X3.frozen {s:Nat}{w:World}{b:Nat}{cs:Array Value}(h:X3 s w b cs){i:Nat}(hi':i<cs.size):w.frozen? ⟨b,i,none⟩=false:=by
 obtain⟨t,lo,hi,hh,_,hf⟩:=h;have:=hf i hi';simp[World.frozen?,hh];omega
theorem X3.of {s:Nat}{w w':World}{b:Nat}{cs:Array Value}(h:X3 s w b cs)(e:w'.heap[b]? = w.heap[b]?):X3 s w' b cs:=by
 obtain⟨t,lo,hi,hh,hf⟩:=h;exact⟨t,lo,hi,e.trans hh,hf⟩
theorem X3.uniq {s s':Nat}{w:World}{b:Nat}{cs cs':Array Value}(h:X3 s w b cs)(h':X3 s' w b cs'):cs=cs':=by
 obtain⟨t,lo,hi,hh,hf⟩:=h;obtain⟨t',lo',hi',hh',hf'⟩:=h';rw[hh]at hh';cases hh';rfl
theorem X3.set {s:Nat}{w:World}{b:Nat}{cs:Array Value}(h:X3 s w b cs)(i:Nat)(v:Value):X3 s (w.setCell ⟨b,i,none⟩ v) b (cs.setIfInBounds i v):=by
 obtain⟨t,lo,hi,hh,hf⟩:=h;refine⟨t,lo,hi,?_,by simpa using hf⟩;simp[World.setCell,Array.getElem?_modify,hh]
theorem X3.new {s:Nat}(w:World)(cs:Array Value)(t:TypeId)(ht:Zk s t=true):X3 s (w.alloc (.cells cs t)) w.heap.size cs :=
 ⟨t,0,0,heap_alloc_new w _,ht,fun _ _=>xw⟩

structure RowIs (G:Gh)(s:Nat)(w:World)(b cap sz:Nat)(xs:List AV):Prop where
 cur:∃cur,X3 s w b cur∧cur.size=cap*sz∧RepL G (QP xs) (cur.toList.take (xs.length*sz))
 le:xs.length≤cap
 max:cap≤maxLen

theorem RowIs.of {G G':Gh}{s:Nat}{w w':World}{b cap sz:Nat}{xs:List AV}(h:RowIs G s w b cap sz xs)(e:w'.heap[b]? = w.heap[b]?)(hr:∀vs,RepL G (QP xs) vs→RepL G' (QP xs) vs):RowIs G' s w' b cap sz xs:=by
 obtain⟨⟨cur,hc,hz,hx⟩,hl,hm⟩:=h;exact⟨⟨cur,hc.of e,hz,hr _ hx⟩,hl,hm⟩

structure Elems (sz:Nat)(xs:List AV):Prop where
 size:∀x∈xs,x.cells.length=sz
 rf:AV.rfL (QP xs)=true
 leaf:(QP xs).all AV.leaf=true

def Ob.isRow:Ob→Bool
 |.vec .. => true
 |_=>false

def Ob.isVar:Ob→Bool
 |.cells _=>true
 |.iter .. => true
 |_=>false
theorem Ob.scrub_isVar (o:Ob)(s:Nat):(o.scrub s).isVar=o.isVar:=by cases o<;>rfl

theorem HJ {w:World}{b o:Nat}{v:SV}(h:rd w b o v):b<w.heap.size:=by
 cases v with
 |cell v=>exact World.block_lt_of_cell? w (a:=⟨b,o,none⟩) h
 |mapo es c=>exact(Qlt.1 h).1
 |siz n=>
  obtain⟨_,_,_,h,_⟩:=h;exact(Qlt.1 h).1
theorem KO {w w':World}{b o:Nat}{v:SV}(hb:w'.heap[b]? = w.heap[b]?)(h:rd w b o v):rd w' b o v:=by
 cases v with
 |cell v=>exact(World.cell?_of_block (a:=⟨b,o,none⟩) hb).trans h
 |mapo es c=>exact hb.trans h
 |siz n=>
  obtain⟨cs,t,fz,h,h2⟩:=h;exact⟨cs,t,fz,hb.trans h,h2⟩
theorem V9 {w:World}{b o:Nat}{v:SV}(h:sv w b o=some v):rd w b o v:=by
 have key:∀v,(w.cell? ⟨b,o,none⟩).map SV.cell=some v→rd w b o v:=fun v h=>by
  obtain⟨u,hc,rfl⟩:=Qlp.1 h;exact hc
 unfold sv at h;split at h
 ·cases h;assumption
 ·rename_i cs t fz hh;split at h
  ·rename_i ho;cases h;exact⟨cs,t,fz,hh,ho.symm,rfl⟩
  ·exact key v h
 ·exact key v h
theorem DH {w:World}{b o:Nat}{u:Value}(h:w.cell? ⟨b,o,none⟩=some u):sv w b o=some (.cell u):=by
 unfold sv;split
 ·rename_i hm;rw[World.cell?]at h;simp only[hm]at h;cases h
 ·rename_i cs t fz hh;rw[Qlu,h]
  ·rfl
  ·intro ho;rw[cell_of_row w b o cs t fz hh]at h;have:=(Qlt.1 h).1;omega
 ·rw[h];rfl
theorem Ca {w:World}{b o:Nat}{v:SV}(h:rd w b o v):sv w b o=some v:=by
 cases v with
 |cell v=>exact DH h
 |mapo es c=>
  have h:w.heap[b]? = some (.map es c):=h;unfold sv;rw[h]
 |siz n=>
  obtain⟨cs,t,fz,h,h2,h3⟩:=h;unfold sv;rw[h];dsimp only;rw[Qlv xw,h3]

structure MR (G:Gh)(m:Qk)(w:World):Prop where
 stab:∀b o v,G.stab b o=some v→rd w b o v
 cells:∀l s xs,Qc m l s=.cells xs→∃b cs,G.nm l s=some b∧X3 s w b cs∧RepL (G.dn l) xs cs.toList
 nm:∀l s b,G.nm l s=some b→(Qc m l s).isVar=true∧∀o,G.stab b o=none
 vec:∀l s g sz xs,Qc m l s=.vec g sz xs→G.vg l s=g∧G.vz l s=sz∧Elems sz xs∧((G.vm l s=none∧xs=[])∨∃b,G.vm l s=some b∧RowIs G s w b (G.vc l s) sz xs)
 vm:∀l s b,G.vm l s=some b→(∃g sz xs,Qc m l s=.vec g sz xs)∧∀o,G.stab b o=none
 gone:∀l s,(Qc m l s).isRow=false→G.vg l s=0
 inj1:∀l s l' s' b,G.nm l s=some b→G.nm l' s'=some b→l=l'∧s=s'
 inj2:∀l s l' s' b,G.vm l s=some b→G.vm l' s'=some b→l=l'∧s=s'
 inj3:∀l s l' s' b,G.nm l s=some b→G.vm l' s'≠some b
 iter:∀l s t p,Qc m l s=.iter t p→∃b,G.nm l s=some b∧w.heap[b]? = some (t.obj p)

theorem MR.mine {G:Gh}{m:Qk}{w:World}(h:MR G m w){b:Nat}(hb:G.mine b):b<w.heap.size∧∀o,G.stab b o=none:=by
 rcases hb with⟨l,s,e⟩|⟨l,s,e⟩
 ·obtain⟨hx,hs⟩:=h.nm l s b e;cases hl:Qc m l s with
  |cells xs=>
   obtain⟨b',cs,e',hc,_⟩:=h.cells l s xs hl;rw[e]at e';cases e';exact⟨hc.lt,hs⟩
  |iter t p=>
   obtain⟨b',e',hh⟩:=h.iter l s t p hl;rw[e]at e';cases e';exact⟨(Qlt.1 hh).1,hs⟩
  |none=>rw[hl]at hx;cases hx
  |vec g z xs=>rw[hl]at hx;cases hx
 ·obtain⟨⟨g,sz,xs,hx⟩,hs⟩:=h.vm l s b e;obtain⟨_,_,_,hv⟩:=h.vec l s g sz xs hx;rcases hv with⟨e',_⟩|⟨b',e',hr⟩
  ·rw[e]at e';cases e'
  ·rw[e]at e';cases e';obtain⟨cur,hc,_⟩:=hr.cur;exact⟨hc.lt,hs⟩

structure Ext (k:Nat)(G:Gh)(w:World)(G':Gh)(w':World):Prop where
 os:w'.os=w.os
 tape:w'.tape=w.tape
 output:w'.output=w.output
 size:w.heap.size≤w'.heap.size
 stab:∀b o v,G.stab b o=some v→G'.stab b o=some v
 nm:∀l s,k≤l→G'.nm l s=G.nm l s
 vg:∀l s,G.vg l s≤G'.vg l s
 vs:∀l s,G'.vg l s=G.vg l s→G'.vm l s=G.vm l s∧G'.vc l s=G.vc l s∧G'.vz l s=G.vz l s
 old:∀b,b<w.heap.size→¬G.mine b→w'.heap[b]? = w.heap[b]?∧∀o,G'.stab b o=G.stab b o
 mine:∀b,G'.mine b→G.mine b∨w.heap.size≤b
 mv:∀l s b,G'.vm l s=some b→(∃i t,i≤l∧G.vm i t=some b)∨w.heap.size≤b

theorem Ext.refl (k:Nat)(G:Gh)(w:World):Ext k G w G w :=
 ⟨rfl,rfl,rfl,Qlk _,fun _ _ _ h=>h,fun _ _ _=>rfl,fun _ _=>Qlk _,fun _ _ _=>⟨rfl,rfl,rfl⟩,fun _ _ _=>⟨rfl,fun _=>rfl⟩,fun _ h=>.inl h,fun l s _ h=>.inl ⟨l,s,Qlk _,h⟩⟩

theorem Ext.trans {k:Nat}{G G1 G2:Gh}{w w1 w2:World}(h:Ext k G w G1 w1)(j:Ext k G1 w1 G2 w2):Ext k G w G2 w2 where
 os:=j.os.trans h.os
 tape:=j.tape.trans h.tape
 output:=j.output.trans h.output
 size:=Qll h.size j.size
 stab _ _ _ e:=j.stab _ _ _ (h.stab _ _ _ e)
 nm l s hl:=(j.nm l s hl).trans (h.nm l s hl)
 vg l s:=Qll (h.vg l s) (j.vg l s)
 vs l s e:=by
  have h1:=h.vg l s;have h2:=j.vg l s;obtain⟨a1,a2,a3⟩:=h.vs l s xw;obtain⟨b1,b2,b3⟩:=j.vs l s xw;exact⟨b1.trans a1,b2.trans a2,b3.trans a3⟩
 old b hb hm:=by
  obtain⟨a1,a2⟩:=h.old b hb hm;have hm1:¬G1.mine b:=fun hx=>by
   rcases h.mine b hx with h'|h'
   ·exact hm h'
   ·omega
  obtain⟨b1,b2⟩:=j.old b (Qlw hb h.size) hm1;exact⟨b1.trans a1,fun o=>(b2 o).trans (a2 o)⟩
 mine:=fun b hb=>by
  rcases j.mine b hb with h'|h'
  ·exact h.mine b h'
  ·exact .inr (Qll h.size h')
 mv:=fun l s b hb=>by
  rcases j.mv l s b hb with⟨i,t,hi,h'⟩|h'
  ·rcases h.mv i t b h' with⟨i',t',hi',h''⟩|h''
   ·exact .inl ⟨i',t',Qll hi' hi,h''⟩
   ·exact .inr h''
  ·exact .inr (Qll h.size h')

theorem Ext.mono {k k':Nat}{G G':Gh}{w w':World}(h:Ext k G w G' w')(hk:k≤k'):Ext k' G w G' w' :=
 { h with nm:=fun l s hl=>h.nm l s (Qll hk hl) }

theorem Ext.gle {G G':Gh}{w w':World}(h:Ext 0 G w G' w'):Gle G G' :=
 ⟨h.stab,fun l s _ e=>(h.nm l s (Qlx _)).trans e,h.vg,h.vs⟩

inductive RepD (G:Gh):DF→Deferred→Prop
 |mk {fn:Fn} {cap args:List AV} {vc va:List Value} (hc:RepL G cap vc) (ha:RepL G args va):RepD G ⟨fn,cap,args⟩ { target:=.fn fn ⟨vc⟩,args:=⟨va⟩ }
inductive RepDs (G:Gh):List DF→List Deferred→Prop
 |nil:RepDs G [] []
 |cons {d:DF} {v:Deferred} {l:List DF} {vs:List Deferred} (h:RepD G d v) (t:RepDs G l vs):RepDs G (d :: l) (v :: vs)

theorem RepDs.mono {G G':Gh}(hg:Gle G G'){l:List DF}{vs:List Deferred}(h:RepDs G l vs):RepDs G' l vs:=by
 induction h with
 |nil=>exact .nil
 |cons h _ ih=>cases h with|mk hc ha=>exact .cons (.mk (hc.mono hg) (ha.mono hg)) ih

theorem RepDs.scrub {G G':Gh}{s:Nat}(hg:Gnew s G G'){l:List DF}{vs:List Deferred}(h:RepDs G l vs):RepDs G' (l.map (DF.scrub s)) vs:=by
 induction h with
 |nil=>exact .nil
 |cons h _ ih=>cases h with|mk hc ha=>exact .cons (.mk (hc.scrub hg) (ha.scrub hg)) ih

structure Rel (G:Gh)(B N:Nat)(st:St)(a:Act)(w:World):Prop where
 mr:MR G st.m w
 size:a.tmps.size=N
 slots:∀i,Rep G (st.f i) (a.tmps.getD i undef)
 ds:RepDs G st.ds a.defers
 base:∀s b,G.nm 0 s=some b∨G.vm 0 s=some b→B≤b
 top:B≤w.heap.size
 ne:st.m≠[]

theorem MR.drew {G:Gh}{m:Qk}{w:World}(h:MR G m w):MR G m w.drew:=⟨h.stab,h.cells,h.nm,fun l s g sz xs e=>by
  obtain⟨a,b,c,d⟩:=h.vec l s g sz xs e;exact⟨a,b,c,d.imp id fun⟨b',e',r⟩=>⟨b',e',r.of rfl fun _ h=>h⟩⟩,h.vm,h.gone,h.inj1,h.inj2,h.inj3,h.iter⟩
theorem Rel.drew {G:Gh}{B N:Nat}{st:St}{a:Act}{w:World}(h:Rel G B N st a w):Rel G B N st a w.drew :=
 ⟨h.mr.drew,h.size,h.slots,h.ds,h.base,h.top,h.ne⟩
theorem Ext.drew {k:Nat}(G:Gh)(w:World):Ext k G w G w.drew :=
 ⟨rfl,rfl,rfl,Qlk _,fun _ _ _ h=>h,fun _ _ _=>rfl,fun _ _=>Qlk _,fun _ _ _=>⟨rfl,rfl,rfl⟩,fun _ _ _=>⟨rfl,fun _=>rfl⟩,fun _ h=>.inl h,fun l s _ h=>.inl ⟨l,s,Qlk _,h⟩⟩

def Ql (f:Fr)(d:Option Nat)(x:AV):Fr :=
 match d with
 |some d=>QJ f d x
 |none=>f

theorem Act.put_size (a:Act)(d:Option Tmp)(v:Value):(a.put d v).tmps.size=a.tmps.size:=by
 cases d<;>simp[Act.put]
theorem Act.put_defers' (a:Act)(d:Option Tmp)(v:Value):(a.put d v).defers=a.defers:=by
 cases d<;>rfl

theorem TG {G:Gh}{f:Fr}{a:Act}(hs:∀i,Rep G (f i) (a.tmps.getD i undef)){d:Option Nat}(hd:∀k,d=some k→k<a.tmps.size){x:AV}{v:Value}(hx:Rep G x v) :
  ∀i,Rep G (Ql f d x i) ((a.put d v).tmps.getD i undef):=by
 intro i;cases d with
 |none=>exact hs i
 |some d=>
  have hlt:=hd d rfl;by_cases hi:i=d
  ·subst hi;simp only[Ql,QZ,Act.put,Qly,Qlz]
   simpa [hlt]using hx
  ·simp only[Ql,Q6 _ _ hi,Act.put,Qly];rw[Array.getElem?_setIfInBounds_ne (fun e=>hi e.symm)]
   simpa [Qly]using hs i

theorem Rel.put {G:Gh}{B N:Nat}{st:St}{a:Act}{w:World}(h:Rel G B N st a w){d:Option Nat}(hd:∀k,d=some k→k<N){x:AV}{v:Value}(hx:Rep G x v) :
  Rel G B N { st with f:=Ql st.f d x } (a.put d v) w :=
 ⟨h.mr,by rw[Act.put_size];exact h.size,TG h.slots (by rw[h.size];exact hd) hx,by rw[Act.put_defers'];exact h.ds,h.base,h.top,h.ne⟩

theorem Qs {m:Qk}{l s:Nat}{o:Ob}(h:l<m.length):Qc (Am.put m l s o) l s=o:=by
 induction m generalizing l with
 |nil=>simp at h
 |cons fr m ih=>
  cases l with
  |zero=>exact QZ _ _ _
  |succ l=>exact ih xQ
theorem QE {m:Qk}{l s l' s':Nat}{o:Ob}(h:l'≠l∨s'≠s):Qc (Am.put m l s o) l' s'=Qc m l' s':=by
 induction m generalizing l l' with
 |nil=>rfl
 |cons fr m ih=>
  cases l with
  |zero=>
   cases l' with
   |zero=>exact Q6 _ _ xQ
   |succ l'=>rfl
  |succ l=>
   cases l' with
   |zero=>rfl
   |succ l'=>exact ih xQ
theorem Xm {m:Qk}{l s:Nat}(h:Qc m l s≠.none):l<m.length:=by
 induction m generalizing l with
 |nil=>exact absurd rfl h
 |cons fr m ih=>
  cases l with
  |zero=>simp
  |succ l=>have:=ih (l:=l) h;simp;omega
theorem Wi {m:Qk}{l s:Nat}{o:Ob}(h:m≠[]):Am.put m l s o≠[]:=by
 cases m with
 |nil=>exact absurd rfl h
 |cons fr m=>cases l<;>simp[Am.put]

theorem XV (b o i:Nat):(⟨b,o,none⟩:Addr).add i=⟨b,o+i,none⟩:=by
 unfold Addr.add;split
 ·rename_i h;subst h;rfl
 ·rfl

def AV.shNL:Nat→List AV→List AV
 |0,x=>x
 |n+1,x=>AV.shL (AV.shNL n x)

theorem RepL.shNL (n:Nat):∀ {G:Gh} {x:List AV} {v:List Value},RepL (G.dn n) x v→RepL G (AV.shNL n x) v:=by
 induction n with
 |zero=>intro G x v h;exact h
 |succ n ih=>
  intro G x v h;show RepL G (AV.shL (AV.shNL n x)) v;refine RepL.sh (ih ?_);rw[Gh.dn_dn];exact h

def AV.unNL:Nat→List AV→Option (List AV)
 |0,x=>some x
 |n+1,x=>(AV.unL x).bind (AV.unNL n)

theorem RepL.unNL (n:Nat):∀ {G:Gh} {x y:List AV} {v:List Value},RepL G x v→AV.unNL n x=some y→RepL (G.dn n) y v:=by
 induction n with
 |zero=>intro G x y v h e;cases e;exact h
 |succ n ih=>
  intro G x y v h e;simp only[AV.unNL,Option.bind_eq_some_iff]at e;obtain⟨z,e1,e2⟩:=e;have:=ih (h.un z e1) e2;rw[Gh.dn_dn]at this;exact this

theorem Rep.cells_leaf {G:Gh}{x:AV}{v:Value}(h:Rep G x v)(hl:x.leaf=true):v.cells = #[v]:=by
 have:=h.leaf hl;cases v<;>first|rfl|(simp[Value.oneCell']at this)

theorem Rep.cells {G:Gh}{x:AV}{v:Value}(h:Rep G x v)(hl:x.cells.all AV.leaf=true):RepL G x.cells v.cells.toList:=by
 cases h with
 |agg h=>exact h
 |top=>simp[AV.cells,AV.leaf]at hl
 |tup=>simp[AV.cells,AV.leaf]at hl
 |vec hv hg h=>
  have e:=Rep.cells_leaf (Rep.vec hv hg h) rfl;rw[e];exact .cons (.vec hv hg h) .nil
 |vptr hv hg h=>
  have e:=Rep.cells_leaf (Rep.vptr hv hg h) rfl;rw[e];exact .cons (.vptr hv hg h) .nil
 |int=>exact .cons (.int _ _) .nil
 |bool=>exact .cons (.bool _) .nil
 |str=>exact .cons (.str _) .nil
 |nils=>exact .cons .nils .nil
 |nilp=>exact .cons .nilp .nil
 |nilf=>exact .cons .nilf .nil
 |nili=>exact .cons .nili .nil
 |nilm=>exact .cons .nilm .nil
 |anyp p=>exact .cons (.anyp p) .nil
 |list a b c d e f g i=>exact .cons (.list a b c d e f g i) .nil
 |lcap a b c d e f g=>exact .cons (.lcap a b c d e f g) .nil
 |iface h=>exact .cons (.iface h) .nil
 |fn a b=>exact .cons (.fn a b) .nil
 |ptr h=>exact .cons (.ptr h) .nil
 |mp h=>exact .cons (.mp h) .nil
 |mptr h=>exact .cons (.mptr h) .nil
 |rptr a b c d=>exact .cons (.rptr a b c d) .nil

theorem RepL.leaves {G:Gh}{l:List AV}{vs:List Value}(h:RepL G l vs)(hl:l.all AV.leaf=true):∀v∈vs,v.oneCell'=true:=by
 intro v hv;obtain⟨i,hi⟩:=QlA.1 hv;obtain⟨x,hx,r⟩:=h.back hi;exact r.leaf (QlB.1 hl x (QlC hx))

structure Turned (b:Nat)(w w':World):Prop where
 os:w'.os=w.os
 tape:w'.tape=w.tape
 output:w'.output=w.output
 size:w'.heap.size=w.heap.size
 heap:∀k,k≠b→w'.heap[k]? = w.heap[k]?

theorem Turned.refl (b:Nat)(w:World):Turned b w w:=⟨rfl,rfl,rfl,rfl,fun _ _=>rfl⟩
theorem Turned.trans {b:Nat}{w w1 w2:World}(h:Turned b w w1)(j:Turned b w1 w2):Turned b w w2 :=
 ⟨j.os.trans h.os,j.tape.trans h.tape,j.output.trans h.output,j.size.trans h.size,fun k hk=>(j.heap k hk).trans (h.heap k hk)⟩
theorem Turned.set (w:World)(b i:Nat)(v:Value):Turned b w (w.setCell ⟨b,i,none⟩ v) :=
 ⟨rfl,rfl,rfl,xA,fun k hk=>by
  simp only[World.setCell,Array.getElem?_modify];rw[Qlu (fun e=>hk e.symm)]⟩
theorem Turned.cell {b:Nat}{w w':World}(h:Turned b w w'){k:Nat}(hk:k≠b)(o:Nat):w'.cell? ⟨k,o,none⟩=w.cell? ⟨k,o,none⟩ :=
 World.cell?_of_block (a:=⟨k,o,none⟩) (h.heap k hk)

theorem ZL (P:Program)(s b off:Nat):∀(vs:List Value) (i:Nat) (w:World) (cur:Array Value),X3 s w b cur→off+i+vs.length≤cur.size→(∀v∈vs,v.oneCell'=true)→
  ∃w',(storeCells ⟨b,off,none⟩ vs i).run P w=.ok () w'∧X3 s w' b (cur.toList.take (off+i)++vs++cur.toList.drop (off+i+vs.length)).toArray∧Turned b w w'
 | [],i,w,cur,hc,hf,h1=>⟨w,rfl,vi,Turned.refl b w⟩
 |v :: vs,i,w,cur,hc,hf,h1=>by
  simp only[QlD]at hf;obtain⟨w',hr,hs,ht⟩:=ZL P s b off vs (i+1) (w.setCell ⟨b,off+i,none⟩ v) (cur.setIfInBounds (off+i) v) (hc.set (off+i) v) xD (fun u hu=>h1 u (QlE _ hu));refine⟨w',?_,?_,(Turned.set w b (off+i) v).trans ht⟩
  ·have hcell:w.cell? ⟨b,off+i,none⟩=some (cur[off+i]' xw):=by rw[hc.cell];exact QlF _
   have hfr:w.frozen? ⟨b,off+i,none⟩=false:=hc.frozen xw;simp only[storeCells,XV,Sem.run_bind,run_store P w _ v _ (h1 v (QlG ..)),hcell,hfr,QlH,if_false,Result.andThen_ok];exact hr
  ·have e:((cur.setIfInBounds (off+i) v).toList.take (off+(i+1))++vs++(cur.setIfInBounds (off+i) v).toList.drop (off+(i+1)+vs.length))=cur.toList.take (off+i)++(v :: vs)++cur.toList.drop (off+i+(vs.length+1)):=by
    rw[Array.toList_setIfInBounds];have hlt:off+i<cur.toList.length:=xD
    rw[show off+(i+1)=off+i+1 by omega,QlI qr];rw[List.drop_set_of_lt xw,List.take_set_of_le (Qlk _)];simp only[List.getElem_set_self,QlJ,QlK,QlL];congr 4
    omega
   rw[e]at hs;exact hs

def splice (xs:List AV)(o:Nat)(ys:List AV):List AV:=xs.take o++ys++xs.drop (o+ys.length)

theorem Gx {xs ys:List AV}{o:Nat}(h:o+ys.length≤xs.length):(splice xs o ys).length=xs.length:=by
 simp[splice];omega

theorem RepL.splice {G:Gh}{xs ys:List AV}{vs us:List Value}(h:RepL G xs vs)(h':RepL G ys us)(o:Nat):RepL G (splice xs o ys) (vs.take o++us++vs.drop (o+us.length)):=by
 rw[h'.length];exact((h.take o).append h').append (h.drop _)

theorem MR.stored {G:Gh}{m:Qk}{w w':World}(h:MR G m w){l s b:Nat}{xs:List AV}(hx:Qc m l s=.cells xs)(hb:G.nm l s=some b)(ht:Turned b w w'){ys:List AV}{cs:Array Value}(hs:X3 s w' b cs)(hy:RepL (G.dn l) ys cs.toList) :
  MR G (Am.put m l s (.cells ys)) w' where
 stab k o v e:=by
  exact yl
 cells l' s' zs e:=by
  by_cases hh:l'=l∧s'=s
  ·obtain⟨rfl,rfl⟩:=hh;rw[Qs (Xm kg)]at e;cases e;exact⟨b,cs,hb,hs,hy⟩
  ·exact zB
 nm l' s' b' e:=by
  obtain⟨hz,h2⟩:=h.nm l' s' b' e;refine⟨?_,h2⟩;by_cases hh:l'=l∧s'=s
  ·obtain⟨rfl,rfl⟩:=hh;rw[Qs (Xm kg)];rfl
  ·rw[QE xw];exact hz
 vec l' s' g sz zs e:=by
  exact oU
 vm l' s' b' e:=by
  obtain⟨⟨g,sz,zs,hz⟩,h2⟩:=h.vm l' s' b' e;refine⟨?_,h2⟩;by_cases hh:l'=l∧s'=s
  ·obtain⟨rfl,rfl⟩:=hh;rw[hx]at hz;cases hz
  ·exact⟨g,sz,zs,qm⟩
 gone l' s' e:=by
  exact zY
 inj1:=h.inj1
 inj2:=h.inj2
 inj3:=h.inj3
 iter l' s' t p e:=by
  by_cases hh:l'=l∧s'=s
  ·obtain⟨rfl,rfl⟩:=hh;rw[Qs (Xm kg)]at e;cases e
  ·rw[QE xw]at e;obtain⟨b',e',hc⟩:=h.iter l' s' t p e;exact yy

theorem Ext.turned {k:Nat}{G:Gh}{w w':World}{b:Nat}(ht:Turned b w w')(hm:G.mine b):Ext k G w G w' :=
 ⟨ht.os,ht.tape,ht.output,by rw[ht.size];exact Qlk _,fun _ _ _ h=>h,fun _ _ _=>rfl,fun _ _=>Qlk _,fun _ _ _=>⟨rfl,rfl,rfl⟩,
  fun b' _ hn=>⟨ht.heap b' (fun e=>hn (e▸hm)),fun _=>rfl⟩,fun _ h=>.inl h,fun l s _ h=>.inl ⟨l,s,Qlk _,h⟩⟩

theorem Bc {m:Qk}{s t:Nat}:Qc (YD s m) 0 t=(Qc m 0 t).scrub s:=by
 cases m<;>rfl
theorem Bd {m:Qk}{s l t:Nat}:Qc (YD s m) (l+1) t=Qc m (l+1) t:=by
 cases m<;>rfl
theorem Vr {m:Qk}{s:Nat}(h:m≠[]):YD s m≠[]:=by
 cases m with
 |nil=>exact absurd rfl h
 |cons fr m=>simp[YD]
theorem Ob.scrub_cells {o:Ob}{s:Nat}{xs:List AV}(h:o.scrub s=.cells xs):∃ys,o=.cells ys∧xs=AV.scrubL s ys:=by
 cases o<;>simp[Ob.scrub]at h;exact⟨_,rfl,h.symm⟩
theorem Ob.scrub_iter {o:Ob}{s p:Nat}{t:IT}(h:o.scrub s=.iter t p):o=.iter t p:=by
 cases o<;>simp[Ob.scrub]at h;obtain⟨rfl,rfl⟩:=h;rfl
theorem Ob.scrub_vec {o:Ob}{s g sz:Nat}{xs:List AV}(h:o.scrub s=.vec g sz xs):o=.vec g sz xs:=by
 cases o<;>simp[Ob.scrub]at h;obtain⟨rfl,rfl,rfl⟩:=h;rfl

def Gh.fresh (G:Gh)(s b:Nat):Gh :=
 { G with nm:=fun l t=>if l=0∧t=s then some b else G.nm l t }

def HK (m:Qk)(s:Nat):Bool :=
 match Qc m 0 s with
 |.vec .. => false
 |_=>true

inductive RA where
 |t (n:Nat)
 |c (x:AV)
 |f (k:FuncId)
 |g (k:Nat) (l:List AV)

def RA.ev (f:Fr):RA→AV
 |.t n=>f n
 |.c x=>x
 |.f k=>.fn (.func k) [] []
 |.g _ l=>.rptr l

inductive Ty where
 |num|str|bool|ptr|iface|other
 deriving DecidableEq

inductive VO where
 |mov (x:RA)
 |pick (c a b:RA)
 |build (z:List AV) (ps:List (Nat×Nat×RA))
 |load (k:Option Nat) (x:RA)
 |loadv (l s:Nat) (k:Option Nat) (x:RA)
 |loado (k:Option Nat) (x:RA)
 |nilck (x:RA)
 |bin (ty:Ty) (op:BinOp) (x y:RA)
 |eqs (neg:Bool) (ks:List Ty) (x y:RA)
 |un (op:UnOp) (x:RA)
 |cvi (k:IntKind) (x:RA)
 |b2s (x:RA)
 |slc (sz:Option Nat) (x:RA) (lo hi mx:Option RA)
 |slcl (x hi mx:RA)
 |faddr (off:Nat) (x:RA)
 |fld (off:Nat) (k:Option Nat) (x:RA)
 |iaddr (sz:Nat) (len:Option Nat) (x i:RA)
 |idx (x i:RA)
 |ext (x:RA) (i:Nat)
 |len (k:Nat) (x:RA)
 |mnx (mx:Bool) (x y:RA)
 |mkfn (f:Fn) (first cap:List RA)
 |loadr (k:Option Nat) (x:RA)
 |toU (x:RA)
 |ofU (t n:Nat) (x:RA)
 |same (x:RA)
 |mget (t ok:Bool) (z:AV) (x i:RA)
 |mgetp (t ok:Bool) (z:AV) (x i:RA)
 |mki (t:Nat) (x:RA)
 |tas (t:Nat) (ok:Bool) (z:AV) (x:RA)
 |slcp (sz:Option Nat) (x:RA) (lo hi mx:Option RA)

def Xu (op:BinOp)(k:IntKind)(a b:Int):Option AV :=
 match op with
 |.add=>some (.int k (k.wrap (a+b)))
 |.sub=>some (.int k (k.wrap (a-b)))
 |.mul=>some (.int k (k.wrap (a*b)))
 |.quo=>if b=0 then none else some (.int k (k.wrap (a.tdiv b)))
 |.rem=>if b=0 then none else some (.int k (a.tmod b))
 |.and=>some (.int k (bits .and k a b))
 |.or=>some (.int k (bits .or k a b))
 |.xor=>some (.int k (bits .xor k a b))
 |.andNot=>some (.int k (bits .andNot k a b))
 |.eql=>some (.bool (a==b))
 |.neq=>some (.bool (a != b))
 |.lss=>some (.bool (a<b))
 |.leq=>some (.bool (a≤b))
 |.gtr=>some (.bool (b<a))
 |.geq=>some (.bool (b≤a))
 |_=>none

def QS (op:BinOp)(a b:List UInt8):Option AV :=
 match op with
 |.add=>if a.length+b.length≤9223372036854775807 then some (.str (a++b))else none
 |.eql=>some (.bool (a==b))
 |.neq=>some (.bool (!(a==b)))
 |.lss=>some (.bool (Op.bytesLess a b))
 |.leq=>some (.bool (Op.bytesLess a b||a==b))
 |.gtr=>some (.bool (!(Op.bytesLess a b||a==b)))
 |.geq=>some (.bool (!Op.bytesLess a b))
 |_=>none

def Xc (ty:Ty)(op:BinOp)(x y:AV):Option AV :=
 match x,y with
 |.int k a,.int k' b=>
  match op with
  |.shl=>if 0≤b then some (.int k (k.wrap (a*2 ^ (min b.toNat k.bits))))else none
  |.shr=>if 0≤b then some (.int k (a.fdiv (2 ^ (min b.toNat k.bits))))else none
  |op=>if k=k' then Xu op k a b else none
 |.str a,.str b=>QS op a b
 |.bool a,.bool b=>
  match ty,op with
  |.bool,.eql=>some (.bool (a==b))
  |.bool,.neq=>some (.bool (!(a==b)))
  |_,_=>none
 |.nilp,.nilp=>
  match ty,op with
  |.ptr,.eql=>some (.bool true)
  |.ptr,.neq=>some (.bool false)
  |_,_=>none
 |.ptr _ _ _,.nilp=>
  match ty,op with
  |.ptr,.eql=>some (.bool false)
  |.ptr,.neq=>some (.bool true)
  |_,_=>none
 |.ptr l s o,.ptr l' s' o'=>
  if l=l'∧s=s'∧o=o' then
   match ty,op with
   |.ptr,.eql=>some (.bool true)
   |.ptr,.neq=>some (.bool false)
   |_,_=>none
  else none
 |_,_=>none

def Be:Ty→AV→AV→Option Bool
 |.num,.int k a,.int k' b=>if k=k' then some (a==b)else none
 |.bool,.bool a,.bool b=>some (a==b)
 |.str,.str a,.str b=>some (a==b)
 |_,_,_=>none

def Fg:List Ty→List AV→List AV→Option Bool
 | [],[],[]=>some true
 |t :: ts,x :: l,y :: r=>match Be t x y,Fg ts l r with
  |some a,some b=>some (a&&b)
  |_,_=>none
 |_,_,_=>none

def GH (op:UnOp)(x:AV):Option AV :=
 match op,x with
 |.neg,.int k n=>some (.int k (k.wrap (0-n)))
 |.xor,.int k n=>some (.int k (bits .xor k (if k.signed then -1 else k.max) n))
 |.not,.bool b=>some (.bool (!b))
 |_,_=>none

def fill (f:Fr):List (Nat×Nat×RA)→List AV→Option (List AV)
 | [],z=>some z
 |(o,n,x) :: ps,z=>
  if (x.ev f).cells.length=n∧o+n≤z.length∧(x.ev f).cells.all AV.leaf=true then fill f ps (splice z o (x.ev f).cells)else none

def bytesOf:List AV→Option (List UInt8)
 | []=>some []
 |.int .u8 n :: l=>(bytesOf l).map (UInt8.ofNat n.toNat :: ·)
 |_ :: _=>none

def Q1 (m:Qk):AV→Option (List AV)
 |.nils=>some []
 |.list l=>some l
 |.vec l s g o n _=>match Qc m l s with
  |.vec g' _ xs=>if g=g'∧o+n≤xs.length then some ((xs.drop o).take n)else none
  |_=>none
 |_=>none

def Js (f:Fr)(d:Nat):Option RA→Option Nat
 |none=>some d
 |some r=>match r.ev f with
  |.int _ n=>if 0≤n then some n.toNat else none
  |_=>none

def Xo (m:Qk)(sz:Option Nat)(x:AV)(lo hi:Nat)(mx:Option Nat):Option AV :=
 match sz with
 |none=>match x with
  |.str s=>match mx with
   |none=>if lo≤hi∧hi≤s.length then some (.str ((s.drop lo).take (hi-lo)))else none
   |some _=>none
  |_=>none
 |some z=>match x with
  |.nils=>if lo=0∧hi=0∧mx.getD 0=0 then some .nils else none
  |.list l=>if lo≤hi∧hi≤mx.getD l.length∧mx.getD l.length≤l.length∧(lo=0∨l.all (fun e=>e.cells.length==z)=true)then some (.list ((l.drop lo).take (hi-lo)))else none
  |.vec l s g o n q=>match Qc m l s with
   |.vec g' z' _=>if g=g'∧z=z'∧lo≤hi∧hi≤mx.getD n∧mx.getD n≤n then some (.vec l s g (o+lo) (hi-lo) (q||mx.isSome))else none
   |_=>none
  |_=>none

def Jc:AV→Option Nat
 |.str s=>some s.length
 |.nils|.nilm=>some 0
 |.list l=>some l.length
 |.vec _ _ _ _ n _=>some n
 |_=>none

def part (l:List AV)(o:Nat):Option Nat→Option AV
 |none=>l[o]?
 |some k=>if o+k≤l.length then some (.agg ((l.drop o).take k))else none

def YT (m:Qk)(l s:Nat):Option Nat :=
 match Qc m l s with
 |.vec g _ _=>some g
 |_=>none

def Xn (m:Qk)(k:Option Nat):AV→Option AV
 |.ptr l s o=>match Qc m l s with
  |.cells xs=>match k with
   |none=>match xs[o]? with
    |some x=>some (x.shN l)
    |none=>none
   |some k=>if o+k≤xs.length then some (.agg (AV.shNL l ((xs.drop o).take k)))else none
  |_=>none
 |.vptr l s g i o=>match Qc m l s with
  |.vec g' _ xs=>if g=g' then match xs[i]? with
    |some e=>part e.cells o k
    |none=>none
   else none
  |_=>none
 |.rptr xs=>part xs 0 k
 |_=>none

def Qf (m:Qk)(sz:Nat)(len:Option Nat)(x:AV)(i:Int):Option AV :=
 if 0≤i then
  match len with
  |none=>match x with
   |.list l=>match l[i.toNat]? with
    |some e=>if e.cells.length=sz then some (.rptr e.cells)else none
    |none=>none
   |.vec l s g o n _=>match Qc m l s with
    |.vec g' sz' _=>if g=g'∧sz=sz'∧i.toNat<n then some (.vptr l s g (o+i.toNat) 0)else none
    |_=>none
   |_=>none
  |some n=>match x with
   |.ptr l s o=>if i.toNat<n then some (.ptr l s (o+i.toNat*sz))else none
   |.rptr xs=>if i.toNat<n then some (.rptr (xs.drop (i.toNat*sz)))else none
   |_=>none
 else none

def KP (m:Qk):AV→Option (List MK×List AV)
 |.mp ks vs=>some (ks,vs)
 |.mptr l s=>match Qc m l s with
  |.iter (.mp ks vs) _=>some (ks,vs)
  |_=>none
 |_=>none
def K5:Bool→AV→Option MK
 |true,.str l=>some (.s l)
 |false,.int .i64 n=>some (.n n)
 |_,_=>none
def keys (t:Bool)(ks:List MK):Bool:=ks.all fun k=>k.t==t
def Kd (k:MK):List MK→List AV→Option AV
 |k' :: ks,v :: vs=>bif k.eq k' then some v else Kd k ks vs
 |_,_=>none
def Zn (k:MK)(x:AV):List MK→List AV→List MK×List AV
 |k' :: ks,v :: vs=>bif k.eq k' then(k' :: ks,x :: vs)else(k' :: (Zn k x ks vs).1,v :: (Zn k x ks vs).2)
 |_,_=>([k],[x])

def Qx (f:Fr)(m:Qk):VO→Option AV
 |.mov x=>some (x.ev f)
 |.pick c a b=>match c.ev f with
  |.bool t=>some (bif t then a.ev f else b.ev f)
  |_=>none
 |.build z ps=>(fill f ps z).map .agg
 |.load k x=>Xn m k (x.ev f)
 |.loado k x=>match x.ev f with
  |.ptr (l+1) s o=>Xn m k (.ptr (l+1) s o)
  |_=>none
 |.loadv l s k x=>match x.ev f with
  |.ptr l' s' o=>if l'=l∧s'=s then Xn m k (.ptr l' s' o)else none
  |_=>none
 |.loadr k x=>match x.ev f with
  |.rptr xs=>Xn m k (.rptr xs)
  |.vptr l s g i o=>Xn m k (.vptr l s g i o)
  |_=>none
 |.nilck x=>match x.ev f with
  |.ptr l s o=>some (.ptr l s o)
  |.vptr l s g i o=>if YT m l s=some g then some (.vptr l s g i o)else none
  |.rptr xs=>some (.rptr xs)
  |.fn (.func k) a b=>some (.fn (.func k) a b)
  |_=>none
 |.bin ty op x y=>Xc ty op (x.ev f) (y.ev f)
 |.eqs neg ks x y=>match x.ev f,y.ev f with
  |.agg a,.agg b=>match Fg ks a b with
   |some r=>some (.bool (bif neg then !r else r))
   |none=>none
  |_,_=>none
 |.un op x=>GH op (x.ev f)
 |.cvi k x=>match x.ev f with
  |.int _ n=>some (.int k (k.wrap n))
  |_=>none
 |.b2s x=>match Q1 m (x.ev f)with
  |some l=>(bytesOf l).map .str
  |none=>none
 |.slcl x hi mx=>match x.ev f with
  |.list l=>match hi.ev f with
   |.int _ a=>match mx.ev f with
    |.int _ b=>if a=(l.length:Int)∧b=(l.length:Int)then some (.lcap l)else none
    |_=>none
   |_=>none
  |_=>none
 |.slc sz x lo hi mx=>match Jc (x.ev f),Js f 0 lo with
  |some n,some a=>match Js f n hi with
   |some b=>match mx with
    |none=>Xo m sz (x.ev f) a b none
    |some r=>match Js f 0 (some r)with
     |some c=>Xo m sz (x.ev f) a b (some c)
     |none=>none
   |none=>none
  |_,_=>none
 |.faddr off x=>match x.ev f with
  |.ptr l s o=>some (.ptr l s (o+off))
  |.vptr l s g i o=>if YT m l s=some g then some (.vptr l s g i (o+off))else none
  |.rptr xs=>some (.rptr (xs.drop off))
  |_=>none
 |.fld off k x=>match x.ev f with
  |.agg l=>part l off k
  |_=>none
 |.iaddr sz len x i=>match i.ev f with
  |.int _ n=>Qf m sz len (x.ev f) n
  |_=>none
 |.idx x i=>match x.ev f,i.ev f with
  |.str s,.int _ n=>if 0≤n then match s[n.toNat]? with
    |some b=>some (.int .u8 (b.toNat:Int))
    |none=>none
   else none
  |_,_=>none
 |.ext x i=>match x.ev f with
  |.tup l=>l[i]?
  |_=>none
 |.len k x=>match k with
  |0=>match x.ev f with
   |.str s=>some (.int .i64 (s.length:Int))
   |_=>none
  |1=>match x.ev f with
   |.nils=>some (.int .i64 0)
   |.list l=>some (.int .i64 (l.length:Int))
   |.vec l s g _ n _=>if YT m l s=some g then some (.int .i64 (n:Int))else none
   |_=>none
  |_=>match x.ev f with
   |.nilm=>some (.int .i64 0)
   |_=>none
 |.mnx mx x y=>match x.ev f,y.ev f with
  |.int k a,.int k' b=>if k=k' then some (.int k (bif mx then(if a<b then b else a)else(if b<a then b else a)))else none
  |_,_=>none
 |.mkfn fn first cap=>some (.fn fn (first.map (RA.ev f)) (cap.map (RA.ev f)))
 |.toU x=>match x.ev f with
  |.ptr l s o=>match Qc m l s with
   |.cells xs=>if o<xs.length then some (.ptr l s o)else none
   |_=>none
  |_=>none
 |.ofU t n x=>match x.ev f with
  |.ptr l s o=>match Qc m l s with
   |.cells xs=>if o=0∧xs.length=n∧s=t+2000 then some (.ptr l s 0)else none
   |_=>none
  |_=>none
 |.same x=>some (x.ev f)
 |.mgetp t ok z x i=>match x.ev f with
  |.mp ks vs=>match K5 t (i.ev f)with
   |some k=>bif keys t ks then(match Kd k ks vs with
    |some v=>bif v.gr then some (bif ok then .tup [v,.bool true]else v)else none
    |none=>some (bif ok then .tup [z,.bool false]else z))else none
   |none=>none
  |_=>none
 |.mget t ok z x i=>match KP m (x.ev f)with
  |some (ks,vs)=>match K5 t (i.ev f)with
   |some k=>bif keys t ks then(match Kd k ks vs with
    |some v=>bif v.gr then some (bif ok then .tup [v,.bool true]else v)else none
    |none=>some (bif ok then .tup [z,.bool false]else z))else none
   |none=>none
  |none=>none
 |.mki t x=>some (.iface t (x.ev f))
 |.tas t ok z x=>match x.ev f with
  |.iface t' y=>bif t'==t then some (bif ok then .tup [y,.bool true]else y)else(bif ok then some (.tup [z,.bool false])else none)
  |.nili=>bif ok then some (.tup [z,.bool false])else none
  |_=>none
 |.slcp sz x lo hi mx=>match x.ev f with
  |.list l=>match Js f 0 lo with
   |some a=>match Js f l.length hi with
    |some b=>match mx with
     |none=>Xo [] sz (.list l) a b none
     |some r=>match Js f 0 (some r)with
      |some c=>Xo [] sz (.list l) a b (some c)
      |none=>none
    |none=>none
   |none=>none
  |_=>none

mutual
def AV.isC:AV→Value→Bool
 |.int k' n',v=>match v with|.int k n=>k==k'&&n==n'|_=>false
 |.bool b',v=>match v with|.bool b=>b==b'|_=>false
 |.str l,v=>match v with|.string s=>s.data.toList==l|_=>false
 |.nils,v=>match v with|.slice none 0 0=>true|_=>false
 |.nilp,v=>match v with|.pointer none=>true|_=>false
 |.nilf,v=>match v with|.nilFunc=>true|_=>false
 |.nili,v=>match v with|.nilIface=>true|_=>false
 |.nilm,v=>match v with|.map none=>true|_=>false
 |.agg l,v=>match v with|.agg vs=>AV.isCL l vs.toList|_=>false
 |.tup l,v=>match v with|.tuple vs=>AV.isCL l vs.toList|_=>false
 |_,_=>false
def AV.isCL:List AV→List Value→Bool
 | [],vs=>vs.isEmpty
 |x :: l,vs=>match vs with|v :: vs=>x.isC v&&AV.isCL l vs | []=>false
end

def isC (v:Value)(x:AV):Bool:=x.isC v
def isCL (vs:List Value)(l:List AV):Bool:=AV.isCL l vs

def QM:Operand→RA→Bool
 |.tmp t,.t n=>t==n
 |.const v,.c x=>isC v x
 |.func k,.f k'=>k==k'
 |.global k,.g k' l=>k==k'&&(match Cm.lookup k with
  |some vs=>isCL vs l&&AV.rfL l&&l.all AV.leaf
  |none=>false)
 |_,_=>false

def Yk:Option Operand→Option RA→Bool
 |none,none=>true
 |some x,some r=>QM x r
 |_,_=>false

def Wp:List Operand→List RA→Bool
 | [],[]=>true
 |x :: xs,r :: rs=>QM x r&&Wp xs rs
 |_,_=>false

def Z9 (P:Program)(t:TypeId):Option (Option Nat) :=
 match P.underlying t,P.info? t with
 |some (.struct _),some i=>some (some i.size)
 |some (.array _ _),some i=>some (some i.size)
 |some _,some _=>some none
 |_,_=>none

def Y6 (P:Program)(t:TypeId)(k:IntKind):Bool :=
 match P.underlying t with
 |some (.int k')=>k==k'
 |_=>false

def Yy (P:Program)(t:TypeId):Bool :=
 match P.underlying t with
 |some .string=>true
 |_=>false

def Cn (P:Program)(tx:Bool)(t:TypeId):Bool:=bif tx then Yy P t else Y6 P t .i64

def WN (P:Program)(t:TypeId):Ty :=
 match P.underlying t with
 |some (.int _)=>.num
 |some .string=>.str
 |some .bool=>.bool
 |some (.pointer e)=>if (P.info? e).isSome then .ptr else .other
 |some (.interface _)=>.iface
 |_=>.other

def Kq (P:Program):Nat→List Field→List Ty→Bool
 |_,[],[]=>true
 |o, fl :: fs, t :: ts=>fl.offset==o&&fl.name != "_" && WN P fl.type==t&&Kq P (o+1) fs ts
 |_,_,_=>false

def Co (P:Program)(fs:Array Field):Option (List (Nat×Nat)) :=
 fs.toList.mapM fun fl=>(P.info? fl.type).map fun i=>(fl.offset,i.size)

def Yl (pl:List (Nat×Nat)):List (Nat×Operand)→List (Nat×Nat×RA)→Bool
 | [],[]=>true
 |(i,x) :: xs,(o,n,r) :: rs=>pl[i]? == some (o,n)&&QM x r&&Yl pl xs rs
 |_,_=>false

def WD (sz:Nat):List (Nat×Operand)→List (Nat×Nat×RA)→Bool
 | [],[]=>true
 |(i,x) :: xs,(o,n,r) :: rs=>(o==i*sz&&n==sz)&&QM x r&&WD sz xs rs
 |_,_=>false

def Um (P:Program)(t:TypeId):Bool :=
 match P.underlying t with
 |some (.interface _)=>false
 |some _=>true
 |none=>false

def Zd (P:Program)(op:Op)(vo:VO):Bool :=
 match vo with
 |.mov r=>match op with
  |.move x|.assign x=>QM x r
  |_=>false
 |.pick c a b=>match op with
  |.pick x y z=>QM x c&&QM y a&&QM z b
  |_=>false
 |.build z ps=>match op with
  |.build t Qo=>match P.underlying t,P.info? t with
   |some (.struct fs),some i=>match i.zero,Co P fs with
    |some zv,some pl=>isCL zv.cells.toList z&&Yl pl Qo.toList ps
    |_,_=>false
   |some (.array _ e),some i=>match i.zero,P.info? e with
    |some zv,some ie=>isCL zv.cells.toList z&&WD ie.size Qo.toList ps
    |_,_=>false
   |_,_=>false
  |_=>false
 |.load k r=>match op with
  |.load t x=>Z9 P t==some k&&QM x r
  |_=>false
 |.loado k r=>match op with
  |.load t x=>Z9 P t==some k&&QM x r
  |_=>false
 |.loadv _ _ k r=>match op with
  |.load t x=>Z9 P t==some k&&QM x r
  |_=>false
 |.loadr k r=>match op with
  |.load t x=>Z9 P t==some k&&QM x r
  |_=>false
 |.nilck r=>match op with
  |.nilCheck x=>QM x r
  |_=>false
 |.bin ty o r s=>match op with
  |.binOp o' t x y _=>o==o'&&WN P t==ty&&QM x r&&QM y s
  |_=>false
 |.eqs neg ks r s=>match op with
  |.binOp o t x y _=>(o==(if neg then .neq else .eql))&&(match P.underlying t with|some (.struct fs)=>Kq P 0 fs.toList ks|_=>false) && !P.stoodInHeld t && !P.eqGuardType P.depth t&&QM x r&&QM y s
  |_=>false
 |.un o r=>match op with
  |.unOp o' _ x=>o==o'&&QM x r
  |_=>false
 |.cvi k r=>match op with
  |.convert src dst x=>Y6 P dst k&&(P.underlying src).isSome&&QM x r
  |_=>false
 |.b2s r=>match op with
  |.convert src dst x=>Yy P dst&&(match P.underlying src with|some (.slice e)=>Y6 P e .u8&&(P.info? e).any (fun i=>i.size==1)|_=>false)&&QM x r
  |_=>false
 |.slcl r hi mx=>match op with
  |.slice t x none (some y) (some z)=>(match P.underlying t with
   |some (.slice e)=>(P.info? e).isSome
   |_=>false)&&QM x r&&QM y hi&&QM z mx
  |_=>false
 |.slc sz r lo hi mx=>match op with
  |.slice t x l h m=>(match sz with|none=>Yy P t|some z=>(match P.underlying t with|some (.slice e)=>(P.info? e).any (fun i=>i.size==z)|_=>false))&&QM x r&&Yk l lo&&Yk h hi&&Yk m mx&&(m.isNone||h.isSome)
  |_=>false
 |.faddr off r=>match op with
  |.fieldAddr t x k=>(match P.underlying t with
   |some (.struct fs)=>match fs[k]? with
    |some fl=>fl.offset==off&&(P.info? fl.type).any (fun i=>i.size != 0)
    |none=>false
   |_=>false)&&QM x r
  |_=>false
 |.fld off k r=>match op with
  |.field t x i=>(match P.underlying t with
   |some (.struct fs)=>match fs[i]? with
    |some fl=>fl.offset==off&&Z9 P fl.type==some k
    |none=>false
   |_=>false)&&QM x r
  |_=>false
 |.iaddr sz len r i=>match op with
  |.indexAddr t x y=>(match P.underlying t with
   |some (.slice e)=>len==none&&(P.info? e).any (fun j=>j.size==sz)&&sz != 0
   |some (.array n e)=>len==some n&&(P.info? e).any (fun j=>j.size==sz)&&sz != 0
   |_=>false)&&QM x r&&QM y i
  |_=>false
 |.idx r i=>match op with
  |.index t x y=>Yy P t&&QM x r&&QM y i
  |_=>false
 |.ext r i=>match op with
  |.extract x k=>k==i&&QM x r
  |_=>false
 |.len k r=>match op with
  |.call { callee:=.builtin .len,args:=⟨[x]⟩,argTypes:=⟨[t]⟩ }=>(match P.underlying t with|some .string=>k==0|some (.slice _)=>k==1|some (.map _ _)=>k==2|_=>false)&&QM x r
  |_=>false
 |.mnx mx r s=>match op with
  |.call { callee:=.builtin b,args:=⟨[x,y]⟩,argTypes:=_ }=>(match b with|.max=>mx|.min=>!mx|_=>false)&&QM x r&&QM y s
  |_=>false
 |.mkfn fn a b=>match op with
  |.makeFunc fn' xs ys=>fn==fn'&&Wp xs.toList a&&Wp ys.toList b
  |_=>false
 |.toU r=>match op with
  |.convert src dst x=>(match P.underlying src with|some (.pointer t)=>(P.info? t).any (fun i=>i.size != 0)|_=>false)&&(match P.underlying dst with|some .unsafePointer=>true|_=>false)&&QM x r
  |_=>false
 |.ofU t n r=>match op with
  |.convert src dst x=>(match P.underlying src with|some .unsafePointer=>true|_=>false)&&(match P.underlying dst with|some (.pointer u)=>u==t&&(P.info? u).isSome&&liesAt P P.depth t (n / P.cellsOf t) 0 t 1|_=>false)&&QM x r
  |_=>false
 |.same r=>match op with
  |.call { callee := .value (.func k), args := ⟨[x]⟩, argTypes := _ }=>(match P.funcs[k]? with|some fn=>fn.name == "internal/abi.NoEscape" && fn.body.isNone&&(Extern.allNextRows.lookup fn.origin).isNone|_=>false)&&QM x r
  |_=>false
 |.mgetp tx ok z r i=>match op with
  |.lookup t x y ok'=>(match P.underlying t with
   |some (.map kt et)=>Cn P tx kt&&(match P.info? et with
    |some inf=>match inf.zero with
     |some zv=>isC zv z
     |none=>false
    |none=>false)
   |_=>false)&&ok==ok'&&QM x r&&QM y i
  |_=>false
 |.mget tx ok z r i=>match op with
  |.lookup t x y ok'=>(match P.underlying t with
   |some (.map kt et)=>Cn P tx kt&&(match P.info? et with
    |some inf=>match inf.zero with
     |some zv=>isC zv z
     |none=>false
    |none=>false)
   |_=>false)&&ok==ok'&&QM x r&&QM y i
  |_=>false
 |.mki t r=>match op with
  |.makeInterface t' x=>t==t'&&Um P t&&QM x r
  |_=>false
 |.tas t ok z r=>match op with
  |.typeAssert x _ t' ok'=>t==t'&&Um P t&&(match P.info? t with
   |some inf=>match inf.zero with
    |some zv=>isC zv z
    |none=>false
   |none=>false)&&ok==ok'&&QM x r
  |_=>false
 |.slcp sz r lo hi mx=>match op with
  |.slice t x l h m=>(match sz with|none=>Yy P t|some z=>(match P.underlying t with|some (.slice e)=>(P.info? e).any (fun i=>i.size==z)|_=>false))&&QM x r&&Yk l lo&&Yk h hi&&Yk m mx&&(m.isNone||h.isSome)
  |_=>false

mutual
theorem AV.isC_ok {G:Gh}:∀(x:AV) (v:Value),x.isC v=true→Rep G x v
 |.int k n,v,h=>by
   cases v<;>simp[AV.isC]at h;obtain⟨rfl,rfl⟩:=h;exact .int _ _
 |.bool b,v,h=>by
   cases v<;>simp[AV.isC]at h;subst h;exact .bool _
 |.str s,v,h=>by
   cases v<;>simp[AV.isC]at h;subst h;exact .str _
 |.nils,v,h=>by
   simp only[AV.isC]at h;split at h
   ·exact .nils
   ·cases h
 |.nilp,v,h=>by
   simp only[AV.isC]at h;split at h
   ·exact .nilp
   ·cases h
 |.nilf,v,h=>by
   simp only[AV.isC]at h;split at h
   ·exact .nilf
   ·cases h
 |.nili,v,h=>by
   simp only[AV.isC]at h;split at h
   ·exact .nili
   ·cases h
 |.nilm,v,h=>by
   simp only[AV.isC]at h;split at h
   ·exact .nilm
   ·cases h
 |.agg l,v,h=>by
   simp only[AV.isC]at h;split at h
   ·exact .agg (AV.isCL_ok l _ h)
   ·cases h
 |.tup l,v,h=>by
   simp only[AV.isC]at h;split at h
   ·exact .tup (AV.isCL_ok l _ h)
   ·cases h
 |.top,v,h=>kC
 |.list l,v,h=>kC
 |.lcap l,v,h=>kC
 |.iface t x,v,h=>kC
 |.fn f a b,v,h=>kC
 |.ptr l s o,v,h=>kC
 |.vec l s g o n q,v,h=>kC
 |.vptr l s g i o,v,h=>kC
 |.rptr l,v,h=>kC
theorem AV.isCL_ok {G:Gh}:∀(l:List AV) (vs:List Value),AV.isCL l vs=true→RepL G l vs
 | [],vs,h=>by
   cases vs with
   |nil=>exact .nil
   |cons v vs=>simp[AV.isCL]at h
 |x :: l,vs,h=>by
   cases vs with
   |nil=>simp[AV.isCL]at h
   |cons v vs=>
    simp only[AV.isCL,QlM]at h;exact .cons (AV.isC_ok x v h.1) (AV.isCL_ok l vs h.2)
end
theorem isC_ok {G:Gh}{v:Value}{x:AV}(h:isC v x=true):Rep G x v:=AV.isC_ok x v h
theorem isCL_ok {G:Gh}{v:List Value}{x:List AV}(h:isCL v x=true):RepL G x v:=AV.isCL_ok x v h

section
variable {P:Program}{G:Gh}{B N:Nat}{st:St}{a:Act}{w:World}

theorem Qv (h:Rel G B N st a w){x:Operand}{r:RA}(hc:QM x r=true):Rep G (r.ev st.f) (a.eval x):=by
 cases x with
 |tmp t=>
  cases r<;>simp[QM]at hc;subst hc;exact h.slots t
 |const v=>
  cases r<;>simp[QM]at hc;exact isC_ok hc
 |global g=>
  cases r<;>simp only[QM,QlH]at hc;rename_i k l;rw[QlM,Qls]at hc;obtain⟨rfl,hc⟩:=hc;cases hl:Cm.lookup g with
  |none=>rw[hl]at hc;cases hc
  |some vs=>
   rw[hl]at hc;simp only[QlM]at hc;obtain⟨⟨h1,h2⟩,h3⟩:=hc;refine .rptr (b:=g) (o:=0) (isCL_ok h1) h2 h3 fun j u hj=>G.tab _ _ _ ?_
   have hj':=(Qlm.1 hj).1;simp only[JO,hl,QlN,hj,QlO];rw[Qlu xw]
 |func k=>
  cases r<;>simp[QM]at hc;subst hc;exact .fn .nil .nil

theorem HL (h:Rel G B N st a w):∀ {xs:List Operand} {rs:List RA},Wp xs rs=true→RepL G (rs.map (RA.ev st.f)) (xs.map a.eval)
 | [],[],_=>.nil
 |x :: xs,r :: rs,hc=>by
   simp only[Wp,QlM]at hc;exact .cons (Qv h hc.1) (HL h hc.2)
 | [],_ :: _,hc=>by simp[Wp]at hc
 |_ :: _,[],hc=>by simp[Wp]at hc

theorem Qbh {op:BinOp}{k:IntKind}{m n:Int}{x:AV}(hx:Xu op k m n=some x)(h1:op≠.shl)(h2:op≠.shr)(t:TypeId) :
    ∃v,(binOp op t (.int k m) (.int k n)).run P w=.ok v w∧Rep G x v:=by
  cases op<;>first
    |exact absurd rfl h1
    |exact absurd rfl h2
    | (simp only[Xu]at hx;split at hx
       · cases hx
       · rename_i hn;cases hx;exact⟨_,by simp[binOp,Op.intDiv,hn],.int _ _⟩)
    |(simp only[Xu,QlP]at hx;subst hx;exact⟨_,by simp[binOp,Op.intArith]<;>rfl,.int _ _⟩)
    |(simp only[Xu,QlP]at hx;subst hx;exact⟨_,by simp[binOp]<;>rfl,.int _ _⟩)
    |(simp only[Xu,QlP]at hx;subst hx;exact⟨_,by simp[binOp,Op.intCmp]<;>rfl,.bool _⟩)

theorem Qbi {op:BinOp}{s u:List UInt8}{x:AV}(hx:QS op s u=some x)(t:TypeId) :
  ∃v,(binOp op t (.string ⟨⟨s⟩⟩) (.string ⟨⟨u⟩⟩)).run P w=.ok v w∧Rep G x v:=by
 have hs:(⟨⟨s⟩⟩:ByteArray).toList=s:=by rw[ByteArray.toList_eq]
 have hu:(⟨⟨u⟩⟩:ByteArray).toList=u:=by rw[ByteArray.toList_eq]
 cases op with
 |add=>
  simp only[QS]at hx;split at hx
  ·rename_i hl;cases hx;refine⟨.string ⟨⟨s++u⟩⟩,?_,.str _⟩;have hlen:((ByteArray.size ⟨⟨s⟩⟩+ByteArray.size ⟨⟨u⟩⟩:Nat):Int)≤IntKind.i64.max:=by
    show((s.length+u.length:Nat):Int)≤9223372036854775807;omega
   have hcat:(⟨⟨s⟩⟩:ByteArray)++⟨⟨u⟩⟩=⟨⟨s++u⟩⟩:=by
    apply ByteArray.ext
    simp
   simp only[binOp,Op.stringOp,hcat];rw[Qlu xw];rfl
  ·cases hx
 |eql=>simp only[QS,QlP]at hx;subst hx;exact⟨_,jI,.bool _⟩
 |neq=>simp only[QS,QlP]at hx;subst hx;exact⟨_,jI,.bool _⟩
 |lss=>simp only[QS,QlP]at hx;subst hx;exact⟨_,jI,.bool _⟩
 |leq=>simp only[QS,QlP]at hx;subst hx;exact⟨_,jI,.bool _⟩
 |gtr=>simp only[QS,QlP]at hx;subst hx;exact⟨_,jI,.bool _⟩
 |geq=>simp only[QS,QlP]at hx;subst hx;exact⟨_,jI,.bool _⟩
 |_=>simp[QS]at hx

theorem FE {t:TypeId}(h:WN P t=.ptr):∃e j,P.underlying t=some (.pointer e)∧P.info? e=some j:=by
  unfold WN at h;split at h<;>first
    |(cases h;done)
    | (rename_i e hu
       split at h
       · rename_i hi;obtain⟨j,hj⟩:=QlQ.1 hi;exact⟨e,j,hu,hj⟩
       · cases h)

theorem GI {t e:TypeId}(hp:P.underlying t=some (.pointer e)):(binOp .eql t (.pointer none) (.pointer none)).run P w=.ok (.bool true) w∧(binOp .neq t (.pointer none) (.pointer none)).run P w=.ok (.bool false) w:=by
 have h:∀d:Nat,(Op.equalIn (d+1) t (.pointer none) (.pointer none)).run P w=.ok true w:=fun d=>by
  simp[Op.equalIn,run_underlying hp]
 exact y9

theorem Fh {t e:TypeId}(hp:P.underlying t=some (.pointer e))(a:Addr):(binOp .eql t (.pointer (some a)) (.pointer none)).run P w=.ok (.bool false) w∧(binOp .neq t (.pointer (some a)) (.pointer none)).run P w=.ok (.bool true) w:=by
 have h:∀d:Nat,(Op.equalIn (d+1) t (.pointer (some a)) (.pointer none)).run P w=.ok false w:=fun d=>by
  simp[Op.equalIn,run_underlying hp]
 exact y9

theorem Qbj {ty:Ty}{op:BinOp}{p q x:AV}(hx:Xc ty op p q=some x){v u:Value}(hp:Rep G p v)(hq:Rep G q u){t:TypeId}(ht:WN P t=ty)(o1 o2:Operand) :
    ∃r,(do eqGuard op t o1 o2 v u;binOp op t v u).run P w=.ok r w∧Rep G x r:=by
  cases p<;>cases q<;>first
    |(simp[Xc]at hx;done)
    |skip
  case int.int k m k' n=>
    cases hp;cases hq;have hg:(eqGuard op t o1 o2 (.int k m) (.int k' n)).run P w=.ok () w:=by
      exact yn
    rw[Sem.run_bind,hg,Result.andThen_ok];by_cases h1:op=.shl
    · subst h1;exact zR
    · by_cases h2:op=.shr
      · subst h2;exact zR
      · have hx':(if k=k' then Xu op k m n else none)=some x:=by
          cases op<;>first|exact absurd rfl h1|exact absurd rfl h2|exact hx
        split at hx'
        · rename_i hk;subst hk;exact Qbh hx' h1 h2 t
        · cases hx'
  case str.str s u=>
    cases hp;cases hq;have hg:(eqGuard op t o1 o2 (.string ⟨⟨s⟩⟩) (.string ⟨⟨u⟩⟩)).run P w=.ok () w:=by
      exact yn
    rw[Sem.run_bind,hg,Result.andThen_ok];exact Qbi hx t
  case bool.bool b c=>
    cases hp;cases hq;have hg:(eqGuard op t o1 o2 (.bool b) (.bool c)).run P w=.ok () w:=by
      exact yn
    rw[Sem.run_bind,hg,Result.andThen_ok];have hb:ty=.bool→P.underlying t=some .bool:=by
      intro e;rw[e]at ht;unfold WN at ht;split at ht<;>first|(cases ht;done)|(split at ht<;>cases ht;done)|assumption
    cases ty<;>cases op<;>first
      |(simp[Xc]at hx;done)
      | (simp only[Xc,QlP]at hx;subst hx
         exact⟨_,by simp[binOp,Op.equal,Op.maxDepth,run_equalIn_bool' w 9999 t b c (hb rfl)]<;>rfl,.bool _⟩)
  case nilp.nilp=>
    cases hp;cases hq;have hg:(eqGuard op t o1 o2 (.pointer none) (.pointer none)).run P w=.ok () w:=by
      exact yn
    rw[Sem.run_bind,hg,Result.andThen_ok];cases ty<;>cases op<;>first
      |(simp[Xc]at hx;done)
      | (simp only[Xc,QlP]at hx;subst hx
         obtain⟨e,j,hu,hj⟩:=FE ht
         first|exact⟨_,(GI hu).1,.bool _⟩|exact⟨_,(GI hu).2,.bool _⟩)
  case ptr.nilp l s o=>
    cases hp;cases hq;rename_i b hb;have hg:(eqGuard op t o1 o2 (.pointer (some ⟨b,o,none⟩)) (.pointer none)).run P w=.ok () w:=by
      exact yn
    rw[Sem.run_bind,hg,Result.andThen_ok];cases ty<;>cases op<;>first
      |(simp[Xc]at hx;done)
      | (simp only[Xc,QlP]at hx;subst hx
         obtain⟨e,j,hu,hj⟩:=FE ht
         first|exact⟨_,(Fh hu _).1,.bool _⟩|exact⟨_,(Fh hu _).2,.bool _⟩)
  case ptr.ptr l s o l' s' o'=>
    cases hp;cases hq;rename_i b hb b' hb';simp only[Xc]at hx;split at hx
    · rename_i hh;obtain⟨rfl,rfl,rfl⟩:=hh;rw[hb]at hb';cases hb';have hg:(eqGuard op t o1 o2 (.pointer (some ⟨b,o,none⟩)) (.pointer (some ⟨b,o,none⟩))).run P w=.ok () w:=by
        exact yn
      rw[Sem.run_bind,hg,Result.andThen_ok];cases ty<;>cases op<;>first
        |(cases hx;done)
        | (simp only[QlP]at hx;subst hx
           obtain⟨e,j,hu,hj⟩:=FE ht
           first|exact⟨_,run_eql_ptr_same w _ hu hj,.bool _⟩|exact⟨_,Lib.run_neq_ptr_same w _ hu hj,.bool _⟩)
    · cases hx

end

section
variable {P:Program}{G:Gh}{B N:Nat}{st:St}{a:Act}{w:World}

theorem Cq {t:TypeId}(h:WN P t=.num):∃k,P.underlying t=some (.int k):=by
 unfold WN at h;split at h<;>first|(cases h;done)|(split at h<;>cases h;done)|exact⟨_,by assumption⟩
theorem Cr {t:TypeId}(h:WN P t=.str):P.underlying t=some .string:=by
 exact yM
theorem Vs {t:TypeId}(h:WN P t=.bool):P.underlying t=some .bool:=by
 exact yM

theorem WO {t:TypeId}{d:TypeDesc}(h:P.underlying t=some d)(hs:∀fs,d≠.struct fs)(ha:∀n e,d≠.array n e):(isAgg t).run P w=.ok false w:=by
 simp only[isAgg,Sem.run_bind,run_underlying h,Result.andThen_ok];cases d<;>first|rfl|(exact absurd rfl (hs _))|(exact absurd rfl (ha _ _))

theorem Gy {t:TypeId}{d:TypeDesc}(h:P.underlying t=some d)(hs:(∃fs,d=.struct fs)∨∃n e,d=.array n e):(isAgg t).run P w=.ok true w:=by
 simp only[isAgg,Sem.run_bind,run_underlying h,Result.andThen_ok];rcases hs with⟨fs,rfl⟩|⟨n,e,rfl⟩<;>rfl

theorem XR {t:TypeId}{i:TypeInfo}(h:P.info? t=some i):(sizeOf t).run P w=.ok i.size w:=by
 simp[sizeOf,typeInfo,h]

theorem Bf {t:TypeId}(h:Z9 P t=some none):(isAgg t).run P w=.ok false w:=by
 unfold Z9 at h;split at h
 ·cases h
 ·cases h
 ·rename_i d i h1 h2 hd hi;exact WO hd (fun fs e=>h1 fs e) (fun n e' e=>h2 n e' e)
 ·cases h

theorem Bg {t:TypeId}{k:Nat}(h:Z9 P t=some (some k)):(isAgg t).run P w=.ok true w∧(sizeOf t).run P w=.ok k w:=by
 unfold Z9 at h;split at h
 ·rename_i fs i hd hi;cases h;exact⟨Gy hd (.inl ⟨fs,rfl⟩),XR hi⟩
 ·rename_i n e i hd hi;cases h;exact⟨Gy hd (.inr ⟨n,e,rfl⟩),XR hi⟩
 ·cases h
 ·cases h

theorem Qbk {G:Gh}{l:List AV}{vs:List Value}(h:RepL G l vs){o:Nat}{k:Option Nat}{x:AV}(hx:part l o k=some x){t:TypeId}(ht:Z9 P t=some k) :
  ∃v,(Go.part t ⟨vs⟩ o).run P w=.ok v w∧Rep G x v:=by
 cases k with
 |none=>
  obtain⟨v,hv,r⟩:=h.at_ hx;refine⟨v,?_,r⟩;simp only[Go.part,Sem.run_bind,Bf ht,Result.andThen_ok];simp[hv]
 |some k=>
  simp only[part]at hx;split at hx
  ·rename_i hk;cases hx;obtain⟨h1,h2⟩:=Bg (w:=w) ht;refine⟨.agg ⟨(vs.drop o).take k⟩,?_,.agg ((h.drop o).take k)⟩;simp only[Go.part,Sem.run_bind,h1,Result.andThen_ok,if_true,h2,Sem.run_pure];simp[List.extract_eq_take_drop]
  ·cases hx

theorem QcY {ty:Ty}{x y:AV}{b:Bool}(h:Be ty x y=some b){v u:Value}(hv:Rep G x v)(hu:Rep G y u){t:TypeId}(ht:WN P t=ty)(d:Nat):(Op.equalIn (d+1) t v u).run P w=.ok b w:=by
 unfold Be at h;split at h
 ·cases hv;cases hu;split at h
  ·rename_i hk;subst hk;cases h;obtain⟨k',hk'⟩:=Cq ht;exact run_equalIn_int w d t _ k' _ _ hk'
  ·cases h
 ·cases hv;cases hu;cases h;exact run_equalIn_bool' w d t _ _ (Vs ht)
 ·cases hv;cases hu;cases h;rw[run_equalIn_string w d t _ _ (Cr ht)];simp[ByteArray.toList_eq]
 ·cases h

theorem Qbl {t:TypeId}{ty:Ty}(ht:WN P t=ty)(h:ty=.num∨ty=.bool∨ty=.str):(isAgg t).run P w=.ok false w:=by
 rcases h with rfl|rfl|rfl
 ·obtain⟨k,hk⟩:=Cq ht;exact WO hk xA xA
 ·exact WO (Vs ht) xA xA
 ·exact WO (Cr ht) xA xA

theorem QcZ {ty:Ty}{x y:AV}{b:Bool}(h:Be ty x y=some b):ty=.num∨ty=.bool∨ty=.str:=by
 unfold Be at h;split at h<;>simp at h ⊢

theorem Fi (d:Nat)(xs ys:Array Value):∀(fs:List Field) (ks:List Ty) (o:Nat) (l r:List AV) (b:Bool),Kq P o fs ks=true→RepL G l (xs.toList.drop o)→RepL G r (ys.toList.drop o)→Fg ks l r=some b→
  (Op.eqFields (d+1) xs ys fs).run P w=.ok b w
 | [],ks,o,l,r,b,hp,hl,hr,he=>by
   cases ks<;>simp[Kq]at hp;unfold Fg at he;split at he
   ·cases he;rfl
   ·rename_i h;cases h
   ·cases he
 |fl :: fs,ks,o,l,r,b,hp,hl,hr,he=>by
   cases ks with
   |nil=>simp[Kq]at hp
   |cons k ks=>
    simp only[Kq,QlM,Qls,QlR]at hp;obtain⟨⟨⟨ho,hn⟩,hty⟩,hrest⟩:=hp;cases l with
    |nil=>simp[Fg]at he
    |cons x l=>
     cases r with
     |nil=>simp[Fg]at he
     |cons y r=>
      simp only[Fg]at he;split at he
      ·rename_i b1 b2 e1 e2;cases he;cases hx:xs.toList.drop o with
       |nil=>rw[hx]at hl;cases hl
       |cons v vs=>
        cases hy:ys.toList.drop o with
        |nil=>rw[hy]at hr;cases hr
        |cons u us=>
         rw[hx]at hl;rw[hy]at hr;cases hl with
         |cons hv hl=>
          cases hr with
          |cons hu hr=>
           have hvx:xs[o]? = some v:=by rw[←QlS,←List.head?_drop,hx];rfl
           have huy:ys[o]? = some u:=by rw[←QlS,←List.head?_drop,hy];rfl
           have hvs:xs.toList.drop (o+1)=vs:=by rw[←QlT,hx];rfl
           have hus:ys.toList.drop (o+1)=us:=by rw[←QlT,hy];rfl
           have hag:=Qbl (P:=P) (w:=w) hty (QcZ e1);have hq:=QcY (P:=P) (w:=w) e1 hv hu hty d;have ih:=Fi d xs ys fs ks (o+1) l r b2 hrest (by rw[hvs];exact hl) (by rw[hus];exact hr) e2;simp only[Op.eqFields,Qlv hn,Sem.run_bind,Go.part,hag,Result.andThen_ok,ho,hvx,huy,QlH,if_false,Sem.run_pure,hq];cases b1 with
           |false=>simp
           |true=>simpa using ih
      ·cases he

theorem Qc0 {op:UnOp}{p x:AV}(hx:GH op p=some x){v:Value}(hp:Rep G p v):∃r,(Op.unary op v).run P w=.ok r w∧Rep G x r:=by
 unfold GH at hx;split at hx
 ·cases hp;cases hx;exact⟨_,by simp[Op.unary,Op.intArith]<;>rfl,.int _ _⟩
 ·cases hp;cases hx;exact⟨_,by simp[Op.unary]<;>rfl,.int _ _⟩
 ·cases hp;cases hx;exact⟨_,by simp[Op.unary]<;>rfl,.bool _⟩
 ·cases hx

theorem WP (off:Nat):∀(us:List Value) (j:Nat) (cs:Array Value),off+j+us.length≤cs.size→
  ((us.zipIdx j).foldl (fun cs (c,j)=>cs.setIfInBounds (off+j) c) cs).toList=cs.toList.take (off+j)++us++cs.toList.drop (off+j+us.length)
 | [],j,cs,h=>xA
 |u :: us,j,cs,h=>by
  simp only[QlD]at h;have ih:=WP off us (j+1) (cs.setIfInBounds (off+j) u) xD;simp only[List.zipIdx_cons,List.foldl_cons];rw[ih,Array.toList_setIfInBounds];have hlt:off+j<cs.toList.length:=xD
  rw[show off+(j+1)=off+j+1 by omega,QlI qr,List.drop_set_of_lt xw,List.take_set_of_le (Qlk _)];simp only[List.getElem_set_self,QlJ,QlK,QlL,QlD];congr 4
  omega

theorem PZ (h:Rel G B N st a w){pl:List (Nat×Nat)}:∀ {xs:List (Nat×Operand)} {rs:List (Nat×Nat×RA)} {z y:List AV} {cs:Array Value},Yl pl xs rs=true→RepL G z cs.toList→fill st.f rs z=some y→
  ∃cs',Instr.fill (pl[·]?) cs (xs.map fun(i,x)=>(i,a.eval x))=some cs'∧RepL G y cs'.toList
 | [],[],z,y,cs,_,hz,hf=>by cases hf;exact⟨cs,rfl,hz⟩
 |(i,x) :: xs,(o,n,r) :: rs,z,y,cs,hc,hz,hf=>by
  simp only[Yl,QlM,Qls]at hc;simp only[fill]at hf;split at hf
  ·rename_i hh;obtain⟨h1,h2,h3⟩:=hh;have hr:=(Qv h hc.1.2).cells h3;have hl:=hr.length;have hzl:=hz.length;simp only[QlU]at hl hzl;have hfold:=WP o (a.eval x).cells.toList 0 cs j_;simp only[QlV]at hfold;have hsz:((a.eval x).cells.zipIdx.foldl (fun cs (c,j)=>cs.setIfInBounds (o+j) c) cs).toList=cs.toList.take o++(a.eval x).cells.toList++cs.toList.drop (o+(a.eval x).cells.toList.length):=by
    exact yq
   obtain⟨cs',h4,h5⟩:=PZ h (cs:=(a.eval x).cells.zipIdx.foldl (fun cs (c,j)=>cs.setIfInBounds (o+j) c) cs) hc.2 (by rw[hsz];exact hz.splice hr o) hf;refine⟨cs',?_,h5⟩;simp only[QlW,Instr.fill,hc.1.1];rw[Qlu xD];exact h4
  ·cases hf
 | [],_ :: _,_,_,_,hc,_,_=>by simp[Yl]at hc
 |_ :: _,[],_,_,_,hc,_,_=>by simp[Yl]at hc

theorem Ct (h:Rel G B N st a w){sz:Nat}:∀ {xs:List (Nat×Operand)} {rs:List (Nat×Nat×RA)} {z y:List AV} {cs:Array Value},WD sz xs rs=true→RepL G z cs.toList→fill st.f rs z=some y→
  ∃cs',Instr.fill (fun i=>some (i*sz,sz)) cs (xs.map fun(i,x)=>(i,a.eval x))=some cs'∧RepL G y cs'.toList
 | [],[],z,y,cs,_,hz,hf=>by cases hf;exact⟨cs,rfl,hz⟩
 |(i,x) :: xs,(o,n,r) :: rs,z,y,cs,hc,hz,hf=>by
  simp only[WD,QlM,Qls]at hc;obtain⟨⟨⟨rfl,rfl⟩,hc1⟩,hc2⟩:=hc;simp only[fill]at hf;split at hf
  ·rename_i hh;obtain⟨h1,h2,h3⟩:=hh;have hr:=(Qv h hc1).cells h3;have hl:=hr.length;have hzl:=hz.length;simp only[QlU]at hl hzl;have hfold:=WP (i*n) (a.eval x).cells.toList 0 cs j_;simp only[QlV]at hfold;have hsz:((a.eval x).cells.zipIdx.foldl (fun cs (c,j)=>cs.setIfInBounds (i*n+j) c) cs).toList=cs.toList.take (i*n)++(a.eval x).cells.toList++cs.toList.drop (i*n+(a.eval x).cells.toList.length):=by
    exact yq
   obtain⟨cs',h4,h5⟩:=Ct h (cs:=(a.eval x).cells.zipIdx.foldl (fun cs (c,j)=>cs.setIfInBounds (i*n+j) c) cs) hc2 (by rw[hsz];exact hz.splice hr (i*n)) hf;refine⟨cs',?_,h5⟩;simp only[QlW,Instr.fill];rw[Qlu xD];exact h4
  ·cases hf
 | [],_ :: _,_,_,_,hc,_,_=>by simp[WD]at hc
 |_ :: _,[],_,_,_,hc,_,_=>by simp[WD]at hc

theorem RepL.takeDrop {G:Gh}{l:List AV}{vs:List Value}(h:RepL G l vs)(o k:Nat):RepL G ((l.drop o).take k) ((vs.drop o).take k):=(h.drop o).take k

theorem Ze (x:AV)(l:List AV):QP (x :: l)=x.cells++QP l:=rfl
theorem Z3 (l r:List AV):QP (l++r)=QP l++QP r:=by simp[QP]
theorem J2 {sz:Nat}:∀ {l:List AV} (_:∀x∈l,x.cells.length=sz) (k:Nat),(QP l).take (k*sz)=QP (l.take k)
 | [],_,k=>by simp[QP]
 |x :: l,h,k=>by
  cases k with
  |zero=>simp[QP]
  |succ k=>
   have hx:=h x (QlG ..);rw[Ze,QlX,Ze,List.take_append,hx];rw[QlY (by rw[hx,QlZ];omega),show(k+1)*sz-sz=k*sz by rw[QlZ];omega,J2 (fun y hy=>h y (QlE _ hy))]
theorem Jt {sz:Nat}:∀ {l:List AV} (_:∀x∈l,x.cells.length=sz) (k:Nat),(QP l).drop (k*sz)=QP (l.drop k)
 | [],_,k=>by simp[QP]
 |x :: l,h,k=>by
  cases k with
  |zero=>simp
  |succ k=>
   have hx:=h x (QlG ..);rw[Ze,Ql0,List.drop_append,hx];rw[Ql1 (by rw[hx,QlZ];omega),show(k+1)*sz-sz=k*sz by rw[QlZ];omega,Jt (fun y hy=>h y (QlE _ hy))];rfl
theorem Wj {sz:Nat}:∀ {l:List AV} (_:∀x∈l,x.cells.length=sz),(QP l).length=l.length*sz
 | [],_=>by simp[QP]
 |x :: l,h=>by
  rw[Ze,Ql2,h x (QlG ..),Wj (fun y hy=>h y (QlE _ hy)),QlD,QlZ];omega
theorem Un (h:Rel G B N st a w){k:Option Nat}{p x:AV}(hx:Xn st.m k p=some x){v:Value}(hp:Rep G p v){t:TypeId}(ht:Z9 P t=some k) :
  ∃r,(Instr.loadAt t v).run P w=.ok r w∧Rep G x r:=by
 -- cells in a row at a known place
 have key:∀(b o:Nat) (vs:List Value) (y:List AV),RepL G y vs→(∀j u,vs[j]? = some u→w.cell? ⟨b,o+j,none⟩=some u)→part y 0 k=some x→
   ∃r,(Instr.loadAt t (.pointer (some ⟨b,o,none⟩))).run P w=.ok r w∧Rep G x r:=by
  intro b o vs y hy hcell hpart;cases k with
  |none=>
   obtain⟨u,hu,r⟩:=hy.at_ hpart;refine⟨u,?_,r⟩;have hc:=hcell 0 u hu;simp only[Instr.loadAt,Instr.sureAddr,Sem.run_bind,Sem.run_pure,Result.andThen_ok,loadVar,Bf ht,QlH,if_false,run_load];simp only[QlV]at hc;rw[hc]
  |some k=>
   simp only[part]at hpart;split at hpart
   ·rename_i hk;cases hpart;obtain⟨h1,h2⟩:=Bg (w:=w) ht;have hl:=hy.length;have hlen:(vs.take k).length=k:=xD
    have hrun:=run_loadCells_list (P:=P) w ⟨b,o,none⟩ (vs.take k) (fun j u hu=>by
     rw[XV];refine hcell j u ?_;rw[Ql3]at hu;split at hu
     ·exact hu
     ·cases hu)
    rw[hlen]at hrun;refine⟨.agg ⟨vs.take k⟩,?_,?_⟩
    ·simp only[Instr.loadAt,Instr.sureAddr,Sem.run_bind,Sem.run_pure,Result.andThen_ok,loadVar,h1,if_true,h2,hrun]
    ·have:=hy.take k
     simpa using Rep.agg this
   ·cases hpart
 cases p with
 |ptr l s o=>
  cases hp with
  |ptr hb=>
   rename_i b;simp only[Xn]at hx;split at hx
   ·rename_i xs hlk;obtain⟨b',cs,hb',hsoft,hr⟩:=h.mr.cells l s xs hlk;rw[hb]at hb';cases hb';have hr':=hr.shNL l;refine key b o (cs.toList.drop o) ((AV.shNL l xs).drop o) (hr'.drop o) (fun j u hu=>?_) ?_
    ·rw[hsoft.cell,←hu];simp
    ·cases k with
     |none=>
      simp only at hx;split at hx
      ·rename_i y hy;cases hx;have:∀(n:Nat) (xs:List AV) (i:Nat) (y:AV),xs[i]? = some y→(AV.shNL n xs)[i]? = some (y.shN n):=by
        intro n
        induction n with
        |zero=>intro xs i y h;exact h
        |succ n ih=>
         intro xs i y h;have h':=ih xs i y h;have aux:∀(l:List AV) (i:Nat) (y:AV),l[i]? = some y→(AV.shL l)[i]? = some y.sh:=by
          intro l
          induction l with
          |nil=>intro i y h;simp at h
          |cons z l ih=>
           intro i y h;cases i with
           |zero=>simp at h;subst h;rfl
           |succ i=>simp at h;simpa [AV.shL]using ih i y h
         exact aux _ _ _ h'
       simp only[part,Ql4,QlV];exact this l xs o y hy
      ·cases hx
     |some k=>
      simp only at hx;split at hx
      ·rename_i hk;cases hx;have hlen:∀(n:Nat) (xs:List AV),(AV.shNL n xs).length=xs.length:=by
        intro n
        induction n with
        |zero=>intro xs;rfl
        |succ n ih=>
         intro xs;have aux:∀l:List AV,(AV.shL l).length=l.length:=by
          intro l
          induction l with
          |nil=>rfl
          |cons z l ih=>simp[AV.shL,ih]
         rw[AV.shNL,aux,ih]
       have hmap:∀(n:Nat) (xs:List AV) (i j:Nat),((AV.shNL n xs).drop i).take j=AV.shNL n ((xs.drop i).take j):=by
        intro n
        induction n with
        |zero=>intro xs i j;rfl
        |succ n ih=>
         intro xs i j;have aux:∀l:List AV,AV.shL l=l.map AV.sh:=by
          intro l
          induction l with
          |nil=>rfl
          |cons z l ih=>simp[AV.shL,ih]
         rw[AV.shNL,AV.shNL,←ih,aux,aux,List.map_take,List.map_drop]
       simp only[part,Ql5,hlen,QlN,Ql6];rw[Qlv xw,hmap]
      ·cases hx
   ·cases hx
 |vptr l s g i o=>
  cases hp with
  |vptr hv hg hh=>
   simp only[Xn]at hx;split at hx
   ·rename_i g' sz xs hlk;split at hx
    ·rename_i hgg;split at hx
     ·rename_i e he;obtain⟨e1,e2,e3,e4⟩:=h.mr.vec l s g' sz xs hlk;obtain⟨b,hb,rfl⟩:=hh (by rw[e1];exact hgg);rcases e4 with⟨e4,_⟩|⟨b',e4,hrow⟩
      ·rw[hb]at e4;cases e4
      ·rw[hb]at e4;cases e4;obtain⟨cur,hsoft,hcs,hrep⟩:=hrow.cur;have hlt:=(Qlm.1 he).1;have hsz:=e3.size e (QlC he);have hsub:((QP xs).drop (i*sz)).take sz=e.cells:=by
        have h1:=Jt e3.size i;rw[h1];have h2:xs.drop i=e :: xs.drop (i+1):=by
         rw[Ql7 hlt];congr 1
         exact(Qlm.1 he).2
        rw[h2,Ze,List.take_append,hsz];simp[QlY (Ql8 hsz)]
       have hre:RepL G e.cells (((cur.toList.take (xs.length*sz)).drop (i*sz)).take sz):=by
        rw[←hsub];exact(hrep.drop _).take _
       rw[e2];refine key b (i*sz+o) _ _ (hre.drop o) (fun j u hu=>?_) ?_
       ·rw[hsoft.cell];rw[Ql4,Ql3]at hu;split at hu
        ·rw[Ql4,Ql3]at hu;split at hu
         ·rw[Qlj];simpa using hu
         ·cases hu
        ·cases hu
       ·cases k with
        |none=>simpa [part]using hx
        |some k=>
         simp only[part]at hx ⊢;split at hx
         ·rename_i hk;cases hx;simp only[Ql5,Ql6];rw[Qlv xw]
         ·cases hx
     ·cases hx
    ·cases hx
   ·cases hx
 |rptr xs=>
  cases hp with
  |rptr hc hf hl hs=>
   exact key _ _ _ xs hc (fun j u hu=>h.mr.stab _ _ _ (hs j u hu)) hx
 |_=>simp[Xn]at hx

end

section
variable {P:Program}{G:Gh}{B N:Nat}{st:St}{a:Act}{w:World}

def BV (v:Option Value)(d n:Nat):Prop:=(v=none∧n=d)∨∃k i,v=some (.int k i)∧0≤i∧n=i.toNat

theorem Wk (h:Rel G B N st a w){x:Option Operand}{r:Option RA}(hc:Yk x r=true){d n:Nat}(hb:Js st.f d r=some n):BV (x.map a.eval) d n:=by
 cases x with
 |none=>
  cases r with
  |none=>simp only[Js,QlP]at hb;exact .inl ⟨rfl,hb.symm⟩
  |some r=>simp[Yk]at hc
 |some x=>
  cases r with
  |none=>simp[Yk]at hc
  |some r=>
   have hr:=Qv h (x:=x) (r:=r) hc;simp only[Js]at hb;split at hb
   ·rename_i k i e;split at hb
    ·rename_i h0;cases hb;rw[e]at hr;have hv:a.eval x=.int k i:=by
      revert hr
      generalize a.eval x=v;intro hr;cases hr;rfl
     exact .inr ⟨k,i,by simp[hv],h0,rfl⟩
    ·cases hb
   ·cases hb

theorem Ja {k:IntKind}{i:Int}{y:Nat}(h0:0≤i)(hy:i.toNat≤y)(c:BoundsCode):(Instr.sliceBound (.int k i) y c).run P w=.ok i.toNat w:=by
 simp only[Instr.sliceBound,asIntOf,Sem.run_bind,Sem.run_pure,Result.andThen_ok];rw[Qlv xw];rfl

theorem HM (isSlice:Bool)(len cap:Nat){lo hi mx:Option Value}{l h m:Nat}(hl:BV lo 0 l)(hh:BV hi len h)(hm:BV mx cap m)(hs:mx.isSome=true→hi.isSome=true)(h1:l≤h)(h2:h≤m)(h3:m≤cap) :
  (Instr.sliceBounds isSlice len cap lo hi mx).run P w=.ok (l,h,m) w:=by
 rcases hm with⟨rfl,rfl⟩|⟨km,im,rfl,hm0,rfl⟩
 ·rcases hh with⟨rfl,rfl⟩|⟨kh,ih,rfl,hh0,rfl⟩
  ·rcases hl with⟨rfl,rfl⟩|⟨kl,il,rfl,hl0,rfl⟩
   ·rfl
   ·simp only[Instr.sliceBounds,Sem.run_bind,Sem.run_pure,Result.andThen_ok,Ja (P:=P) (w:=w) hl0 h1]
  ·have e:=fun c=>Ja (P:=P) (w:=w) (k:=kh) hh0 h2 c
   rcases hl with⟨rfl,rfl⟩|⟨kl,il,rfl,hl0,rfl⟩
   ·simp only[Instr.sliceBounds,Sem.run_bind,Sem.run_pure,Result.andThen_ok,e]
   ·simp only[Instr.sliceBounds,Sem.run_bind,Sem.run_pure,Result.andThen_ok,e,Ja (P:=P) (w:=w) hl0 h1]
 ·have em:=fun c=>Ja (P:=P) (w:=w) (k:=km) hm0 h3 c
  rcases hh with⟨rfl,rfl⟩|⟨kh,ih,rfl,hh0,rfl⟩
  ·simp at hs
  ·have e:=fun c=>Ja (P:=P) (w:=w) (k:=kh) hh0 h2 c
   rcases hl with⟨rfl,rfl⟩|⟨kl,il,rfl,hl0,rfl⟩
   ·simp only[Instr.sliceBounds,Sem.run_bind,Sem.run_pure,Result.andThen_ok,e,em]
   ·simp only[Instr.sliceBounds,Sem.run_bind,Sem.run_pure,Result.andThen_ok,e,em,Ja (P:=P) (w:=w) hl0 h1]

theorem K6 (l r:List AV):AV.rfL (l++r)=(AV.rfL l&&AV.rfL r):=by
 induction l with
 |nil=>rfl
 |cons x l ih=>simp[AV.rfL,ih,Ql9]
theorem P0 (l:List AV):AV.rfL l=l.all AV.rf:=by
 induction l with
 |nil=>rfl
 |cons x l ih=>simp[AV.rfL,ih]
theorem Jp {l r:List AV}(h:AV.rfL r=true)(hs:∀x∈l,x∈r):AV.rfL l=true:=by
 rw[P0,QlB]at *;exact fun x hx=>h x (hs x hx)
theorem Zr {l r:List AV}(h:r.all AV.leaf=true)(hs:∀x∈l,x∈r):l.all AV.leaf=true:=by
 rw[QlB]at *;exact fun x hx=>h x (hs x hx)
theorem JF {l r:List AV}(hs:∀x∈l,x∈r):∀x∈QP l,x∈QP r:=by
 intro x hx;simp only[QP,Qma]at *;obtain⟨y,hy,hx⟩:=hx;exact⟨y,hs y hy,hx⟩

theorem Rep.sub {l:List AV}{cs:List Value}{A:Option Addr}{sz:Nat}(hc:RepL G (QP l) cs)(hz:∀x∈l,x.cells.length=sz)(hf:AV.rfL (QP l)=true)(hl:(QP l).all AV.leaf=true)
  (hs:∀j u,cs[j]? = some u→∃b o,A=some ⟨b,o,none⟩∧G.stab b (o+j)=some (.cell u)) (i k c:Nat) (hik:i+k≤l.length) (hkc:k≤c) (hm:k≤maxLen) {A':Option Addr} (hA:∀b o,0<k→A=some ⟨b,o,none⟩→A'=some ⟨b,o+i*sz,none⟩) :
  Rep G (.list ((l.drop i).take k)) (.slice A' k c):=by
 have hmem:∀x∈(l.drop i).take k,x∈l:=fun x hx=>Qmb (Qmc hx)
 have hz':∀x∈l.drop i,x.cells.length=sz:=fun x hx=>hz x (Qmb hx)
 have e:QP ((l.drop i).take k)=((QP l).drop (i*sz)).take (k*sz):=by
  rw[Jt hz,J2 hz']
 refine .list (cs:=(cs.drop (i*sz)).take (k*sz)) (sz:=sz) ?_ (fun x hx=>hz x (hmem x hx)) (Jp hf (JF hmem)) (Zr hl (JF hmem)) ?_ xD hkc hm
 ·rw[e];exact hc.takeDrop _ _
 ·intro j u hu;rw[Ql3]at hu;split at hu
  ·rename_i hj;rw[Ql4]at hu;obtain⟨b,o,hAA,hst⟩:=hs _ u hu;have hk:0<k:=by
    rcases Qmd k with h0|h0
    ·subst h0;simp at hj
    ·exact h0
   exact⟨b,o+i*sz,hA b o hk hAA,by rw[Qlj];exact hst⟩
  ·cases hu

theorem KQ {t:TypeId}(h:Yy P t=true):P.underlying t=some .string:=by
 unfold Yy at h;split at h
 ·assumption
 ·cases h

def Sj (P:Program)(t:TypeId):Option Nat→Prop
 |none=>P.underlying t=some .string
 |some z=>∃e i,P.underlying t=some (.slice e)∧P.info? e=some i∧i.size=z

def MxV (m:Option Value):Option Nat→Prop
 |none=>m=none
 |some k=>m.isSome=true∧BV m 0 k

theorem UQ (h:Rel G B N st a w){x:AV}{n l hh:Nat}{sz mx:Option Nat}(hn:Jc x=some n){y:AV}(hx:Xo st.m sz x l hh mx=some y){v:Value}(hv:Rep G x v){t:TypeId}
  (ht:Sj P t sz) {lo hi m:Option Value} (hlo:BV lo 0 l) (hhi:BV hi n hh) (hm:MxV m mx) (hs:m.isSome=true→hi.isSome=true) :
  ∃r,(Instr.sliceAt t v lo hi m).run P w=.ok r w∧Rep G y r:=by
 cases sz with
 |none=>
  simp only[Xo]at hx;cases x with
  |str s=>
   simp only at hx;cases mx with
   |some k=>simp at hx
   |none=>
    simp only at hx;have hm':m=none:=hm;subst hm';split at hx
    ·rename_i hh2;cases hx;cases hv;simp only[Jc,QlP]at hn;have hb:=HM (P:=P) (w:=w) false s.length s.length hlo (by rw[hn];exact hhi) (mx:=none) (.inl ⟨rfl,rfl⟩) (fun e=>kZ) hh2.1 hh2.2 (Qlk _);refine⟨.string ⟨⟨(s.drop l).take (hh-l)⟩⟩,?_,.str _⟩;simp only[Instr.sliceAt,Sem.run_bind,run_underlying (show P.underlying t=some .string from ht),Result.andThen_ok,Instr.slice,Qme,QlH,if_false];have e:(ByteArray.size ⟨⟨s⟩⟩)=s.length:=rfl;rw[e,hb];simp only[Result.andThen_ok,Sem.run_pure,ByteArray.extract_mk]
    ·cases hx
  |_=>simp at hx
 |some z=>
  obtain⟨e,i,hte,hie,hiz⟩:=ht;simp only[Xo]at hx
  -- the run at a slice
  have run:∀(A:Option Addr) (k cap m':Nat),v=.slice A k cap→BV hi k hh→BV m cap m'→l≤hh→hh≤m'→m'≤cap→
    (Instr.sliceAt t v lo hi m).run P w=.ok (.slice (if m'=l then A else A.map (·.add (l*i.size))) (hh-l) (m'-l)) w:=by
   intro A k cap m' hvv hhi' hm' h1 h2 h3;subst hvv;have hb:=HM (P:=P) (w:=w) true k cap hlo hhi' hm' hs h1 h2 h3;simp only[Instr.sliceAt,Sem.run_bind,run_underlying hte,Result.andThen_ok,Instr.slice,hb,XR hie,Sem.run_pure]
  cases x with
  |nils=>
   simp only at hx;split at hx
   ·rename_i hh2;cases hx;cases hv;obtain⟨rfl,rfl,hm0⟩:=hh2;simp only[Jc,QlP]at hn;have hmb:BV m 0 0:=by
     cases mx with
     |none=>exact .inl ⟨hm,rfl⟩
     |some k=>simp at hm0;subst hm0;exact hm.2
    exact⟨.slice none 0 0,run none 0 0 0 rfl (by subst hn;exact hhi) hmb (Qlk _) (Qlk _) (Qlk _),.nils⟩
   ·cases hx
  |list xs=>
   simp only at hx;split at hx
   ·rename_i hh2;cases hx;obtain⟨h1,h2,h3,h4⟩:=hh2;simp only[Jc,QlP]at hn;cases hv with
    |list hc hz hf hl hst hn' hcap hmax=>
     rename_i cs A k cap sz';subst hn';have hmb:∃m',BV m cap m'∧hh≤m'∧m'≤cap:=by
      cases mx with
      |none=>exact⟨cap,.inl ⟨hm,rfl⟩,by simp at h2;omega,Qlk _⟩
      |some k=>
       obtain⟨hm1,hm2⟩:=hm;rcases hm2 with⟨e0,_⟩|hm2
       ·rw[e0]at hm1;cases hm1
       ·exact⟨k,.inr hm2,jA,by simp at h3;omega⟩
     obtain⟨m',hm',h5,h6⟩:=hmb;refine⟨_,run A xs.length cap m' rfl (by rw[hn];exact hhi) hm' h1 h5 h6,?_⟩;refine Rep.sub hc hz hf hl hst l (hh-l) (m'-l) xw xw xw (fun b o hpos hA=>?_);rw[Qlu xw,hA];simp only[QlO,XV,QlP,Addr.mk.injEq,and_true,Qmf];rcases Qmd l with h0|h0
     ·subst h0;simp
     ·have hall:=h4.resolve_left xw;have hpos':0<xs.length:=xw
      have e1:=hz (xs[0]'hpos') (Qmg _);have e2:=QlB.1 hall (xs[0]'hpos') (Qmg _);simp only[Qls]at e2;rw[hiz,←e2,e1]
   ·cases hx
  |vec lv s g o k q=>
   simp only at hx;split at hx
   ·rename_i g' z' xs hlk;split at hx
    ·rename_i hh2;cases hx;obtain⟨rfl,rfl,h1,h2,h3⟩:=hh2;simp only[Jc,QlP]at hn;subst hn;obtain⟨e1,e2,e3,e4⟩:=h.mr.vec lv s g z xs hlk;cases hv with
     |vec hone hg hh'=>
      rcases hh' e1.symm with⟨hvm,rfl,rfl,A0,rfl,hA0⟩|⟨b,A,c,hvm,hok,rfl,hkc,hcm,hq,hA⟩
      ·have hl0:l=0∧hh=0:=by
        cases mx with
        |none=>simp at h2;omega
        |some k'=>simp at h2 h3;omega
       obtain⟨rfl,rfl⟩:=hl0;have hmb:BV m 0 0:=by
        cases mx with
        |none=>exact .inl ⟨hm,rfl⟩
        |some k'=>simp at h3;subst h3;exact hm.2
       refine⟨.slice A0 0 0,run A0 0 0 0 rfl hhi hmb (Qlk _) (Qlk _) (Qlk _),.vec rfl (Ql8 e1.symm) fun _=>.inl ⟨hvm,rfl,rfl,A0,rfl,hA0⟩⟩
      ·have hmb:∃m',BV m c m'∧hh≤m'∧m'≤c∧(mx=none→m'=c):=by
        cases mx with
        |none=>exact⟨c,.inl ⟨hm,rfl⟩,by simp at h2;omega,Qlk _,fun _=>rfl⟩
        |some k'=>
         obtain⟨hm1,hm2⟩:=hm;rcases hm2 with⟨e0,_⟩|hm2
         ·rw[e0]at hm1;cases hm1
         ·exact⟨k',.inr hm2,jA,by simp at h3;omega,fun e=>kZ⟩
       obtain⟨m',hm',h5,h6,h7⟩:=hmb;have hhk:hh≤k:=by
        cases mx with
        |none=>simpa using h2
        |some k'=>simp at h2 h3;omega
       refine⟨_,run (some A) k c m' rfl hhi hm' h1 h5 h6,?_⟩;refine .vec rfl (Ql8 e1.symm) fun _=>.inr ⟨b,if m'=l then A else A.add (l*i.size),m'-l,hvm,xw,by split<;>rfl,xw,xw,?_,?_⟩
       ·intro hqq;simp only[Qmh]at hqq;have hmn:mx=none:=by cases mx<;>simp at hqq ⊢
        rw[h7 hmn,hq hqq.1];omega
       ·rintro⟨hlt,hqn⟩;by_cases hml:m'=l
        ·rw[Qlv hml];have hqf:q=false∧mx=none:=by
          rcases hqn with hqn|hqn
          ·simp only[Qmh]at hqn;exact⟨hqn.1,by cases mx<;>simp at hqn ⊢⟩
          ·omega
         have hc':=hq hqf.1;have hm'':=h7 hqf.2;have:l=0:=xw
         subst this;have hA':=hA ⟨xw,.inl hqf.1⟩;rw[hA'];simp
        ·rw[Qlu hml,hA ⟨xw,?_⟩,XV,hiz,e2,QlZ];rcases hqn with hqn|hqn
         ·simp only[Qmh]at hqn;exact .inl hqn.1
         ·exact .inr xw
    ·cases hx
   ·cases hx
  |_=>simp at hx

end

mutual
theorem LO {G:Gh}:∀ {x:AV} {v:Value},x.gr=true→Rep G x v→v=x.gv
 |.int k n,_,_,h=>by cases h;rfl
 |.bool b,_,_,h=>by cases h;rfl
 |.str s,_,_,h=>by cases h;rfl
 |.agg l,_,hg,h=>by
   cases h with
   |agg h=>rw[AV.gv,TH hg h]
 |.fn _ a b,_,hg,h=>by
   have h2:=Qlo.1 hg;cases a with
   |cons _ _=>cases h2.1
   |nil=>
   cases b with
   |cons _ _=>cases h2.2
   |nil=>
   cases h with
   |fn ha hb=>cases ha;cases hb;rfl
theorem TH {G:Gh}:∀ {l:List AV} {vs:List Value},AV.grL l=true→RepL G l vs→vs=AV.gvL l
 | [],_,_,h=>by cases h;rfl
 |x :: l,_,hg,h=>by
   have h2:=Qlo.1 hg;cases h with
   |cons h t=>rw[AV.gvL,←LO h2.1 h,←TH h2.2 t]
end
mutual
theorem GJ {G:Gh}:∀ {x:AV},x.gr=true→Rep G x x.gv
 |.int k n,_=>.int k n
 |.bool b,_=>.bool b
 |.str s,_=>.str s
 |.agg _,hg=>.agg (P1 hg)
 |.fn _ a b,hg=>by
   have h2:=Qlo.1 hg;cases a with
   |cons _ _=>cases h2.1
   |nil=>
   cases b with
   |cons _ _=>cases h2.2
   |nil=>exact .fn .nil .nil
theorem P1 {G:Gh}:∀ {l:List AV},AV.grL l=true→RepL G l (AV.gvL l)
 | [],_=>.nil
 |x :: _,hg=>by
   have h2:=Qlo.1 hg;exact .cons (GJ h2.1) (P1 h2.2)
end

def Uo (k:MK):List MK→List AV→Option (Nat×AV)
 |k' :: ks,v :: vs=>bif k.eq k' then some (0,v)else(Uo k ks vs).map fun p=>(p.1+1,p.2)
 |_,_=>none

theorem Vt (k:MK):∀(ks:List MK) (vs:List AV),Kd k ks vs=(Uo k ks vs).map (·.2)
 | [],vs=>by cases vs<;>rfl
 |k' :: ks,[]=>rfl
 |k' :: ks,v :: vs=>by
  simp only[Kd,Uo];cases k.eq k' with
  |true=>rfl
  |false=>
   simp only[cond_false,Vt k ks vs,Option.map_map];rfl

theorem Sk (a b:List UInt8):((⟨⟨a⟩⟩:ByteArray)==⟨⟨b⟩⟩)=(a==b):=by
 rw[Qmi,MapKept.bytes_beq]
 constructor
 ·intro h;cases h;simp
 ·intro h;rw[eq_of_beq h]

def kd:Bool→TypeDesc
 |true=>.string
 |false=>.int .i64
theorem NG {P:Program}{tx:Bool}{t:TypeId}(h:Cn P tx t=true):P.underlying t=some (kd tx):=by
 cases tx with
 |true=>exact KQ h
 |false=>
  have h:Y6 P t .i64=true:=h;unfold Y6 at h;split at h
  ·rename_i k hk;rw[hk,←eq_of_beq h];rfl
  ·cases h
theorem FF {G:Gh}{t:Bool}{x:AV}{k:MK}{v:Value}(h:K5 t x=some k)(hv:Rep G x v):k.t=t∧v=k.v:=by
 unfold K5 at h;split at h<;>cases h<;>cases hv<;>exact⟨rfl,rfl⟩
theorem P2 {k:MK}{t:Bool}(h:k.t=t):MapKept.IsKey (kd t) k.v:=by
 subst h;cases k<;>simp[MapKept.IsKey,kd,MK.t,MK.v]
theorem Qbm {k k':MK}{t:Bool}(h:k.t=t)(h':k'.t=t):Instr.sameNow (kd t) k.v k'.v=some (k.eq k'):=by
 subst h;cases k<;>cases k'<;>simp_all[MK.t,MK.v,MK.eq,kd,Instr.sameNow,Sk]

theorem MK.eq_of {a b:MK}(h:a.eq b=true):a=b:=by
 cases a<;>cases b<;>simp_all[MK.eq]
theorem HN {k:MK}{t:Bool}(hk:k.t=t):∀(ks:List MK) (vs:List AV) (i n:Nat),keys t ks=true→Instr.findNow (kd t) k.v (Jn ks vs i) n=some ((Uo k ks vs).map fun p=>(n+p.1,p.2.gv))
 | [],vs,i,n,_=>by cases vs<;>rfl
 |k' :: ks,[],i,n,_=>rfl
 |k' :: ks,v :: vs,i,n,h=>by
  have h2:(k'.t==t&&keys t ks)=true:=h;rw[QlM,Qls]at h2;simp only[Jn,Instr.findNow,Qbm hk h2.1,Uo];cases k.eq k' with
  |true=>rfl
  |false=>
   simp only[cond_false,HN hk ks vs (i+1) (n+1) h2.2,Option.map_map];congr 2
   funext p;simp only[Function.comp];congr 1
   omega

theorem Gz {P:Program}{w:World}{t kt et:TypeId}{b:Nat}{ks:List MK}{vs:List AV}{k:MK}{z:Value}{tx:Bool}(hkt:k.t=tx)(hks:keys tx ks=true)(ok:Bool)(ht:P.underlying t=some (.map kt et))(hk:P.underlying kt=some (kd tx))
  (hb:w.heap[b]? = some (IT.obj (.mp ks vs) 0)) (hz:(zeroValue et).run P w=.ok z w) :
  (Instr.lookup t (.map (some b)) k.v ok).run P w=.ok (if ok then .tuple #[((Kd k ks vs).map AV.gv).getD z,.bool (Kd k ks vs).isSome]else((Kd k ks vs).map AV.gv).getD z) w:=by
 have hc:∀e,(Instr.checkKey e 10000 kt k.v).run P w=.ok () w:=fun e=>MapKept.run_checkKey (k:=k.v) hk (P2 hkt) e 9999
 have hb:w.heap[b]? = some (.map ⟨Jn ks vs 0⟩ (Jn ks vs 0).length):=hb;have hf:=MapKept.run_findKey (w:=w) hk (HN hkt ks vs 0 0 hks);rw[Vt];cases hm:Uo k ks vs with
 |none=>
  rw[hm]at hf;cases ok<;>simp[Instr.lookup,run_underlying ht,MapKept.run_getObj_map hb,hc,hf,hz,Result.andThen]
 |some p=>
  rw[hm]at hf;cases ok<;>simp[Instr.lookup,run_underlying ht,MapKept.run_getObj_map hb,hc,hf,Result.andThen]

theorem Bh (k:MK)(x:AV):∀(ks:List MK) (vs:List AV) (i:Nat),ks.length=vs.length→Uo k ks vs=none→
  Jn (Zn k x ks vs).1 (Zn k x ks vs).2 i=Jn ks vs i++[{ key:=k.v,val:=x.gv,born:=i+(Jn ks vs i).length }]
 | [],[],i,_,_=>rfl
 | [],v :: vs,i,h,_=>by cases h
 |k' :: ks,[],i,h,_=>by cases h
 |k' :: ks,v :: vs,i,hl,h=>by
  simp only[Uo]at h;simp only[Zn];cases hk:k.eq k' with
  |true=>rw[hk]at h;cases h
  |false=>
   rw[hk]at h;simp only[cond_false,Option.map_eq_none_iff]at h;simp only[cond_false,Jn,Bh k x ks vs (i+1) kD h,QlK,QlD];congr 4
   omega

theorem Bi (k:MK)(x:AV):∀(ks:List MK) (vs:List AV) (i j:Nat) (v:AV),Uo k ks vs=some (j,v)→
  Jn (Zn k x ks vs).1 (Zn k x ks vs).2 i=(Jn ks vs i).modify j (fun e=>{ e with key:=k.v,val:=x.gv })∧(Jn ks vs i)[j]?.map (·.key)=some k.v
 | [],vs,i,j,v,h=>by cases vs<;>cases h
 |k' :: ks,[],i,j,v,h=>by cases h
 |k' :: ks,u :: vs,i,j,v,h=>by
  simp only[Uo]at h;simp only[Zn];cases hk:k.eq k' with
  |true=>
   rw[hk]at h;cases h;have e:=MK.eq_of hk;subst e;exact⟨rfl,rfl⟩
  |false=>
   rw[hk]at h;simp only[cond_false,Qlp]at h;obtain⟨p,h,e⟩:=h;cases e;obtain⟨h1,h2⟩:=Bi k x ks vs (i+1) p.1 p.2 h;simp only[cond_false,Jn,h1];exact⟨rfl,jA⟩

theorem FG {P:Program}{w:World}{t kt et:TypeId}{b p:Nat}{ks:List MK}{vs:List AV}{k:MK}{x:AV}{tx:Bool}(hkt:k.t=tx)(hks:keys tx ks=true)(hl:ks.length=vs.length)(ht:P.underlying t=some (.map kt et))(hk:P.underlying kt=some (kd tx))
  (hb:w.heap[b]? = some (IT.obj (.mp ks vs) p)) :
  (Instr.mapUpdate t (.map (some b)) k.v x.gv).run P w=.ok () { w with heap:=w.heap.setIfInBounds b (IT.obj (.mp (Zn k x ks vs).1 (Zn k x ks vs).2) p) }:=by
 have hkey:MapKept.IsKey (kd tx) k.v:=P2 hkt;have hc:∀e,(Instr.checkKey e 10000 kt k.v).run P w=.ok () w:=fun e=>MapKept.run_checkKey (k:=k.v) hk hkey e 9999
 have hb:w.heap[b]? = some (.map ⟨Jn ks vs 0⟩ (Jn ks vs 0).length):=hb;have hf:=MapKept.run_findKey (w:=w) hk (HN hkt ks vs 0 0 hks);cases hm:Uo k ks vs with
 |none=>
  rw[hm]at hf;have he:=Bh k x ks vs 0 hl hm;simp only[IT.obj,he];simp[Instr.mapUpdate,run_underlying ht,MapKept.run_getObj_map hb,hc,hf,MapKept.run_setObj_map _ hb,Result.andThen]
 |some q=>
  rw[hm]at hf;obtain⟨he,hj⟩:=Bi k x ks vs 0 q.1 q.2 hm;simp only[IT.obj,he];have hj':∃e,(Jn ks vs 0)[q.1]? = some e∧e.key=k.v:=by
   cases hq:(Jn ks vs 0)[q.1]? with
   |none=>rw[hq]at hj;cases hj
   |some e=>rw[hq]at hj;exact⟨e,rfl,by simpa using hj⟩
  obtain⟨e,hq,hek⟩:=hj';have hq2:(⟨Jn ks vs 0⟩:Array MapEntry)[q.1]? = some e:=by simpa using hq
  simp[Instr.mapUpdate,run_underlying ht,MapKept.run_getObj_map hb,hc,hf,hq,hek,MapKept.run_keyThatStays hkey,MapKept.run_setObj_map _ hb,Result.andThen]

section
variable {P:Program}{G:Gh}{B N:Nat}{st:St}{a:Act}{w:World}

theorem WQ (h:Rel G B N st a w){x:AV}{l:List AV}(hx:Q1 st.m x=some l){v:Value}(hv:Rep G x v) :
  ∃A c,v=.slice A l.length c∧∃sz cs,RepL G (QP l) cs∧Elems sz l∧∀j u,cs[j]? = some u→∃b o,A=some ⟨b,o,none⟩∧w.cell? ⟨b,o+j,none⟩=some u:=by
 cases x with
 |nils=>
  simp only[Q1,QlP]at hx;subst hx;cases hv;exact⟨none,0,rfl,0,[],.nil,⟨xA,rfl,rfl⟩,xA⟩
 |list l'=>
  simp only[Q1,QlP]at hx;subst hx;cases hv with
  |list hc hz hf hl hs hn hcap hm=>
   subst hn;exact⟨_,_,rfl,_,_,hc,⟨hz,hf,hl⟩,fun j u hu=>by
    obtain⟨b,o,e,hst⟩:=hs j u hu;exact⟨b,o,e,h.mr.stab _ _ _ hst⟩⟩
 |vec lv s g o k q=>
  simp only[Q1]at hx;split at hx
  ·rename_i g' z xs hlk;split at hx
   ·rename_i hh;cases hx;obtain⟨e1,e2,e3,e4⟩:=h.mr.vec lv s g' z xs hlk;have hlen:((xs.drop o).take k).length=k:=xD
    rw[hlen];have hmem:∀x∈(xs.drop o).take k,x∈xs:=fun x hx=>Qmb (Qmc hx)
    have hel:Elems z ((xs.drop o).take k):=⟨fun x hx=>e3.size x (hmem x hx),Jp e3.rf (JF hmem),Zr e3.leaf (JF hmem)⟩;cases hv with
    |vec hone hg hh'=>
     rcases hh' (by rw[e1];exact hh.1)with⟨hvm,rfl,rfl,A0,rfl,hA0⟩|⟨b,A,c,hvm,hok,rfl,hkc,hcm,hq,hA⟩
     ·exact⟨A0,0,rfl,z,[],by simp;exact .nil,hel,xA⟩
     ·rcases e4 with⟨e,_⟩|⟨b',e,hrow⟩
      ·rw[hvm]at e;cases e
      ·rw[hvm]at e;cases e;obtain⟨cur,hsoft,hcs,hrep⟩:=hrow.cur;have hr:=hrep.takeDrop (o*z) (k*z);rw[Jt e3.size,J2 (fun x hx=>e3.size x (Qmb hx))]at hr;refine⟨some A,c,rfl,z,_,hr,hel,fun j u hu=>?_⟩;rw[Ql3]at hu;split at hu
       ·rename_i hj;rw[Ql4,Ql3]at hu;split at hu
        ·have hk:0<k:=by
          rcases Qmd k with h0|h0
          ·subst h0;simp at hj
          ·exact h0
         have hA':=hA ⟨by have:=hrow.le;omega,.inr hk⟩;rw[e2]at hA';refine⟨b,o*z,by rw[hA'],?_⟩;rw[hsoft.cell]
         simpa using hu
        ·cases hu
       ·cases hu
   ·cases hx
  ·cases hx
 |_=>simp[Q1]at hx

theorem Bj:∀ {l:List AV} {s:List UInt8} {vs:List Value},bytesOf l=some s→RepL G l vs→∃ns:List Int,vs=ns.map (Value.int .u8)∧s=ns.map fun n=>UInt8.ofNat n.toNat
 | [],s,vs,hb,hr=>by
   cases hb;cases hr;exact⟨[],rfl,rfl⟩
 |x :: l,s,vs,hb,hr=>by
   unfold bytesOf at hb;split at hb
   ·rename_i h;cases h
   ·rename_i n l' h;cases h;simp only[Qlp]at hb;obtain⟨s',hb,rfl⟩:=hb;cases hr with
    |cons h t=>
     obtain⟨ns,rfl,rfl⟩:=Bj hb t;cases h;exact⟨n :: ns,rfl,rfl⟩
   ·cases hb

theorem Cu {l:List AV}{s:List UInt8}(h:bytesOf l=some s):QP l=l:=by
 induction l generalizing s with
 |nil=>rfl
 |cons x l ih=>
  unfold bytesOf at h;split at h
  ·rename_i e;cases e
  ·rename_i n l' e;cases e;simp only[Qlp]at h;obtain⟨s',h,rfl⟩:=h;rw[Ze,ih h];rfl
  ·cases h

theorem Qc2 (h:Rel G B N st a w){x:AV}{l:List AV}(hx:Q1 st.m x=some l){s:List UInt8}(hs:bytesOf l=some s){v:Value}(hv:Rep G x v):(Conv.bytesToString v).run P w=.ok (.string ⟨⟨s⟩⟩) w:=by
 obtain⟨A,c,rfl,sz,cs,hr,hel,hcell⟩:=WQ h hx hv;rw[Cu hs]at hr;obtain⟨ns,rfl,rfl⟩:=Bj hs hr;have hlen:=hr.length;simp only[Qmj]at hlen;cases ns with
 |nil=>
  simp only[Qmk]at hlen;rw[←hlen];cases A<;>rfl
 |cons n ns=>
  obtain⟨b,o,rfl,_⟩:=hcell 0 _ rfl;have hl:=run_loadCells_list (P:=P) w ⟨b,o,none⟩ ((n :: ns).map (Value.int .u8)) (fun j u hu=>by
   obtain⟨b',o',e,hc⟩:=hcell j u hu;cases e;rw[XV];exact hc)
  simp only[Qmj]at hl;rw[←hlen,run_bytesToString w _ _ c (n :: ns) hl];congr 2
  have aux:∀(l:List Int) (r:List UInt8),l.foldl (fun r n=>r.push (UInt8.ofNat n.toNat)) (⟨⟨r⟩⟩:ByteArray)=⟨⟨r++l.map fun n=>UInt8.ofNat n.toNat⟩⟩:=by
   intro l
   induction l with
   |nil=>intro r;simp
   |cons k l ih=>
    intro r;have e:(⟨⟨r⟩⟩:ByteArray).push (UInt8.ofNat k.toNat)=⟨⟨r++[UInt8.ofNat k.toNat]⟩⟩:=by
     simp[ByteArray.push]
    rw[List.foldl_cons,e,ih];simp
  exact aux (n :: ns) []

def Qc3 (P:Program)(t:TypeId)(sz:Nat):Option Nat→Prop
 |none=>∃e j,P.underlying t=some (.slice e)∧P.info? e=some j∧j.size=sz
 |some n=>∃e j,P.underlying t=some (.array n e)∧P.info? e=some j∧j.size=sz

theorem TJ (h:Rel G B N st a w){sz:Nat}(hsz0:sz≠0){len:Option Nat}{x:AV}{i:Int}{y:AV}(hx:Qf st.m sz len x i=some y){v:Value}(hv:Rep G x v){t:TypeId}{k:IntKind}
  (ht:Qc3 P t sz len) :
  ∃r,(Instr.indexAt t v (.int k i)).run P w=.ok r w∧Rep G y r:=by
 unfold Qf at hx;split at hx
 case isFalse=>cases hx
 rename_i h0;cases len with
 |none=>
  obtain⟨ety,j,hu,hi,hj⟩:=ht;have runS:∀(b o n c:Nat),v=.slice (some ⟨b,o,none⟩) n c→i.toNat<n→(Instr.indexAt t v (.int k i)).run P w=.ok (.pointer (some ⟨b,o+i.toNat*sz,none⟩)) w:=by
   intro b o n c hv' hlt;subst hv';simp only[Instr.indexAt,asIntOf,Sem.run_bind,Sem.run_pure,Result.andThen_ok,run_underlying hu];exact yR
  simp only at hx;cases x with
  |list l=>
   simp only at hx;split at hx
   ·rename_i e he;split at hx
    ·rename_i hsz;cases hx;cases hv with
     |list hc hz hf hl hst hn hcap hmax=>
      rename_i cs A n cap sz';have hlt:=(Qlm.1 he).1;have hmem:=QlC he;have hsz':=hz e hmem;have hesz:sz'=sz:=by rw[←hsz',hsz]
      subst hesz;have hsub:((QP l).drop (i.toNat*sz')).take sz'=e.cells:=by
       have h1:=Jt hz i.toNat;rw[h1];have h2:l.drop i.toNat=e :: l.drop (i.toNat+1):=by
        rw[Ql7 hlt];congr 1
        exact(Qlm.1 he).2
       rw[h2,Ze,List.take_append,hsz'];simp[QlY (Ql8 hsz')]
      have hrc:RepL G e.cells ((cs.drop (i.toNat*sz')).take sz'):=by
       rw[←hsub];exact hc.takeDrop _ _
      have hmf:∀x∈e.cells,x∈QP l:=fun x hx=>Qma.2 ⟨e,hmem,hx⟩
      have hcl:0<((cs.drop (i.toNat*sz')).take sz').length:=by rw[hrc.length,hsz];omega
      obtain⟨u0,hu0⟩:∃u,(cs.drop (i.toNat*sz'))[0]? = some u:=by
       rw[Qml]at hcl;exact⟨_,Qln xw⟩
      rw[Ql4]at hu0;obtain⟨b,o,hA,_⟩:=hst _ u0 hu0;refine⟨_,runS b o n cap (by rw[hA]) xw,?_⟩;refine .rptr hrc (Jp hf hmf) (Zr hl hmf) (fun q u hq=>?_);rw[Ql3]at hq;split at hq
      ·rw[Ql4]at hq;obtain⟨b',o',hA',hst'⟩:=hst _ u hq;rw[hA]at hA';cases hA';rw[Qlj];exact hst'
      ·cases hq
    ·cases hx
   ·cases hx
  |vec lv s g o n q=>
   simp only at hx;split at hx
   ·rename_i g' z xs hlk;split at hx
    ·rename_i hh;obtain⟨rfl,rfl,hlt⟩:=hh;cases hx;obtain⟨e1,e2,e3,e4⟩:=h.mr.vec lv s g sz xs hlk;cases hv with
     |vec hone hg hh'=>
      rcases hh' e1.symm with⟨hvm,rfl,rfl,A0,rfl,hA0⟩|⟨b,A,c,hvm,hok,rfl,hkc,hcm,hq,hA⟩
      ·omega
      ·have hovc:o<G.vc lv s:=Qlw (Nat.lt_of_le_of_lt (Nat.le_add_right o i.toNat) (Nat.add_lt_add_left hlt o)) hok;have hA':=hA ⟨.inl hovc,.inr (Nat.lt_of_le_of_lt (Qlx _) hlt)⟩;rw[e2]at hA';refine⟨_,runS b (o*sz) n c (by rw[hA']) hlt,.vptr rfl (Ql8 e1.symm) fun _=>⟨b,hvm,?_⟩⟩;rw[e2,QlV,QlZ]
    ·cases hx
   ·cases hx
  |_=>simp at hx
 |some n=>
  obtain⟨ety,j,hu,hi,hj⟩:=ht;have runA:∀(b o:Nat),v=.pointer (some ⟨b,o,none⟩)→i.toNat<n→(Instr.indexAt t v (.int k i)).run P w=.ok (.pointer (some ⟨b,o+i.toNat*sz,none⟩)) w:=by
   intro b o hv' hlt;subst hv';simp only[Instr.indexAt,asIntOf,Sem.run_bind,Sem.run_pure,Result.andThen_ok,run_underlying hu,Instr.sureAddr];exact yR
  simp only at hx;cases x with
  |ptr lv s o=>
   simp only at hx;split at hx
   ·rename_i hlt;cases hx;cases hv with
    |ptr hb=>exact⟨_,runA _ o rfl hlt,.ptr hb⟩
   ·cases hx
  |rptr xs=>
   simp only at hx;split at hx
   ·rename_i hlt;cases hx;cases hv with
    |rptr hc hf hl hs=>
     exact⟨_,runA _ _ rfl hlt,.rptr (hc.drop _) (Jp hf fun x hx=>Qmb hx) (Zr hl fun x hx=>Qmb hx) (fun q u hq=>by
      rw[Ql4]at hq;rw[Qlj];exact hs _ u hq)⟩
   ·cases hx
  |_=>simp at hx

theorem Cv (h:Rel G B N st a w){l s g:Nat}(hg:YT st.m l s=some g):g=G.vg l s:=by
 unfold YT at hg;split at hg
 ·rename_i g' z xs hlk;cases hg;exact(h.mr.vec l s g z xs hlk).1.symm
 ·cases hg

theorem Bk (h:Rel G B N st a w){x:AV}{ks:List MK}{vs:List AV}(hx:KP st.m x=some (ks,vs)){v:Value}(hv:Rep G x v):∃b,v=.map (some b)∧w.heap[b]? = some (IT.obj (.mp ks vs) 0):=by
 cases x with
 |mp ks' vs'=>
  cases hx;cases hv with
  |mp hb=>exact⟨_,rfl,h.mr.stab _ _ _ hb⟩
 |mptr l s=>
  simp only[KP]at hx;split at hx
  ·rename_i hl;cases hx;cases hv with
   |mptr hb=>
    obtain⟨b',e',hh⟩:=h.mr.iter l s _ _ hl;rw[hb]at e';cases e';exact⟨_,rfl,hh⟩
  ·cases hx
 |_=>cases hx

theorem Fj {t:TypeId}(h:Um P t=true):∃d,P.underlying t=some d∧∀m,d≠.interface m:=by
 cases hu:P.underlying t with
 |none=>simp[Um,hu]at h
 |some d=>
  refine⟨d,rfl,fun m e=>?_⟩;subst e;simp[Um,hu]at h

theorem Ic {f:Fr}{m:Qk}{sz:Option Nat}{r:RA}{lo hi mx:Option RA}{x:AV}(hx:Qx f m (.slcp sz r lo hi mx)=some x):Qx f m (.slc sz r lo hi mx)=some x:=by
 have key:∀(l:List AV) (sz:Option Nat) (a b:Nat) (c:Option Nat),Xo [] sz (.list l) a b c=Xo m sz (.list l) a b c:=by
  intro l sz a b c;cases sz<;>rfl
 simp only[Qx]at hx ⊢;split at hx
 ·rename_i l e;rw[e];simp only[Jc];cases ha:Js f 0 lo with
  |none=>
   rw[ha]at hx;cases hx
  |some a=>
   rw[ha]at hx;simp only at hx ⊢;cases hb:Js f l.length hi with
   |none=>
    rw[hb]at hx;cases hx
   |some b=>
    rw[hb]at hx;simp only at hx ⊢;cases mx with
    |none=>
     simp only at hx ⊢;rw[←key];exact hx
    |some r=>
     simp only at hx ⊢;cases hc:Js f 0 (some r)with
     |none=>
      rw[hc]at hx;cases hx
     |some c=>
      rw[hc]at hx;simp only at hx ⊢;rw[←key];exact hx
 ·cases hx

theorem Qc4 (h:Rel G B N st a w){vo:VO}{x:AV}(hx:Qx st.f st.m vo=some x){o:Oper}(hc:Zd P o.op vo=true):∃v,(execOp a.eval o).run P w=.ok (.value v) w∧Rep G x v:=by
 obtain⟨dst,op,ty,pos,after,guard⟩:=o;simp only at hc;cases vo with
 |mov r=>
  simp only[Qx,QlP]at hx;subst hx;cases op<;>simp only[Zd,QlH]at hc<;>exact⟨_,rfl,Qv h hc⟩
 |pick c p q=>
  cases op<;>simp only[Zd,QlH,QlM]at hc;rename_i oc op' oq;obtain⟨⟨h1,h2⟩,h3⟩:=hc;have r1:=Qv h h1;simp only[Qx]at hx;split at hx
  ·rename_i b e;cases hx;rw[e]at r1;have hv:a.eval oc=.bool b:=by
    revert r1
    generalize a.eval oc=v;intro r1;cases r1;rfl
   refine⟨if b then a.eval op' else a.eval oq,by simp[execOp,hv,asBool],?_⟩;cases b
   ·exact Qv h h3
   ·exact Qv h h2
  ·cases hx
 |build z ps=>
  cases op<;>simp only[Zd,QlH]at hc;rename_i t Qo;split at hc
  ·rename_i fs i hu hi;split at hc
   ·rename_i zv pl hz hpl;simp only[QlM]at hc;simp only[Qx,Qlp]at hx;obtain⟨y,hy,rfl⟩:=hx;obtain⟨cs,h1,h2⟩:=PZ h hc.2 (isCL_ok hc.1) hy;refine⟨.agg cs,?_,.agg h2⟩;have hpl':(fs.mapM fun f=>(do pure (f.offset,←sizeOf f.type):Sem (Nat×Nat))).run P w=.ok pl.toArray w:=by
     unfold Co at hpl;rw[Array.mapM_eq_mapM_toList];simp only[Sem.run_map];have aux:∀(l:List Field) (pl:List (Nat×Nat)),(l.mapM fun fl=>(P.info? fl.type).map fun i=>(fl.offset,i.size))=some pl→
       (l.mapM fun f=>(do pure (f.offset,←sizeOf f.type):Sem (Nat×Nat))).run P w=.ok pl w:=by
      intro l
      induction l with
      |nil=>intro pl e;simp at e;subst e;rfl
      |cons f l ih=>
       intro pl e;simp only[List.mapM_cons,Option.bind_eq_bind,Option.bind_eq_some_iff,Qlp,Option.pure_def,QlP]at e;obtain⟨p,⟨i,hi,rfl⟩,pl',e,rfl⟩:=e;simp only[List.mapM_cons,Sem.run_bind,XR hi,Result.andThen_ok,Sem.run_pure,ih pl' e]
     rw[aux _ pl hpl];rfl
    simp only[execOp,Instr.build,zeroValue,typeInfo,Sem.run_bind,run_program,Result.andThen_ok,hi,Sem.run_pure,hz,run_underlying hu,hpl'];have e:(fun(x:Nat)=>(pl.toArray)[x]?)=(fun(x:Nat)=>pl[x]?):=by funext x;simp
    have e2:(Qo.map fun(x:Nat×Operand)=>(x.1,a.eval x.2)).toList=Qo.toList.map fun x=>(x.1,a.eval x.2):=xA
    rw[e,e2,h1];rfl
   ·cases hc
  ·rename_i k e i hu hi;split at hc
   ·rename_i zv ie hz hie;simp only[QlM]at hc;simp only[Qx,Qlp]at hx;obtain⟨y,hy,rfl⟩:=hx;obtain⟨cs,h1,h2⟩:=Ct h hc.2 (isCL_ok hc.1) hy;refine⟨.agg cs,?_,.agg h2⟩;simp only[execOp,Instr.build,zeroValue,typeInfo,Sem.run_bind,run_program,Result.andThen_ok,hi,Sem.run_pure,hz,run_underlying hu,XR hie];have e2:(Qo.map fun(x:Nat×Operand)=>(x.1,a.eval x.2)).toList=Qo.toList.map fun x=>(x.1,a.eval x.2):=xA
    rw[e2,h1];rfl
   ·cases hc
  ·cases hc
 |load k r=>
  cases op<;>simp only[Zd,QlH,QlM,Qls]at hc;rename_i t y;obtain⟨v,h1,h2⟩:=Un (P:=P) h hx (Qv h hc.2) hc.1;exact⟨v,by simp[execOp,h1],h2⟩
 |loado k r=>
  have hx':Xn st.m k (r.ev st.f)=some x:=by
   simp only[Qx]at hx;split at hx
   ·rename_i e;rw[e];exact hx
   ·cases hx
  exact oX
 |loadv l s k r=>
  have hx':Xn st.m k (r.ev st.f)=some x:=by
   simp only[Qx]at hx;split at hx
   ·rename_i e;split at hx
    ·rw[e];exact hx
    ·cases hx
   ·cases hx
  exact oX
 |loadr k r=>
  have hx':Xn st.m k (r.ev st.f)=some x:=by
   simp only[Qx]at hx;split at hx
   ·rename_i e;rw[e];exact hx
   ·rename_i e;rw[e];exact hx
   ·cases hx
  exact oX
 |nilck r=>
  cases op<;>simp only[Zd,QlH]at hc;rename_i y;have r1:=Qv h hc;simp only[Qx]at hx;split at hx
  ·rename_i e;cases hx;rw[e]at r1;simp only[execOp];generalize a.eval y=v at r1 ⊢;cases r1 with
   |ptr hb=>exact⟨_,rfl,.ptr hb⟩
  ·rename_i e;split at hx
   ·rename_i hg;cases hx;rw[e]at r1;simp only[execOp];generalize a.eval y=v at r1 ⊢;cases r1 with
    |vptr h1 h2 h3=>
     obtain⟨b,hb,rfl⟩:=h3 (Cv h hg);exact⟨_,rfl,.vptr h1 h2 fun _=>⟨b,hb,rfl⟩⟩
   ·cases hx
  ·rename_i e;cases hx;rw[e]at r1;simp only[execOp];generalize a.eval y=v at r1 ⊢;cases r1 with
   |rptr h1 h2 h3 h4=>exact⟨_,rfl,.rptr h1 h2 h3 h4⟩
  ·rename_i e;cases hx;rw[e]at r1;simp only[execOp];generalize a.eval y=v at r1 ⊢;cases r1 with
   |fn h1 h2=>exact⟨_,rfl,.fn h1 h2⟩
  ·cases hx
 |bin ty o r s=>
  cases op<;>simp only[Zd,QlH,QlM,Qls]at hc;rename_i o' t y z yt;obtain⟨⟨⟨rfl,h1⟩,h2⟩,h3⟩:=hc;obtain⟨v,h4,h5⟩:=Qbj (P:=P) (w:=w) hx (Qv h h2) (Qv h h3) h1 y z;exact⟨v,by simp only[execOp,Sem.run_bind]at h4 ⊢;rw[h4];rfl,h5⟩
 |eqs neg ks r s=>
  cases op<;>simp only[Zd,QlH,QlM,Qls,Qmm]at hc;rename_i o' t y z yt;obtain⟨⟨⟨⟨⟨ho,h1⟩,hst⟩,hge⟩,h2⟩,h3⟩:=hc;simp only[Qx]at hx;split at hx
  ·rename_i l1 l2 e1 e2;split at hx
   ·rename_i b hb;cases hx;have r1:=Qv h h2;have r2:=Qv h h3;rw[e1]at r1;rw[e2]at r2;simp only[execOp];generalize a.eval y=v at r1 ⊢;generalize a.eval z=u at r2 ⊢;cases r1 with
    |agg r1=>
     cases r2 with
     |agg r2=>
      rename_i vs us;split at h1
      ·rename_i fs hu;have hf:P.fieldsOf t=fs:=by simp[Program.fieldsOf,hu]
       have heq:=run_equalIn_struct (P:=P) w 9999 t ⟨vs⟩ ⟨us⟩ (by rw[hf];exact hu) hst;rw[hf,Fi (P:=P) (w:=w) 9998 ⟨vs⟩ ⟨us⟩ fs.toList ks 0 l1 l2 b h1 (by simpa using r1) (by simpa using r2) hb]at heq;simp only[Sem.run_bind,run_eqGuard_agg w o' t y z ⟨vs⟩ ⟨us⟩ hge,Result.andThen_ok];cases neg with
       |false=>
        simp only[QlH,if_false]at ho;subst ho;exact⟨_,by rw[run_eql_struct,heq];rfl,.bool _⟩
       |true=>
        simp only[if_true]at ho;subst ho;exact⟨_,by rw[run_neq_struct,heq];rfl,.bool _⟩
      ·cases h1
   ·cases hx
  ·cases hx
 |un o r=>
  cases op<;>simp only[Zd,QlH,QlM,Qls]at hc;obtain⟨rfl,h1⟩:=hc;obtain⟨v,h4,h5⟩:=Qc0 (P:=P) (w:=w) hx (Qv h h1);exact⟨v,by simp[execOp,h4],h5⟩
 |cvi k r=>
  cases op<;>simp only[Zd,QlH,QlM]at hc;rename_i src dst' y;obtain⟨⟨h1,h2⟩,h3⟩:=hc;have r1:=Qv h h3;simp only[Qx]at hx;split at hx
  ·rename_i k' n e;cases hx;rw[e]at r1;have hd:P.underlying dst'=some (.int k):=by
    unfold Y6 at h1;split at h1
    ·rename_i k'' hk;simp only[Qls]at h1;subst h1;exact hk
    ·cases h1
   obtain⟨ds,hs⟩:=QlQ.1 h2;simp only[execOp];generalize a.eval y=v at r1 ⊢;cases r1;refine⟨.int k (k.wrap n),?_,.int _ _⟩;simp only[convert,Sem.run_bind,run_underlying hs,run_underlying hd,Result.andThen_ok,Conv.intToInt];rfl
  ·cases hx
 |b2s r=>
  cases op<;>simp only[Zd,QlH,QlM]at hc;rename_i src dst' y;obtain⟨⟨h1,h2⟩,h3⟩:=hc;have r1:=Qv h h3;simp only[Qx]at hx;split at hx
  ·rename_i l e;simp only[Qlp]at hx;obtain⟨s,hs,rfl⟩:=hx;split at h2
   ·rename_i e' hsrc;simp only[QlM]at h2;have he:P.underlying e'=some (.int .u8):=by
     have:=h2.1;unfold Y6 at this;split at this
     ·rename_i k'' hk;simp only[Qls]at this;subst this;exact hk
     ·cases this
    obtain⟨A,c,hv,_⟩:=WQ h e r1;have hrun:=Qc2 (P:=P) h e hs r1;simp only[execOp];rw[hv]at hrun ⊢;refine⟨.string ⟨⟨s⟩⟩,?_,.str _⟩;simp only[Sem.run_bind,run_convert_bytes_string w src dst' e' A _ c hsrc he (KQ h1),hrun];rfl
   ·cases h2
  ·cases hx
 |slcl r hi mx=>
  cases op<;>simp only[Zd,QlH]at hc;rename_i t x olo ohi omx;cases olo with
  |some _=>simp at hc
  |none=>
  cases ohi with
  |none=>simp at hc
  |some y=>
  cases omx with
  |none=>simp at hc
  |some z=>
  simp only[QlM]at hc;obtain⟨⟨⟨hty,hcx⟩,hcy⟩,hcz⟩:=hc;have rx:=Qv h hcx;have ry:=Qv h hcy;have rz:=Qv h hcz;simp only[Qx]at hx;split at hx
  ·rename_i l hl;split at hx
   ·rename_i ka a hy;split at hx
    ·rename_i kb b hz;split at hx
     ·rename_i hab;cases hx;obtain⟨rfl,rfl⟩:=hab;rw[hl]at rx;rw[hy]at ry;rw[hz]at rz;cases hu:P.underlying t with
      |none=>simp[hu]at hty
      |some dd=>
       cases dd with
       |slice e=>
        simp only[hu,QlQ]at hty;obtain⟨i,hi⟩:=hty;have ey:a.eval y=.int ka (l.length:Int):=by
         revert ry;generalize a.eval y=u;intro ry;cases ry;rfl
        have ez:a.eval z=.int kb (l.length:Int):=by
         revert rz;generalize a.eval z=u;intro rz;cases rz;rfl
        revert rx
        generalize hxv:a.eval x=v;intro rx;cases rx with
        |list hc hzz hf hlf hst hn' hcap hmax=>
         rename_i cs A n cap sz';subst hn';have hb:=HM (P:=P) (w:=w) true l.length cap (lo:=none) (hi:=some (.int ka (l.length:Int))) (mx:=some (.int kb (l.length:Int))) (l:=0) (h:=l.length) (m:=l.length) (.inl ⟨rfl,rfl⟩) (.inr ⟨ka,_,rfl,xw,xA⟩) (.inr ⟨kb,_,rfl,xw,xA⟩) (fun _=>rfl) (Qlx _) (Qlk _) hcap;refine⟨.slice (if l.length=0 then A else A.map (·.add (0*i.size))) l.length l.length,?_,Rep.tolcap ?_⟩
         ·simp only[execOp,hxv,Sem.run_bind,Option.map_none,QlO,ey,ez,Instr.sliceAt,run_underlying hu,Result.andThen_ok,Instr.slice,hb,XR hi,Sem.run_pure,Qmn]
          try rfl
         ·have:=Rep.sub hc hzz hf hlf hst 0 l.length l.length xw (Qlk _) hmax (A':=if l.length=0 then A else A.map (·.add (0*i.size))) (fun b o hpos hA=>by
           rw[Qlu xw,hA];simp only[QlO,XV,Nat.zero_mul])
          simpa using this
       |_=>simp[hu]at hty
     ·cases hx
    ·cases hx
   ·cases hx
  ·cases hx
 |slc sz r lo hi mx=>
  exact oj
 |slcp sz r lo hi mx=>
  replace hx:=Ic hx;exact oj
 |mget tx ok z r i=>
  cases op<;>simp only[Zd,QlH,QlM,Qls]at hc;rename_i t y yi ok';obtain⟨⟨⟨h1,rfl⟩,h2⟩,h3⟩:=hc;have r1:=Qv h h2;have r2:=Qv h h3;split at h1
  case h_2=>cases h1
  rename_i kt et hu;simp only[QlM]at h1;obtain⟨hks,h1⟩:=h1;split at h1
  case h_2=>cases h1
  rename_i inf hi;split at h1
  case h_2=>cases h1
  rename_i zv hzv;simp only[Qx]at hx;split at hx
  case h_2=>cases hx
  rename_i ks vs he;split at hx
  case h_2=>cases hx
  rename_i k hkk;obtain⟨hkt,ey⟩:=FF hkk r2;cases hkk2:keys tx ks with
  |false=>rw[hkk2]at hx;cases hx
  |true=>
  rw[hkk2,cond_true]at hx;obtain⟨b,eb,hb⟩:=Bk h he r1;have hz:(zeroValue et).run P w=.ok zv w:=jz
  have hrun:=Gz (k:=k) hkt hkk2 ok hu (NG hks) hb hz;refine⟨_,k_,?_⟩;cases hm:Kd k ks vs with
  |none=>
   exact yo
  |some v=>
   rw[hm]at hx;simp only at hx;cases hg:v.gr with
   |false=>rw[hg]at hx;cases hx
   |true=>
    exact yz
 |mgetp tx ok z r i=>
  cases op<;>simp only[Zd,QlH,QlM,Qls]at hc;rename_i t y yi ok';obtain⟨⟨⟨h1,rfl⟩,h2⟩,h3⟩:=hc;have r1:=Qv h h2;have r2:=Qv h h3;split at h1
  case h_2=>cases h1
  rename_i kt et hu;simp only[QlM]at h1;obtain⟨hks,h1⟩:=h1;split at h1
  case h_2=>cases h1
  rename_i inf hi;split at h1
  case h_2=>cases h1
  rename_i zv hzv;simp only[Qx]at hx;split at hx
  case h_2=>cases hx
  rename_i ks vs he;rw[he]at r1;split at hx
  case h_2=>cases hx
  rename_i k hkk;obtain⟨hkt,ey⟩:=FF hkk r2;cases hkk2:keys tx ks with
  |false=>rw[hkk2]at hx;cases hx
  |true=>
  rw[hkk2,cond_true]at hx;obtain⟨b,eb,hb⟩:=Bk (x:=.mp ks vs) h rfl r1;have hz:(zeroValue et).run P w=.ok zv w:=jz
  have hrun:=Gz (k:=k) hkt hkk2 ok hu (NG hks) hb hz;refine⟨_,k_,?_⟩;cases hm:Kd k ks vs with
  |none=>
   exact yo
  |some v=>
   rw[hm]at hx;simp only at hx;cases hg:v.gr with
   |false=>rw[hg]at hx;cases hx
   |true=>
    exact yz
 |mki t r=>
  cases op<;>simp only[Zd,QlH,QlM,Qls]at hc;rename_i t' y;obtain⟨⟨rfl,h1⟩,h2⟩:=hc;have r1:=Qv h h2;simp only[Qx,QlP]at hx;subst hx;refine⟨.iface t (a.eval y),?_,.iface r1⟩;obtain⟨d,hu,hd⟩:=Fj h1;simp only[execOp,Sem.run_bind,Instr.makeInterface,run_underlying hu,Result.andThen_ok];cases d<;>first|rfl|exact absurd rfl (hd _)
 |tas t ok z r=>
  cases op<;>simp only[Zd,QlH,QlM,Qls]at hc;rename_i y xt t' ok';obtain⟨⟨⟨⟨rfl,h1⟩,hz⟩,rfl⟩,h2⟩:=hc;have r1:=Qv h h2;split at hz
  case h_2=>cases hz
  rename_i inf hi;split at hz
  case h_2=>cases hz
  rename_i zv hzv;have hzz:(zeroValue t).run P w=.ok zv w:=jz
  obtain⟨d,hu,hd⟩:=Fj h1;simp only[Qx]at hx;split at hx
  ·rename_i t' y' e;rw[e]at r1;generalize hv:a.eval y=v at r1;cases r1 with
   |iface r1=>
    cases ht:t'==t with
    |true=>
     rw[ht]at hx;have ht':t'=t:=qH
     subst ht';cases hx;rename_i v';refine⟨if ok then .tuple #[v',.bool true]else v',?_,?_⟩
     ·simp only[execOp,hv,Sem.run_bind,Instr.typeAssert,run_underlying hu,Result.andThen_ok];cases d<;>first|exact absurd rfl (hd _)|simp
     ·cases ok
      ·exact r1
      ·exact .tup (.cons r1 (.cons (.bool _) .nil))
    |false=>
     rw[ht]at hx;have ht':¬t'=t:=qH
     cases ok with
     |false=>cases hx
     |true=>
      cases hx;refine⟨.tuple #[zv,.bool false],?_,.tup (.cons (isC_ok hz) (.cons (.bool _) .nil))⟩;simp only[execOp,hv,Sem.run_bind,Instr.typeAssert,run_underlying hu,Result.andThen_ok];cases d<;>first|exact absurd rfl (hd _)|simp[ht',hzz]
  ·rename_i e;rw[e]at r1;generalize hv:a.eval y=v at r1;cases r1;cases ok with
   |false=>cases hx
   |true=>
    cases hx;refine⟨.tuple #[zv,.bool false],?_,.tup (.cons (isC_ok hz) (.cons (.bool _) .nil))⟩;simp only[execOp,hv,Sem.run_bind,Instr.typeAssert,run_underlying hu,Result.andThen_ok];cases d<;>first|exact absurd rfl (hd _)|simp[hzz]
  ·cases hx
 |faddr off r=>
  cases op<;>simp only[Zd,QlH,QlM]at hc;rename_i t y k;obtain⟨h1,h2⟩:=hc;have r1:=Qv h h2;split at h1
  ·rename_i fs hu;split at h1
   ·rename_i fl hfl;simp only[QlM,Qls,Qmo,QlR]at h1;obtain⟨hoff,i,hi,hne⟩:=h1;have run:∀b o,a.eval y=.pointer (some ⟨b,o,none⟩)→(Instr.fieldAt t (a.eval y) k).run P w=.ok (.pointer (some ⟨b,o+off,none⟩)) w:=by
     intro b o e;rw[e];simp only[Instr.fieldAt,Sem.run_bind,run_underlying hu,Result.andThen_ok,hfl,Instr.sureAddr,Sem.run_pure,fieldPlace,XR hi,Qlu hne,XV,hoff]
    simp only[execOp,Sem.run_bind];simp only[Qx]at hx;split at hx
    ·rename_i e;cases hx;rw[e]at r1;generalize hv:a.eval y=v at r1 run ⊢;cases r1 with
     |ptr hb=>exact⟨_,by rw[run _ _ rfl];rfl,.ptr hb⟩
    ·rename_i e;split at hx
     ·rename_i hg;cases hx;rw[e]at r1;generalize hv:a.eval y=v at r1 run ⊢;cases r1 with
      |vptr g1 g2 g3=>
       obtain⟨b,hb,rfl⟩:=g3 (Cv h hg);exact⟨_,by rw[run _ _ rfl];rfl,.vptr rfl g2 fun _=>⟨b,hb,by rw[Qlj]⟩⟩
     ·cases hx
    ·rename_i xs e;cases hx;rw[e]at r1;generalize hv:a.eval y=v at r1 run ⊢;cases r1 with
     |rptr g1 g2 g3 g4=>
      exact⟨_,by rw[run _ _ rfl];rfl,.rptr (g1.drop off) (Jp g2 fun x hx=>Qmb hx) (Zr g3 fun x hx=>Qmb hx) (fun q u hq=>by
       rw[Ql4]at hq;rw[Qlj];exact g4 _ u hq)⟩
    ·cases hx
   ·cases h1
  ·cases h1
 |fld off k r=>
  cases op<;>simp only[Zd,QlH,QlM]at hc;rename_i t y q;obtain⟨h1,h2⟩:=hc;have r1:=Qv h h2;split at h1
  ·rename_i fs hu;split at h1
   ·rename_i fl hfl;simp only[QlM,Qls]at h1;simp only[Qx]at hx;split at hx
    ·rename_i l e;rw[e]at r1;simp only[execOp,Sem.run_bind];generalize a.eval y=v at r1 ⊢;cases r1 with
     |agg r1=>
      obtain⟨v,h3,h4⟩:=Qbk (P:=P) (w:=w) r1 hx h1.2;refine⟨v,?_,h4⟩;simp only[Instr.field,Sem.run_bind,run_underlying hu,Result.andThen_ok,hfl,asAgg,Sem.run_pure,h1.1,h3]
    ·cases hx
   ·cases h1
  ·cases h1
 |iaddr sz len r i=>
  cases op<;>simp only[Zd,QlH,QlM]at hc;rename_i t y z;obtain⟨⟨h1,h2⟩,h3⟩:=hc;have r1:=Qv h h2;have r2:=Qv h h3;have ht:sz≠0∧Qc3 P t sz len:=by
   cases hu:P.underlying t with
   |none=>simp[hu]at h1
   |some d=>
    cases d with
    |slice e=>
     exact yu
    |array n e=>
     exact yu
    |_=>simp[hu]at h1
  simp only[Qx]at hx;split at hx
  ·rename_i k n e;rw[e]at r2;simp only[execOp,Sem.run_bind];generalize a.eval z=u at r2 ⊢;cases r2;obtain⟨v,h4,h5⟩:=TJ (P:=P) h ht.1 hx r1 (k:=k) ht.2;exact⟨v,by rw[h4];rfl,h5⟩
  ·cases hx
 |idx r i=>
  cases op<;>simp only[Zd,QlH,QlM]at hc;rename_i t y z;obtain⟨⟨h1,h2⟩,h3⟩:=hc;have r1:=Qv h h2;have r2:=Qv h h3;simp only[Qx]at hx;split at hx
  ·rename_i s k n e1 e2;split at hx
   ·rename_i h0;split at hx
    ·rename_i b hb;cases hx;rw[e1]at r1;rw[e2]at r2;simp only[execOp,Sem.run_bind];generalize a.eval y=v at r1 ⊢;generalize a.eval z=u at r2 ⊢;cases r1;cases r2;refine⟨.int .u8 (b.toNat:Int),?_,.int _ _⟩;have hidx:(⟨⟨s⟩⟩:ByteArray)[n.toNat]? = some b:=by
      have hlt:=(Qlm.1 hb).1;rw[ByteArray.getElem?_lt' _ _ (by exact hlt)];rw[Qln hlt]at hb;exact hb
     simp only[Instr.index,asIntOf,Sem.run_bind,Sem.run_pure,Result.andThen_ok,run_underlying (KQ h1),Qlv h0,hidx]
    ·cases hx
   ·cases hx
  ·cases hx
 |ext r i=>
  cases op<;>simp only[Zd,QlH,QlM,Qls]at hc;rename_i y k;obtain⟨rfl,h2⟩:=hc;have r1:=Qv h h2;simp only[Qx]at hx;split at hx
  ·rename_i l e;rw[e]at r1;simp only[execOp,Sem.run_bind];generalize a.eval y=v at r1 ⊢;cases r1 with
   |tup r1=>
    obtain⟨v,h3,h4⟩:=r1.at_ hx;exact⟨v,by simp[Instr.extract,h3],h4⟩
  ·cases hx
 |len k r=>
  cases op<;>simp only[Zd,QlH]at hc;rename_i cl;split at hc
  ·rename_i o1 y t o2;cases o2;simp only[QlM]at hc;obtain⟨h1,h2⟩:=hc;have r1:=Qv h h2;simp only[execOp,resolve,invoke,builtin,Sem.run_bind,Sem.run_pure,Result.andThen_ok,Qmp,QlW,Qmq,Builtin.len_,List.getElem?_toArray,Qmr];simp only[Qx]at hx;split at h1
   ·rename_i hu;simp only[Qls]at h1;subst h1;simp only at hx;split at hx
    ·rename_i s e;cases hx;rw[e]at r1;generalize a.eval y=v at r1 ⊢;cases r1;exact oP
    ·cases hx
   ·rename_i el hu;simp only[Qls]at h1;subst h1;simp only at hx;split at hx
    ·rename_i e;cases hx;rw[e]at r1;generalize a.eval y=v at r1 ⊢;cases r1;exact oP
    ·rename_i l e;cases hx;rw[e]at r1;generalize a.eval y=v at r1 ⊢;cases r1 with
     |list a1 a2 a3 a4 a5 a6 a7 a8=>
      subst a6;exact oP
    ·rename_i l s g o n q e;split at hx
     ·rename_i hg;cases hx;rw[e]at r1;generalize a.eval y=v at r1 ⊢;cases r1 with
      |vec g1 g2 g3=>
       rcases g3 (Cv h hg)with⟨_,_,rfl,A0,rfl,_⟩|⟨b,A,c,_,_,rfl,_⟩
       ·exact oP
       ·exact oP
     ·cases hx
    ·cases hx
   ·rename_i ky el hu;simp only[Qls]at h1;subst h1;simp only at hx;split at hx
    ·rename_i e;cases hx;rw[e]at r1;generalize a.eval y=v at r1 ⊢;cases r1;exact oP
    ·cases hx
   ·cases h1
  ·cases hc
 |mnx mx r s=>
  cases op<;>simp only[Zd,QlH]at hc;rename_i cl;split at hc
  ·rename_i o1 b y z ts o2;cases o2;simp only[QlM]at hc;obtain⟨⟨h1,h2⟩,h3⟩:=hc;have r1:=Qv h h2;have r2:=Qv h h3;simp only[Qx]at hx;split at hx
   ·rename_i k m k' n e1 e2;split at hx
    ·rename_i hk;subst hk;cases hx;rw[e1]at r1;rw[e2]at r2;simp only[execOp,resolve,invoke,Sem.run_bind,Sem.run_pure,Result.andThen_ok,Qmp,QlW,Qmq];generalize a.eval y=v at r1 ⊢;generalize a.eval z=u at r2 ⊢;cases r1;cases r2;split at h1
     ·subst h1;exact⟨_,rfl,.int _ _⟩
     ·simp only[Qmm]at h1;subst h1;exact⟨_,rfl,.int _ _⟩
     ·cases h1
    ·cases hx
   ·cases hx
  ·cases hc
 |mkfn fn xs ys=>
  cases op<;>simp only[Zd,QlH,QlM,Qls]at hc;rename_i fn' p q;obtain⟨⟨rfl,h1⟩,h2⟩:=hc;simp only[Qx,QlP]at hx;subst hx;have r1:=HL h h1;have r2:=HL h h2;refine⟨.func _ ⟨p.toList.map a.eval⟩ ⟨q.toList.map a.eval⟩,?_,.fn r1 r2⟩;have e1:Array.map a.eval p=⟨p.toList.map a.eval⟩:=v7
  have e2:Array.map a.eval q=⟨q.toList.map a.eval⟩:=v7
  simp only[execOp,Instr.makeFunc,e1,e2];rfl
 |toU r=>
  cases op<;>simp only[Zd,QlH,QlM]at hc;rename_i src dst y;obtain⟨⟨h1,h2⟩,h3⟩:=hc;have r1:=Qv h h3;simp only[Qx]at hx;split at hx
  ·rename_i l s o e;split at hx
   ·rename_i xs hlk;split at hx
    ·rename_i ho;cases hx;rw[e]at r1;simp only[execOp];generalize a.eval y=v at r1 ⊢;cases r1 with
     |ptr hb=>
      rename_i b;split at h1
      ·rename_i t hs;split at h2
       ·rename_i hd;cases hi:P.info? t with
        |none=>rw[hi]at h1;simp at h1
        |some j=>
         rw[hi]at h1;obtain⟨b',cs,e',⟨ty',lo,hi',hheap,_,_⟩,hr⟩:=h.mr.cells l s xs hlk;rw[hb]at e';cases e';have hl:=hr.length;have hsh:w.shape? b=some (ty',cs.size):=by unfold World.shape?;rw[hheap]
         have hrun:=Lib.run_to_unsafe (P:=P) w ⟨b,o,none⟩ hs hd hi jC hsh (by simp at hl;show o<cs.size;omega);exact⟨_,by rw[Sem.run_bind,hrun];rfl,.ptr hb⟩
       ·cases h2
      ·cases h1
    ·cases hx
   ·cases hx
  ·cases hx
 |ofU t n r=>
  cases op<;>simp only[Zd,QlH,QlM]at hc;rename_i src dst y;obtain⟨⟨h1,h2⟩,h3⟩:=hc;have r1:=Qv h h3;simp only[Qx]at hx;split at hx
  ·rename_i l s o e;split at hx
   ·rename_i xs hlk;split at hx
    ·rename_i ho;obtain⟨rfl,rfl,rfl⟩:=ho;cases hx;rw[e]at r1;simp only[execOp];generalize a.eval y=v at r1 ⊢;cases r1 with
     |ptr hb=>
      rename_i b;split at h1
      ·rename_i hs;split at h2
       ·rename_i u hd;simp only[QlM,Qls]at h2;obtain⟨⟨rfl,hi⟩,hlies⟩:=h2;obtain⟨j,hj⟩:=QlQ.1 hi;obtain⟨b',cs,e',⟨ty',lo,hi',hheap,hty,_⟩,hr⟩:=h.mr.cells l (u+2000) xs hlk;rw[hb]at e';cases e';have hl:=hr.length;have ht:ty'=u:=PY (s:=u+2000) hty (by simp[Zk]) xw;subst ht;have hsh:w.shape? b=some (ty',xs.length):=by unfold World.shape?;rw[hheap];simp at hl;simp[hl]
        have hrun:=Lib.run_from_unsafe (P:=P) w ⟨b,0,none⟩ hs hd hj hsh hlies;exact⟨_,by rw[Sem.run_bind,hrun];rfl,.ptr hb⟩
       ·cases h2
      ·cases h1
    ·cases hx
   ·cases hx
  ·cases hx
 |same r=>
  simp only[Qx,QlP]at hx;subst hx;cases op<;>simp only[Zd,QlH]at hc;rename_i cl;split at hc<;>first|(cases hc;done)|skip
  rename_i o1 k y ts o2;cases o2;simp only[QlM]at hc;obtain⟨h1,h2⟩:=hc;split at h1
  ·rename_i fn hf;simp only[QlM,Qls]at h1;obtain⟨⟨hn,hb⟩,ho⟩:=h1;refine⟨_,?_,Qv h h2⟩;have hnx:Extern.findNext fn=none:=by
    have e1:Extern.allNextRows.lookup "internal/abi.NoEscape" = none := by kernel_rfl
    have e2:Extern.allNextRows.lookup fn.origin=none:=by
     cases hh:Extern.allNextRows.lookup fn.origin with
     |none=>rfl
     |some _=>rw[hh]at ho;cases ho
    simp[Extern.findNext,hn,e1,e2]
   have hfd:Extern.find fn=some Extern.AbiNoEscape.same:=by
    have e1:(Extern.allGenericRows.lookup "internal/abi.NoEscape").isNone=true := by kernel_rfl
    have e2:(Extern.allTypedRows.lookup "internal/abi.NoEscape").isNone=true := by kernel_rfl
    have e3:Extern.allRows.lookup "internal/abi.NoEscape" = some Extern.AbiNoEscape.same := by kernel_rfl
    rw[Option.isNone_iff_eq_none]at e1 e2;simp[Extern.find,hn,e1,e2,e3]
   have hrun:=run_callFunc_extern (P:=P) (f:=k) (fn:=fn) hf (by rw[hn];decide) hb hnx hfd #[a.eval y] w;show(do let d ←resolve a.eval _ ty;invoke d.target d.args).run P w=_;simp only[resolve,Deferred.ofValue,Act.eval,Sem.run_bind,Sem.run_pure,Result.andThen_ok,invoke,Qmp,QlW,Qmq,List.append_toArray,Qms];exact hrun
  ·cases h1

end

def Gh.row (G:Gh)(l s:Nat)(b:Option Nat)(cap g sz:Nat):Gh :=
  { G with vm:=fun i t => if i = l ∧ t = s then b else G.vm i t,vc:=fun i t => if i = l ∧ t = s then cap else G.vc i t,
           vg:=fun i t=>if i=l∧t=s then g else G.vg i t,vz:=fun i t=>if i=l∧t=s then sz else G.vz i t }

theorem Gh.row_gle {G:Gh}{l s cap g sz:Nat}{b:Option Nat}(hg:G.vg l s<g):Gle G (G.row l s b cap g sz) where
 stab _ _ _ h:=h
 nm _ _ _ h:=h
 vg i t:=by
  show G.vg i t≤if i=l∧t=s then g else G.vg i t
  split
  ·rename_i h;obtain⟨rfl,rfl⟩:=h;omega
  ·exact Qlk _
 vs i t e:=by
  by_cases h:i=l∧t=s
  ·obtain⟨rfl,rfl⟩:=h;simp only[Gh.row,and_self,if_true]at e;omega
  ·simp only[Gh.row,Qlu h,and_self]

def Qn (o:Ob):Bool :=
 match o with
 |.cells _=>false
 |.iter .. => false
 |_=>true

theorem V3 {o:Ob}(h:Qn o=true)(h':o.isVar=true):False:=by
 cases o<;>simp[Qn,Ob.isVar]at h h'

theorem MR.vecput' {G:Gh}{m:Qk}{w w':World}(h:MR G m w){l s g sz cap:Nat}{b:Option Nat}{ys:List AV}(hl:l<m.length)(ho:Qn (Qc m l s)=true)(hg:G.vg l s<g)
  (hkeep:∀k,k<w.heap.size→some k≠G.vm l s→w'.heap[k]? = w.heap[k]?) (hb:∀k,b=some k→G.vm l s=some k∨(¬G.mine k∧∀o,G.stab k o=none)) (hel:Elems sz ys)
  (hrow:(b=none∧ys=[])∨∃k,b=some k∧RowIs G s w' k cap sz ys):MR (G.row l s b cap g sz) (Am.put m l s (.vec g sz ys)) w':=by
 have hgle:=Gh.row_gle (b:=b) (cap:=cap) (sz:=sz) hg;have hst:∀k o v,G.stab k o=some v→k<w.heap.size∧some k≠G.vm l s:=by
  intro k o v e;refine⟨HJ (h.stab k o v e),fun e'=>?_⟩;rw[(h.vm l s k e'.symm).2 o]at e;cases e
 have hnew:∀k o,b=some k→G.stab k o=none:=by
  intro k o e;rcases hb k e with e'|e'
  ·exact(h.vm l s k e').2 o
  ·exact e'.2 o
 have hnm:∀l' s' k,G.nm l' s'=some k→k<w.heap.size∧some k≠G.vm l s:=by
  intro l' s' k e;exact⟨(h.mine (.inl ⟨_,_,e⟩)).1,fun e'=>h.inj3 _ _ _ _ _ e e'.symm⟩
 have hvm:∀l' s' k,¬(l'=l∧s'=s)→G.vm l' s'=some k→k<w.heap.size∧some k≠G.vm l s:=by
  intro l' s' k hh e;exact⟨(h.mine (.inr ⟨_,_,e⟩)).1,fun e'=>hh (h.inj2 _ _ _ _ _ e e'.symm)⟩
 refine⟨fun k o v e=>?_,fun l' s' zs e=>?_,fun l' s' k e=>?_,fun l' s' g' z zs e=>?_,fun l' s' k e=>?_,fun l' s' e=>?_,h.inj1,fun l1 s1 l2 s2 k e1 e2=>?_,fun l1 s1 l2 s2 k e1 e2=>?_,fun l' s' t p e=>?_⟩
 ·obtain⟨h1,h2⟩:=hst k o v e;exact KO (hkeep k h1 h2) (h.stab k o v e)
 ·by_cases hh:l'=l∧s'=s
  ·obtain⟨rfl,rfl⟩:=hh;rw[Qs hl]at e;cases e
  ·rw[QE xw]at e;obtain⟨k,cs,e',hc,hr⟩:=h.cells l' s' zs e;obtain⟨h1,h2⟩:=hnm _ _ _ e';exact⟨k,cs,e',hc.of (hkeep k h1 h2),hr.mono (hgle.dn l')⟩
 ·obtain⟨hz,h2⟩:=h.nm l' s' k e;refine⟨?_,h2⟩;rw[QE ?_]
  ·exact hz
  ·by_cases hh:l'=l∧s'=s
   ·obtain⟨rfl,rfl⟩:=hh;exact(V3 ho hz).elim
   ·omega
 ·by_cases hh:l'=l∧s'=s
  ·obtain⟨rfl,rfl⟩:=hh;rw[Qs hl]at e;cases e;simp only[Gh.row,and_self,if_true];refine⟨trivial,trivial,hel,hrow.imp id fun⟨k,e,r⟩=>⟨k,e,r.of rfl fun vs hv=>RepL.rfd (G:=G) (G':=G.row l' s' b cap g sz) (fun _ _ _ h=>h) hel.rf hv⟩⟩
  ·rw[QE xw]at e;obtain⟨a1,a2,a3,a4⟩:=h.vec l' s' g' z zs e;simp only[Gh.row,Qlu hh];refine⟨a1,a2,a3,a4.imp id fun⟨k,e',r⟩=>⟨k,e',r.of (hkeep k ?_ ?_) fun vs hv=>RepL.rfd (G:=G) (G':=G.row l s b cap g sz) (fun _ _ _ h=>h) a3.rf hv⟩⟩
   ·exact(hvm _ _ _ hh e').1
   ·exact(hvm _ _ _ hh e').2
 ·by_cases hh:l'=l∧s'=s
  ·obtain⟨rfl,rfl⟩:=hh;simp only[Gh.row,and_self,if_true]at e;exact⟨⟨g,sz,ys,Qs hl⟩,fun o=>hnew k o e⟩
  ·simp only[Gh.row,Qlu hh]at e;obtain⟨⟨g',z,zs,hz⟩,h2⟩:=h.vm l' s' k e;exact⟨⟨g',z,zs,qm⟩,h2⟩
 ·by_cases hh:l'=l∧s'=s
  ·obtain⟨rfl,rfl⟩:=hh;rw[Qs hl]at e;cases e
  ·rw[QE xw]at e;simp only[Gh.row,Qlu hh];exact h.gone l' s' e
 ·simp only[Gh.row]at e1 e2;split at e1<;>split at e2
  ·rename_i h1 h2;exact⟨h1.1.trans h2.1.symm,h1.2.trans h2.2.symm⟩
  ·rename_i h1 h2;obtain⟨h3,h4⟩:=hvm _ _ _ h2 e2;rcases hb k e1 with e'|e'
   ·exact absurd e'.symm h4
   ·exact absurd (.inr ⟨_,_,e2⟩) e'.1
  ·rename_i h1 h2;obtain⟨h3,h4⟩:=hvm _ _ _ h1 e1;rcases hb k e2 with e'|e'
   ·exact absurd e'.symm h4
   ·exact absurd (.inr ⟨_,_,e1⟩) e'.1
  ·exact h.inj2 _ _ _ _ _ e1 e2
 ·simp only[Gh.row]at e2;obtain⟨h3,h4⟩:=hnm _ _ _ e1;split at e2
  ·rcases hb k e2 with e'|e'
   ·exact h4 e'.symm
   ·exact e'.1 (.inl ⟨_,_,e1⟩)
  ·exact h.inj3 _ _ _ _ _ e1 e2
 ·by_cases hh:l'=l∧s'=s
  ·obtain⟨rfl,rfl⟩:=hh;rw[Qs hl]at e;cases e
  ·rw[QE xw]at e;obtain⟨k,e',hc⟩:=h.iter l' s' t p e;obtain⟨h1,h2⟩:=hnm _ _ _ e';exact⟨k,e',(hkeep k h1 h2).trans hc⟩

theorem MR.free {G:Gh}{m:Qk}{w:World}(h:MR G m w){k:Nat}(hk:w.heap.size≤k):¬G.mine k∧∀o,G.stab k o=none:=by
 refine⟨fun e=>by have:=(h.mine e).1;omega,fun o=>?_⟩;cases hs:G.stab k o with
 |none=>rfl
 |some v=>exact absurd (HJ (h.stab k o v hs)) (Nat.not_lt.2 hk)

theorem MR.vecput {G:Gh}{m:Qk}{w w':World}(h:MR G m w){l s g sz cap:Nat}{b:Option Nat}{ys:List AV}(hl:l<m.length)(ho:Qn (Qc m l s)=true)(hg:G.vg l s<g)
  (hkeep:∀k,k<w.heap.size→some k≠G.vm l s→w'.heap[k]? = w.heap[k]?) (hb:∀k,b=some k→G.vm l s=some k∨w.heap.size≤k) (hel:Elems sz ys)
  (hrow:(b=none∧ys=[])∨∃k,b=some k∧RowIs G s w' k cap sz ys):MR (G.row l s b cap g sz) (Am.put m l s (.vec g sz ys)) w' :=
 h.vecput' hl ho hg hkeep (fun k e=>(hb k e).imp id h.free) hel hrow

theorem Rel.vecput {G:Gh}{B N:Nat}{st:St}{a:Act}{w w':World}(h:Rel G B N st a w){l s g sz cap:Nat}{b:Option Nat}{ys:List AV}(hl:l<st.m.length)(ho:Qn (Qc st.m l s)=true)(hg:G.vg l s<g)
  (hos:w'.os=w.os) (htape:w'.tape=w.tape) (hout:w'.output=w.output) (hsize:w.heap.size≤w'.heap.size)
  (hkeep:∀k,k<w.heap.size→some k≠G.vm l s→w'.heap[k]? = w.heap[k]?) (hb:∀k,b=some k→G.vm l s=some k∨w.heap.size≤k) (hel:Elems sz ys)
  (hrow:(b=none∧ys=[])∨∃k,b=some k∧RowIs G s w' k cap sz ys) :
  Rel (G.row l s b cap g sz) B N { st with m:=Am.put st.m l s (.vec g sz ys) } a w'∧Ext 1 G w (G.row l s b cap g sz) w':=by
 have hgle:=Gh.row_gle (b:=b) (cap:=cap) (sz:=sz) hg;refine⟨⟨h.mr.vecput hl ho hg hkeep hb hel hrow,h.size,fun i=>(h.slots i).mono hgle,h.ds.mono hgle,fun s' k e=>?_,Qll h.top hsize,Wi h.ne⟩,⟨hos,htape,hout,hsize,fun _ _ _ h=>h,fun _ _ _=>rfl,hgle.vg,hgle.vs,fun k hk hm=>⟨hkeep k hk fun e=>hm (.inr ⟨l,s,e.symm⟩),fun _=>rfl⟩,fun k hk=>?_,fun i t k e=>?_⟩⟩
 ·rcases e with e|e
  ·exact h.base s' k (.inl e)
  ·simp only[Gh.row]at e;split at e
   ·rename_i hh;rcases hb k e with e'|e'
    ·exact h.base s k (.inr (by rw[hh.1];exact e'))
    ·exact Qll h.top e'
   ·exact h.base s' k (.inr e)
 ·rcases hk with⟨i,t,e⟩|⟨i,t,e⟩
  ·exact .inl (.inl ⟨i,t,e⟩)
  ·simp only[Gh.row]at e;split at e
   ·rcases hb k e with e'|e'
    ·exact .inl (.inr ⟨_,_,e'⟩)
    ·exact .inr e'
   ·exact .inl (.inr ⟨i,t,e⟩)
 ·simp only[Gh.row]at e;split at e
  ·rename_i hh;rcases hb k e with e'|e'
   ·exact .inl ⟨l,s,by rw[hh.1];exact Qlk _,e'⟩
   ·exact .inr e'
  ·exact .inl ⟨i,t,Qlk _,e⟩

def Qz (m:Qk)(l s:Nat):Nat :=
 match Qc m l s with
 |.vec g _ _=>g+1
 |_=>1

theorem J3 {G:Gh}{m:Qk}{w:World}(h:MR G m w){l s:Nat}(ho:Qn (Qc m l s)=true):G.vg l s<Qz m l s:=by
 unfold Qz;split
 ·rename_i g z xs e;rw[(h.vec l s g z xs e).1];omega
 ·rename_i hn;have:Qc m l s=.none:=by
   cases hlk:Qc m l s with
   |none=>rfl
   |cells xs=>rw[hlk]at ho;cases ho
   |iter t p=>rw[hlk]at ho;cases ho
   |vec g z xs=>exact absurd hlk (hn g z xs)
  rw[h.gone l s (by rw[this];rfl)];omega

theorem Bl {P:Program}{s:Nat}{w:World}{t tx ty e:TypeId}(hty:Zk s e=true){i:TypeInfo}{z:Value}(ht:P.underlying t=some (.slice e))(hi:P.info? e=some i)(hz:i.zero=some z)(hzs:z.cells.size=i.size)
    {v:Value} {n cap:Nat} {xs:List Value} {own:Option Nat} (hv:((∃A,v=.slice A 0 0)∧own=none∧n=0∧xs=[])∨∃b cur,v=.slice (some ⟨b,0,none⟩) n cap∧own=some b∧X3 s w b cur∧cur.size=cap*i.size∧n≤cap∧cap≤maxLen∧cur.toList.take (n*i.size)=xs) (hxl:xs.length=n*i.size)
    {x:Value} {m:Nat} {news:List Value} (hsrc:Src P i.size tx x m news w)
    (hmax:n+m≤maxLen) (hbytes:(n+m)*i.bytes≤140737488355328) :
    ∃v' w',(Builtin.append_ #[t,tx] ty #[v,x]).run P w=.ok v' w'∧w'.os=w.os∧w'.tape=w.tape∧w'.output=w.output∧w.heap.size≤w'.heap.size∧(∀k,k<w.heap.size→own≠some k→w'.heap[k]? = w.heap[k]?)∧
      ((v'=v∧own=none∧m=0∧w'=w)∨∃b' cap' cur',v'=.slice (some ⟨b',0,none⟩) (n+m) cap'∧(own=some b'∨w.heap.size≤b')∧X3 s w' b' cur'∧cur'.size=cap'*i.size∧n+m≤cap'∧cap'≤maxLen∧cur'.toList.take ((n+m)*i.size)=xs++news):=by
  have hm63:(n+m:Nat)≤9223372036854775807:=by simp only[maxLen]at hmax;omega
  have hl:=hsrc.newsLen;have hlen:(xs++news).length=(n+m)*i.size:=by rw[Ql2,hxl,hl,QlZ]
  -- the growing arm
  have grown:∀(old:Nat),old<n+m→∃b' cap' cur',Value.slice (some ⟨w.heap.size,0,none⟩) (n+m) (grownCap w (n+m) old e)=.slice (some ⟨b',0,none⟩) (n+m) cap'∧(own=some b'∨w.heap.size≤b')∧
      X3 s (w.drew.alloc (.cells ((xs++news).toArray++Builtin.zeroCells z.cells (grownCap w (n+m) old e-(n+m))) e)) b' cur'∧cur'.size=cap'*i.size∧n+m≤cap'∧cap'≤maxLen∧cur'.toList.take ((n+m)*i.size)=xs++news:=by
    intro old ho;have hge:=grownCap_ge w (n+m) old e;have hcm:=grownCap_le_maxLen w (n+m) old e hmax;refine⟨w.heap.size,grownCap w (n+m) old e,_,rfl,.inr (Qlk _),X3.new w.drew _ e hty,?_,hge,hcm,?_⟩
    · simp only[Array.size_append,Qmt,size_zeroCells,hzs,hlen,←QlZ];congr 1
      omega
    · simp only[Array.toList_append];rw[←hlen];exact List.take_left
  have hkeepA:∀o k,k<w.heap.size→(w.drew.alloc o).heap[k]? = w.heap[k]?:=fun o k hk=>RowKit.Below.heap_alloc w.drew o k hk
  rcases hv with⟨⟨A0,rfl⟩,rfl,rfl,rfl⟩|⟨b,cur,rfl,rfl,hsoft,hcs,hnc,hcm,htake⟩
  · by_cases hm:m=0
    · subst hm;have hn:news=[]:=Qmu kD;subst hn;refine⟨.slice A0 0 0,w,?_,rfl,rfl,rfl,Qlk _,fun _ _ _=>rfl,.inl ⟨rfl,rfl,rfl,rfl⟩⟩;have h1:=hsrc.cells;have h2:=hsrc.len;rcases hsrc.kind with⟨e',hk⟩|hk<;>cases A0<;>simp[Builtin.append_,run_underlying ht,run_underlying hk,sizeOf,typeInfo,hi,h2,h1,storeCells]
    · have hr:=run_append_grow_src (P:=P) w t tx ty e i z ht hi hz A0 0 0 [] (by cases A0 with|none=>exact run_firstCells_none w.drew i.size 0 0 0|some a=>exact run_firstCells_some w.drew i.size 0 a 0 0 [] xA xA) x m news hsrc xw xw (growslice_fits xw (by have hb:=hbytes;simp only[QlN]at hb ⊢;exact hb));have hgr:=grown 0 xw;exact⟨_,_,hr,rfl,rfl,rfl,xA,fun k hk _=>hkeepA _ k hk,.inr hgr⟩
  · by_cases hroom:n+m≤cap
    · have hfit:0+n*i.size+news.length≤cur.size:=by
        rw[hl,hcs,QlN,←QlZ];exact Qmv _ hroom
      obtain⟨w',hst,hs',htn⟩:=ZL P s b (n*i.size) news 0 w cur hsoft xw hsrc.one;refine⟨.slice (some ⟨b,0,none⟩) (n+m) cap,w',?_,htn.os,htn.tape,htn.output,by rw[htn.size];exact Qlk _,fun k hk hne=>htn.heap k fun e=>hne (by rw[e]),.inr ⟨b,cap,_,rfl,.inl rfl,hs',?_,hroom,hcm,?_⟩⟩
      · have h1:=hsrc.cells;have h2:=hsrc.len w;rcases hsrc.kind with⟨e',hk⟩|hk <;>
          (simp only[Builtin.append_,List.getElem?_toArray,Qmr,Qmw,Sem.run_bind,run_underlying ht,run_underlying hk,Result.andThen_ok,XR hi,Sem.run_pure,QlH,if_false,h2,Qlv hroom,Qmx,if_true,h1,XV,QlN]
           rw[hst];rfl)
      · simp only[Qmt,Ql2,Qml,Ql5,QlU,QlV];omega
      · simp only[QlV];rw[htake,←hlen];exact List.take_left
    · have hcells:∀j u,xs[j]? = some u→w.drew.cell? ((⟨b,0,none⟩:Addr).add j)=some u:=by
        intro j u hu;show w.cell? _=_;rw[XV,QlN,hsoft.cell,←QlS];rw[←htake,Ql3]at hu;split at hu
        · exact hu
        · cases hu
      have hr:=run_append_grow_src (P:=P) w t tx ty e i z ht hi hz (some ⟨b,0,none⟩) n cap xs (run_firstCells_some w.drew i.size n ⟨b,0,none⟩ n cap xs hxl hcells) x m news hsrc xw xw (growslice_fits xw hbytes);exact⟨_,_,hr,rfl,rfl,rfl,xA,fun k hk _=>hkeepA _ k hk,.inr (grown cap xw)⟩

noncomputable def Gh.pub (G:Gh)(w:World)(S:Nat→Prop):Gh :=
 { G with
  stab:=fun b o=>@ite _ (S b∧∀o,JO b o=none) (Classical.propDecidable _) (sv w b o) (G.stab b o)
  tab:=fun b o v e=>by
   show @ite _ (S b∧∀o,JO b o=none) (Classical.propDecidable _) (sv w b o) (G.stab b o)=some v;rw[Qlu (fun h=>by rw[h.2 o]at e;cases e)];exact G.tab b o v e }
theorem Gh.notab {G:Gh}{b:Nat}(h:∀o,G.stab b o=none):∀o,JO b o=none:=fun o=>by
 cases e:JO b o with
 |none=>rfl
 |some v=>have:=G.tab b o v e;rw[h o]at this;cases this
theorem Gh.pub_c {G:Gh}{w:World}{S:Nat→Prop}{b o:Nat}(h:S b∧∀o,JO b o=none):(G.pub w S).stab b o=sv w b o:=Qlv h
theorem Gh.pub_n {G:Gh}{w:World}{S:Nat→Prop}{b o:Nat}(h:¬(S b∧∀o,JO b o=none)):(G.pub w S).stab b o=G.stab b o:=Qlu h

theorem Gh.pub_in {G:Gh}{w:World}{S:Nat→Prop}{b o:Nat}(h:S b)(hn:∀o,JO b o=none):(G.pub w S).stab b o=sv w b o:=Qlv ⟨h,hn⟩
theorem Gh.pub_out {G:Gh}{w:World}{S:Nat→Prop}{b o:Nat}(h:¬S b):(G.pub w S).stab b o=G.stab b o:=Qlu fun x=>h x.1

theorem Gh.pub_gle {G:Gh}{w:World}{S:Nat→Prop}(h:∀b o v,G.stab b o=some v→rd w b o v):Gle G (G.pub w S) where
 stab b o v e:=by
  by_cases hS:S b∧∀o,JO b o=none
  ·rw[Gh.pub_c hS];exact Ca (h b o v e)
  ·rw[Gh.pub_n hS];exact e
 nm _ _ _ h:=h
 vg _ _:=Qlk _
 vs _ _ _:=⟨rfl,rfl,rfl⟩

mutual
theorem FH {G:Gh}{m:Qk}{w:World}(h:MR G m w){own:Bool}{S:Nat→Prop}(hS:∀l s b,(own&&l != 0)=false→G.vm l s=some b→S b)(hM:own=true→∀s b ks vs p,G.nm 0 s=some b→Qc m 0 s=.iter (.mp ks vs) p→S b):∀ {x:AV} {v:Value},Rep G x v→∀y,x.still own m=some y→Rep (G.pub w S) y v
 |.top,v,hr,y,e=>by cases e;exact .top v
 |.int _ _,_,hr,y,e=>by cases e;exact hr.mono (Gh.pub_gle h.stab)
 |.bool _,_,hr,y,e=>by cases e;exact hr.mono (Gh.pub_gle h.stab)
 |.str _,_,hr,y,e=>by cases e;exact hr.mono (Gh.pub_gle h.stab)
 |.nilp,_,hr,y,e=>by cases e;exact hr.mono (Gh.pub_gle h.stab)
 |.nilf,_,hr,y,e=>by cases e;exact hr.mono (Gh.pub_gle h.stab)
 |.nili,_,hr,y,e=>by cases e;exact hr.mono (Gh.pub_gle h.stab)
 |.nilm,_,hr,y,e=>by cases e;exact hr.mono (Gh.pub_gle h.stab)
 |.anyp,_,hr,y,e=>by cases e;exact hr.mono (Gh.pub_gle h.stab)
 |.list _,_,hr,y,e=>by cases e;exact hr.mono (Gh.pub_gle h.stab)
 |.lcap _,_,hr,y,e=>by cases e;exact hr.unlcap.mono (Gh.pub_gle h.stab)
 |.fn _ _ _,_,hr,y,e=>by cases e;exact hr.mono (Gh.pub_gle h.stab)
 |.ptr _ _ _,_,hr,y,e=>by cases e;exact hr.mono (Gh.pub_gle h.stab)
 |.mp _ _,_,hr,y,e=>by cases e;exact hr.mono (Gh.pub_gle h.stab)
 |.vptr _ _ _ _ _,_,hr,y,e=>by cases e;exact hr.mono (Gh.pub_gle h.stab)
 |.rptr _,_,hr,y,e=>by cases e;exact hr.mono (Gh.pub_gle h.stab)
 |.nils,_,hr,y,e=>by
   cases e;cases hr;exact oS
 |.agg l,_,hr,y,e=>by
   simp only[AV.still,Qlp]at e;obtain⟨l',e,rfl⟩:=e;cases hr with
   |agg hr=>exact .agg (UR h hS hM hr l' e)
 |.tup l,_,hr,y,e=>by
   simp only[AV.still,Qlp]at e;obtain⟨l',e,rfl⟩:=e;cases hr with
   |tup hr=>exact .tup (UR h hS hM hr l' e)
 |.iface t x,_,hr,y,e=>by
   simp only[AV.still,Qlp]at e;obtain⟨l',e,rfl⟩:=e;cases hr with
   |iface hr=>exact .iface (FH h hS hM hr l' e)
 |.vec l s g o n q,v,hr,y,e=>by
   simp only[AV.still]at e;split at e
   ·cases e;exact hr.mono (Gh.pub_gle h.stab)
   ·rename_i hown;split at e
    ·rename_i g' sz xs hlk;split at e
     ·rename_i hh;cases e;obtain⟨e1,e2,e3,e4⟩:=h.vec l s g' sz xs hlk;have hmem:∀x∈(xs.drop o).take n,x∈xs:=fun x hx=>Qmb (Qmc hx)
      cases hr with
      |vec hone hg hh'=>
       rcases hh' (by rw[e1];exact hh.1)with⟨hvm,rfl,rfl,A0,rfl,hA0⟩|⟨b,A,c,hvm,hok,rfl,hkc,hcm,hq,hA⟩
       ·simp only[Qmy];exact oS
       ·rcases e4 with⟨e,_⟩|⟨b',e,hrow⟩
        ·rw[hvm]at e;cases e
        ·rw[hvm]at e;cases e;obtain⟨cur,hsoft,hcs,hrep⟩:=hrow.cur;have hr:=(hrep.mono (Gh.pub_gle (S:=S) h.stab)).takeDrop (o*sz) (n*sz);rw[Jt e3.size,J2 (fun x hx=>e3.size x (Qmb hx))]at hr;refine .list (sz:=sz) hr (fun x hx=>e3.size x (hmem x hx)) (Jp e3.rf (JF hmem)) (Zr e3.leaf (JF hmem)) (fun j u hu=>?_) xD hkc xw;rw[Ql3]at hu;split at hu
         ·rename_i hj;rw[Ql4,Ql3]at hu;split at hu
          ·have hk:0<n:=by
            rcases Qmd n with h0|h0
            ·subst h0;simp at hj
            ·exact h0
           have hovc:o<G.vc l s:=Qlw (Nat.lt_add_of_pos_right hk) hok;have hA':=hA ⟨.inl hovc,.inr hk⟩;rw[e2]at hA';refine⟨b,o*sz,by rw[hA'],?_⟩;rw[Gh.pub_in (hS l s b (by simpa using hown) hvm) (Gh.notab (h.vm l s b hvm).2)];refine DH ?_;rw[hsoft.cell]
           simpa using hu
          ·cases hu
         ·cases hu
     ·cases e
    ·cases e
 |.mptr l s,v,hr,y,e=>by
   simp only[AV.still]at e;split at e
   ·cases e;exact hr.mono (Gh.pub_gle h.stab)
   ·rename_i hown;split at e
    ·rename_i ho;have hl:l=0:=by simpa [ho]using hown
     subst hl;split at e
     ·rename_i ks vs p hlk;cases e;cases hr with
      |mptr hb=>
       obtain⟨b',e',hh⟩:=h.iter 0 s _ _ hlk;rw[hb]at e';cases e';refine .mp ?_;rw[Gh.pub_in (hM ho s _ _ _ _ hb hlk) (Gh.notab (h.nm _ _ _ hb).2)];exact Ca (v:=.mapo _ _) hh
     ·cases e
    ·cases e
theorem UR {G:Gh}{m:Qk}{w:World}(h:MR G m w){own:Bool}{S:Nat→Prop}(hS:∀l s b,(own&&l != 0)=false→G.vm l s=some b→S b)(hM:own=true→∀s b ks vs p,G.nm 0 s=some b→Qc m 0 s=.iter (.mp ks vs) p→S b):∀ {x:List AV} {v:List Value},RepL G x v→∀y,AV.stillL own m x=some y→RepL (G.pub w S) y v
 | [],_,hr,y,e=>by cases e;cases hr;exact .nil
 |x :: l,_,hr,y,e=>by
   simp only[AV.stillL]at e;split at e
   ·rename_i a b ea eb;cases e;cases hr with
    |cons hr ht=>exact .cons (FH h hS hM hr a ea) (UR h hS hM ht b eb)
   ·cases e
end

def HO (P:Program) (k:FuncId):Prop := ∃fn, P.funcs[k]? = some fn∧(fn.name == "runtime.NumGoroutine")=false∧fn.body.isNone=false

def Qe (P:Program)(k:FuncId)(args:List AV)(m:Qk)(R:AV→Qk→Prop):Prop :=
 HO P k∧∀(G:Gh) (w:World) (vs:List Value),RepL G args vs→MR G m w→Calls P k ⟨vs⟩ w fun e w'=>∃G' x v m',e=.returned v∧R x m'∧Rep G' x v∧MR G' m' w'∧Ext 0 G w G' w'∧m'.length=m.length

theorem Qe.mono {P:Program}{k:FuncId}{args:List AV}{m:Qk}{R R':AV→Qk→Prop}(h:Qe P k args m R)(hr:∀x m',R x m'→R' x m'):Qe P k args m R' :=
 ⟨h.1,fun G w vs h1 h2=>(h.2 G w vs h1 h2).mono fun _ _ ⟨G',x,v,m',e,r,rest⟩=>⟨G',x,v,m',e,hr _ _ r,rest⟩⟩

def Gh.up (G:Gh):Gh where
 stab:=G.stab
 nm:=fun l s=>match l with|0=>none|l+1=>G.nm l s
 vm:=fun l s=>match l with|0=>none|l+1=>G.vm l s
 vc:=fun l s=>match l with|0=>0|l+1=>G.vc l s
 vg:=fun l s=>match l with|0=>0|l+1=>G.vg l s
 vz:=fun l s=>match l with|0=>0|l+1=>G.vz l s
 tab:=G.tab

theorem Gh.up_dn (G:Gh)(l:Nat):G.up.dn (l+1)=G.dn l:=rfl

theorem Gh.up_mine {G:Gh}{b:Nat}:G.up.mine b↔G.mine b:=by
 constructor
 ·rintro(⟨l,s,e⟩|⟨l,s,e⟩)
  ·cases l with
   |zero=>cases e
   |succ l=>exact .inl ⟨l,s,e⟩
  ·cases l with
   |zero=>cases e
   |succ l=>exact .inr ⟨l,s,e⟩
 ·rintro(⟨l,s,e⟩|⟨l,s,e⟩)
  ·exact .inl ⟨l+1,s,e⟩
  ·exact .inr ⟨l+1,s,e⟩

def Qb:Nat→Ob:=fun _=>.none

theorem MR.up {G:Gh}{m:Qk}{w:World}(h:MR G m w):MR G.up (Qb :: m) w where
 stab:=h.stab
 cells l s xs e:=by
  cases l with
  |zero=>cases e
  |succ l=>exact h.cells l s xs e
 nm l s b e:=by
  cases l with
  |zero=>cases e
  |succ l=>exact h.nm l s b e
 vec l s g sz xs e:=by
  cases l with
  |zero=>cases e
  |succ l=>
   obtain⟨a1,a2,a3,a4⟩:=h.vec l s g sz xs e;exact⟨a1,a2,a3,a4.imp id fun⟨b,e',r⟩=>⟨b,e',r.of rfl fun vs hv=>RepL.rfd (G:=G) (G':=G.up) (fun _ _ _ h=>h) a3.rf hv⟩⟩
 vm l s b e:=by
  cases l with
  |zero=>cases e
  |succ l=>exact h.vm l s b e
 gone l s e:=by
  cases l with
  |zero=>rfl
  |succ l=>exact h.gone l s e
 inj1 l s l' s' b e e':=by
  cases l with
  |zero=>cases e
  |succ l=>
   cases l' with
   |zero=>cases e'
   |succ l'=>obtain⟨h1,h2⟩:=h.inj1 l s l' s' b e e';exact⟨by rw[h1],h2⟩
 inj2 l s l' s' b e e':=by
  cases l with
  |zero=>cases e
  |succ l=>
   cases l' with
   |zero=>cases e'
   |succ l'=>obtain⟨h1,h2⟩:=h.inj2 l s l' s' b e e';exact⟨by rw[h1],h2⟩
 inj3 l s l' s' b e e':=by
  cases l with
  |zero=>cases e
  |succ l=>
   cases l' with
   |zero=>cases e'
   |succ l'=>exact h.inj3 l s l' s' b e e'
 iter l s t p e:=by
  cases l with
  |zero=>cases e
  |succ l=>exact h.iter l s t p e

def Cw (l:List AV):Fr:=fun i=>(l[i]?).getD (.tup [])

def St.enter (args:List AV)(m:Qk):St:={ f:=Cw (AV.shL args),m:=Qb :: m,ds:=[] }

inductive RR where
 |tmp (t:Nat)
 |cell (t:Nat) (k:Option Nat)

def RR.ev (st:St):RR→Option AV
 |.tmp t=>some (st.f t)
 |.cell t k=>Xn st.m k (st.f t)

def RR.evL (st:St):List RR→Option (List AV)
 | []=>some []
 |r :: rs=>match r.ev st,RR.evL st rs with
  |some x,some xs=>some (x :: xs)
  |_,_=>none

def WR (st:St)(rs:List RR):Option AV :=
 match rs with
 | [r]=>r.ev st
 |rs=>(RR.evL st rs).map .tup

def Ke (P:Program):List ResultVar→List RR→Bool
 | [],[]=>true
 |.tmp t :: rs,.tmp t' :: ss=>t==t'&&Ke P rs ss
 |.cell t ty :: rs,.cell t' k :: ss=>t==t'&&Z9 P ty==some k&&Ke P rs ss
 |_,_=>false

def Yz (m:Qk)(x:AV):Option AV:=(x.still true m).bind AV.un

section
variable {P:Program}{G:Gh}{B N:Nat}{st:St}{a:Act}{w:World}

theorem Bm (h:Rel G B N st a w){t:Nat}{k:Option Nat}{x:AV}(hx:Xn st.m k (st.f t)=some x){ty:TypeId}(ht:Z9 P ty=some k) :
  ∃v,(do loadVar ty (←asAddr (a.tmps.getD t undef)):Sem Value).run P w=.ok v w∧Rep G x v:=by
 have hs:=h.slots t;obtain⟨v,h1,h2⟩:=Un (P:=P) h hx hs ht;refine⟨v,?_,h2⟩;generalize a.tmps.getD t undef=u at h1 hs ⊢;simp only[Instr.loadAt,Sem.run_bind]at h1;cases u with
 |pointer p=>
  cases p with
  |none=>simp[Instr.sureAddr]at h1
  |some p=>
   simp only[Instr.sureAddr,Sem.run_pure,Result.andThen_ok]at h1;simp only[asAddr,Sem.run_bind,Sem.run_pure,Result.andThen_ok];exact h1
 |_=>simp[Instr.sureAddr]at h1

def NH (tmps:Array Value):ResultVar→Sem Value
 |.tmp t=>pure (tmps.getD t undef)
 |.cell b t=>do loadVar t (←asAddr (tmps.getD b undef))

theorem Bn (fn:Func)(tmps:Array Value):results fn tmps=(do let vs ←fn.results.mapM (NH tmps);pure (if h:vs.size=1 then vs[0]else .tuple vs)):=by
 have:(fun r=>match r with
  |ResultVar.tmp t=>(pure (tmps.getD t undef):Sem Value)
  |ResultVar.cell b t=>do loadVar t (←asAddr (tmps.getD b undef)))=NH tmps:=by
  funext r;cases r<;>rfl
 rw[←this];rfl

theorem Sl (h:Rel G B N st a w){rs:List RR}:∀ {vs:List ResultVar} {xs:List AV},Ke P vs rs=true→RR.evL st rs=some xs→
  ∃us,(vs.mapM (NH a.tmps)).run P w=.ok us w∧RepL G xs us:=by
 induction rs with
 |nil=>
  intro vs xs hc he;cases vs with
  |nil=>cases he;exact⟨[],rfl,.nil⟩
  |cons v vs=>cases v<;>simp[Ke]at hc
 |cons r rs ih=>
  intro vs xs hc he;simp only[RR.evL]at he;split at he
  ·rename_i x xs' e1 e2;cases he;cases vs with
   |nil=>cases r<;>simp[Ke]at hc
   |cons v vs=>
    cases v with
    |tmp t=>
     cases r with
     |tmp t'=>
      simp only[Ke,QlM,Qls]at hc;obtain⟨rfl,hc⟩:=hc;obtain⟨us,h1,h2⟩:=ih hc e2;cases e1;exact⟨_ :: us,by simp only[List.mapM_cons,NH,Sem.run_bind,Sem.run_pure,Result.andThen_ok,h1],.cons (h.slots t) h2⟩
     |cell t' k=>simp[Ke]at hc
    |cell t ty=>
     cases r with
     |tmp t'=>simp[Ke]at hc
     |cell t' k=>
      simp only[Ke,QlM,Qls]at hc;obtain⟨⟨rfl,hk⟩,hc⟩:=hc;obtain⟨us,h1,h2⟩:=ih hc e2;obtain⟨v,h3,h4⟩:=Bm (P:=P) h (t:=t) e1 hk;refine⟨v :: us,?_,.cons h4 h2⟩;simp only[List.mapM_cons,Sem.run_bind,Sem.run_pure];have h3':(NH a.tmps (.cell t ty)).run P w=.ok v w:=h3;rw[h3'];simp only[Result.andThen_ok,h1]
  ·cases he

theorem Qbn (h:Rel G B N st a w){rs:List RR}{fn:Func}{x:AV}(hc:Ke P fn.results.toList rs=true)(hx:WR st rs=some x):∃v,(results fn a.tmps).run P w=.ok v w∧Rep G x v:=by
 have key:∀xs,RR.evL st rs=some xs→∃us,(fn.results.mapM (NH a.tmps)).run P w=.ok ⟨us⟩ w∧RepL G xs us:=by
  intro xs he;obtain⟨us,h1,h2⟩:=Sl (P:=P) h hc he;refine⟨us,?_,h2⟩;rw[Array.mapM_eq_mapM_toList];simp only[Sem.run_map,h1,Result.andThen_ok]
 have hl:∀xs (us:List Value),RR.evL st rs=some xs→RepL G xs us→us.length=rs.length:=by
  intro xs us he hr;have:∀(rs:List RR) xs,RR.evL st rs=some xs→xs.length=rs.length:=by
   intro rs
   induction rs with
   |nil=>intro xs e;cases e;rfl
   |cons r rs ih=>
    intro xs e;simp only[RR.evL]at e;split at e
    ·rename_i x xs' _ e2;cases e;simp[ih _ e2]
    ·cases e
  rw[hr.length,this rs xs he]
 unfold WR at hx;split at hx
 ·rename_i r;have he:RR.evL st [r]=some [x]:=by simp[RR.evL,hx]
  obtain⟨us,h1,h2⟩:=key [x] he;cases h2 with
  |cons h2 h3=>
   cases h3;refine⟨_,?_,h2⟩;rw[Bn,Sem.run_bind,h1];rfl
 ·rename_i rs' hne;simp only[Qlp]at hx;obtain⟨xs,he,rfl⟩:=hx;obtain⟨us,h1,h2⟩:=key xs he;have hlen:=hl xs us he h2;refine⟨.tuple ⟨us⟩,?_,.tup h2⟩;rw[Bn,Sem.run_bind,h1];simp only[Result.andThen_ok];have:¬(⟨us⟩:Array Value).size=1:=by
   simp only[Qmt,hlen];intro h1
   match rs,h1 with
   | [r],_=>exact hne r rfl
  rw[dif_neg this];rfl

end

inductive RO where
 |val (v:VO)
 |allocN (site:Nat) (z:List AV)
 |boxN (site:Nat) (x:RA)
 |store (n:Nat) (p x:RA)
 |storev (l s n:Nat) (p x:RA)
 |app (sz bytes e:Nat) (s x:RA)
 |appS (e:Nat) (s x:RA)
 |mk (site e sz bytes:Nat) (z:List AV) (l c:RA)
 |s2b (site e:Nat) (x:RA)
 |usd (x:RA)
 |ustr (e:Nat) (p n:RA)
 |bsl (sz len:Nat) (z:List AV) (ps:List (Nat×Nat×RA))
 |call (f:RA) (args:List RA)
 |callF (f:RA) (args:List RA)
 |bslv (site sz len:Nat) (z:List AV) (ps:List (Nat×Nat×RA))
 |bsl0 (site sz:Nat)
 |isnil (neg:Bool) (x:RA)
 |appc (site sz bytes e:Nat) (s x:RA)
 |callG (f:RA) (args:List RA)
 |xb (cnt:Bool) (k:Nat) (s c:RA)
 |callK (l s:Nat) (f:RA) (args:List RA)
 |callO (l s:Nat) (f:RA) (args:List RA)   -- a call that looks at one row of ours alone,and leaves all as it was
 |rngs (site:Nat) (x:RA)
 |nxts (x:RA)
 |mkm (site:Nat)
 |mput (t:Bool) (x i v:RA)
 |clr (sz:Nat) (z:List AV) (x:RA)

structure Item where
 dst:Option Nat
 op:RO
 g:Option (Nat×Bool)

def Ws (sz:Nat):List (Nat×Operand)→List (Nat×Nat×RA)→Bool
 | [],[]=>true
 |(i,x) :: xs,(o,n,r) :: rs=>o==i*sz&&n==sz&&QM x r&&Ws sz xs rs
 |_,_=>false

def isZ:Operand→Bool
 |.const (.int _ n)=>n==0
 |_=>false

def X4 (P:Program)(op:Op)(ro:RO):Bool :=
 match ro with
 |.val v=>Zd P op v
 |.allocN s z=>match op with
  |.alloc e=>match P.info? e with
   |some i=>match i.zero with
    |some zv=>isCL zv.cells.toList z&&Zk s e
    |none=>false
   |none=>false
  |_=>false
 |.boxN s r=>match op with
  |.box e x=>QM x r&&Zk s e
  |_=>false
 |.store n p r=>match op with
  |.store t q x=>(P.info? t).any (fun i=>i.size==n)&&QM q p&&QM x r
  |_=>false
 |.storev _ _ n p r=>match op with
  |.store t q x=>(P.info? t).any (fun i=>i.size==n)&&QM q p&&QM x r
  |_=>false
 |.app sz bytes el s r=>match op with
  |.call { callee:=.builtin .append,args:=⟨[x,y]⟩,argTypes:=⟨[t,t']⟩ }=>t==t'&&(match P.underlying t with
   |some (.slice e)=>(P.info? e).any (fun i=>i.size==sz&&i.bytes==bytes&&(match i.zero with|some zv=>zv.cells.size==sz|none=>false))&&sz != 0&&e==el
   |_=>false)&&QM x s&&QM y r
  |_=>false
 |.appS el s r=>match op with
  |.call { callee:=.builtin .append,args:=⟨[x,y]⟩,argTypes:=⟨[t,t']⟩ }=>Yy P t'&&(match P.underlying t with
   |some (.slice e)=>(P.info? e).any (fun i=>i.size==1&&i.bytes==1&&(match i.zero with|some zv=>zv.cells.size==1|none=>false))&&e==el
   |_=>false)&&QM x s&&QM y r
  |_=>false
 |.clr sz z r=>match op with
  |.call { callee:=.builtin .clear,args:=⟨[x]⟩,argTypes:=⟨[t]⟩ }=>(match P.underlying t with
   |some (.slice e)=>(P.info? e).any (fun i=>i.size==sz&&(match i.zero with|some zv=>isCL zv.cells.toList z&&z.length==sz|none=>false))&&sz != 0&&AV.rfL z&&z.all AV.leaf
   |_=>false)&&QM x r
  |_=>false
 |.mk site el sz bytes z l c=>match op with
  |.makeSlice t x y=>(match P.underlying t with
   |some (.slice e)=>(P.info? e).any (fun i=>i.size==sz&&i.bytes==bytes&&(match i.zero with|some zv=>isCL zv.cells.toList z&&z.length==sz|none=>false))&&sz != 0&&e==el&&Zk site e&&AV.rfL z&&z.all AV.leaf
   |_=>false)&&QM x l&&QM y c
  |_=>false
 |.s2b site el r=>match op with
  |.convert src dst x=>Yy P src&&(match P.underlying dst with
   |some (.slice e)=>Y6 P e .u8&&e==el&&Zk site e
   |_=>false)&&QM x r
  |_=>false
 |.usd r=>match op with
  |.call { callee:=.builtin .unsafeSliceData,args:=⟨[x]⟩,argTypes:=_ }=>QM x r
  |_=>false
 |.ustr el p n=>match op with
  |.call { callee:=.builtin .unsafeString,args:=⟨[x,y]⟩,argTypes:=⟨[pt,_]⟩ }=>(match P.underlying pt with
   |some (.pointer e)=>e==el&&P.cellsOf e==1
   |_=>false)&&QM x p&&QM y n
  |_=>false
 |.bsl sz len z ps=>match op with
  |.buildSlice t n Qo=>n==len&&len*sz≤16777216&&sz != 0&&len != 0&&(match P.underlying t with
   |some (.slice e)=>(P.info? e).any (fun i=>i.size==sz&&(match i.zero with|some zv=>isCL zv.cells.toList z&&z.length==sz|none=>false))
   |_=>false)&&Ws sz Qo.toList ps
  |_=>false
 |.call f rs=>match op with
  |.call { callee:=.value x,args,argTypes:=_ }=>QM x f&&Wp args.toList rs
  |_=>false
 |.callF f rs=>match op with
  |.call { callee:=.value x,args,argTypes:=_ }=>QM x f&&Wp args.toList rs
  |_=>false
 |.xb cnt k s c=>match op with
  |.call { callee:=.value (.func k'),args:=⟨[x,y]⟩,argTypes:=_ }=>k==k'&&(match P.funcs[k]? with
   |some fn=>fn.name==(if cnt then "internal/bytealg.CountString" else "internal/bytealg.IndexByteString")&&fn.origin == "" && fn.body.isNone
   |none=>false)&&QM x s&&QM y c
  |_=>false
 |.callK _ _ f rs=>match op with
  |.call { callee:=.value x,args,argTypes:=_ }=>QM x f&&Wp args.toList rs
  |_=>false
 |.callO _ _ f rs=>match op with
  |.call { callee:=.value x,args,argTypes:=_ }=>QM x f&&Wp args.toList rs
  |_=>false
 |.callG f rs=>match op with
  |.call { callee:=.value x,args,argTypes:=_ }=>QM x f&&Wp args.toList rs
  |_=>false
 |.rngs _ r=>match op with
  |.range t x=>Yy P t&&QM x r
  |_=>false
 |.nxts r=>match op with
  |.next x true=>QM x r
  |_=>false
 |.mkm s=>match op with
  |.makeMap _ none=>decide (s<2000)
  |_=>false
 |.mput tx r i v=>match op with
  |.mapUpdate t x y z|.insert t x y z=>(match P.underlying t with
   |some (.map kt _)=>Cn P tx kt
   |_=>false)&&QM x r&&QM y i&&QM z v
  |_=>false
 |.bslv site sz len z ps=>match op with
  |.buildSlice t n Qo=>n==len&&len*sz≤16777216&&sz != 0&&len != 0&&(match P.underlying t with
   |some (.slice e)=>(P.info? e).any (fun i=>i.size==sz&&(match i.zero with|some zv=>isCL zv.cells.toList z&&z.length==sz|none=>false))&&Zk site e
   |_=>false)&&Ws sz Qo.toList ps
  |_=>false
 |.appc site sz bytes el s r=>match op with
  |.call { callee:=.builtin .append,args:=⟨[x,y]⟩,argTypes:=⟨[t,t']⟩ }=>t==t'&&(match P.underlying t with
   |some (.slice e)=>(P.info? e).any (fun i=>i.size==sz&&i.bytes==bytes&&(match i.zero with|some zv=>zv.cells.size==sz|none=>false))&&sz != 0&&e==el&&Zk site e
   |_=>false)&&QM x s&&QM y r
  |_=>false
 |.isnil neg r=>match op with
  |.binOp b t x y _=>(match P.underlying t with
   |some (.slice _)=>true
   |_=>false)&&b==(bif neg then .neq else .eql)&&QM x r&&QM y (.c .nils)
  |_=>false
 |.bsl0 site sz=>match op with
  |.buildSlice t n Qo=>n==0&&Qo.isEmpty&&(match P.underlying t with
   |some (.slice e)=>(P.info? e).any (fun i=>i.size==sz)&&Zk site e
   |_=>false)
  |_=>false

def Sm (P:Program)(t:TypeId)(ro:RO):Bool :=
 match ro with
 |.usd _=>match P.underlying t with
  |some (.pointer _)=>true
  |_=>false
 |_=>true

def Sn (P:Program)(o:Oper)(ro:RO):Bool:=X4 P o.op ro&&Sm P o.type ro

def GK (P:Program)(N:Nat)(ops:Array Oper)(o:Oper)(it:Item):Bool :=
 o.dst==it.dst&&(match o.dst with|some d=>decide (d<N)|none=>true)&&(match o.guard,it.g with
  |none,none=>true
  |some (j,want),some (dj,want')=>(ops[j]?).bind (·.dst)==some dj&&want==want'
  |_,_=>false)&&Sn P o it.op

def ZR (P:Program)(N:Nat)(ops:Array Oper):List Oper→List Item→Bool
 | [],[]=>true
 |o :: os,it :: its=>GK P N ops o it&&ZR P N ops os its
 |_,_=>false

def Qy (P:Program)(N:Nat)(its:List Item)(st:St)(Q:St→Prop):Prop :=
 ∀(ops:Array Oper) (l:List Oper),ZR P N ops l its=true→∀(G:Gh) (B:Nat) (a:Act) (w:World),Rel G B N st a w→
  ∀(QQ:Exit→Act→World→Prop),(∀G' st' a' w',Q st'→Rel G' B N st' a' w'→Ext 1 G w G' w'→QQ .normal a' w')→wpList P ops QQ l a w

section
variable {P:Program}{N:Nat}{st:St}{Q:St→Prop}

theorem Qy.nil (h:Q st):Qy P N [] st Q:=by
 intro ops l hc G B a w hr QQ hq;cases l with
 |nil=>exact hq G st a w h hr (Ext.refl 1 G w)
 |cons o l=>simp[ZR]at hc

theorem Qy.stepT {it:Item}{its:List Item}(hg:it.g=none)
  (h:∀(G:Gh) (B:Nat) (a:Act) (w:World) (o:Oper),Rel G B N st a w→o.dst=it.dst→(∀d,it.dst=some d→d<N)→X4 P o.op it.op=true→Sm P o.type it.op=true→
   ∀(K:Act→World→Prop) (QQ:Exit→Act→World→Prop),(∀G' st' a' w',Qy P N its st' Q→Rel G' B N st' a' w'→Ext 1 G w G' w'→K a' w')→o.wp P a w K QQ):Qy P N (it :: its) st Q:=by
 intro ops l hc G B a w hr QQ hq;cases l with
 |nil=>simp[ZR]at hc
 |cons o l=>
  simp only[ZR,GK,QlM,Qls]at hc;obtain⟨⟨⟨⟨h1,h2⟩,h3⟩,h4⟩,h5⟩:=hc;have h4:(X4 P o.op it.op&&Sm P o.type it.op)=true:=h4;rw[QlM]at h4;have hgd:o.guard=none:=by
   rw[hg]at h3;cases hog:o.guard with
   |none=>rfl
   |some p=>rw[hog]at h3;simp at h3
  refine wpList_plain hgd fun K hK=>?_
  refine h G B a w o hr h1 (fun d e=>?_) h4.1 h4.2 K QQ fun G' st' a' w' ha hr' he=>hK _ _ ?_
  ·rw[h1,e]at h2
   simpa using h2
  ·exact ha ops l h5 G' B a' w' hr' QQ fun G2 st2 a2 w2 hq2 hr2 he2=>hq G2 st2 a2 w2 hq2 hr2 (he.trans he2)

theorem Qy.step {it:Item}{its:List Item}(hg:it.g=none)
  (h:∀(G:Gh) (B:Nat) (a:Act) (w:World) (o:Oper),Rel G B N st a w→o.dst=it.dst→(∀d,it.dst=some d→d<N)→X4 P o.op it.op=true→
   ∀(K:Act→World→Prop) (QQ:Exit→Act→World→Prop),(∀G' st' a' w',Qy P N its st' Q→Rel G' B N st' a' w'→Ext 1 G w G' w'→K a' w')→o.wp P a w K QQ):Qy P N (it :: its) st Q :=
 Qy.stepT hg fun G B a w o hr hd hdN hc _=>h G B a w o hr hd hdN hc

theorem Qy.same {d:Option Nat}{ro ro':RO}{g:Option (Nat×Bool)}{its:List Item}(h:∀o,Sn P o ro'=Sn P o ro)(k:Qy P N (⟨d,ro,g⟩ :: its) st Q):Qy P N (⟨d,ro',g⟩ :: its) st Q:=by
 intro ops l hc;refine k ops l ?_;cases l with
 |nil=>exact hc
 |cons o l=>simpa only [ZR,GK,h]using hc

theorem Qy.val {d:Option Nat}{vo:VO}{its:List Item}{x:AV}(hx:Qx st.f st.m vo=some x)(h:Qy P N its { st with f:=Ql st.f d x } Q):Qy P N (⟨d,.val vo,none⟩ :: its) st Q:=by
 refine Qy.step rfl fun G B a w o hr hd hdN hc K QQ hK=>?_
 obtain⟨v,hrun,hv⟩:=Qc4 (P:=P) hr hx (o:=o) hc;unfold Oper.wp;rw[hrun];have hd':o.dst=d:=hd;show K (a.put o.dst v) w;rw[hd'];exact hK G _ _ w h (hr.put hdN hv) (Ext.refl 1 G w)

theorem Qy.yes {d:Option Nat}{ro:RO}{j:Nat}{want:Bool}{its:List Item}(hj:st.f j=.bool want)(h:Qy P N (⟨d,ro,none⟩ :: its) st Q):Qy P N (⟨d,ro,some (j,want)⟩ :: its) st Q:=by
 intro ops l hc G B a w hr QQ hq;cases l with
 |nil=>simp[ZR]at hc
 |cons o l=>
  simp only[ZR,GK,QlM,Qls]at hc;obtain⟨⟨⟨⟨h1,h2⟩,h3⟩,h4⟩,h5⟩:=hc
  -- the same operation without its guard
  have hno:=h ops ({ o with guard:=none } :: l) (by simp only[ZR,GK,QlM,Qls];exact⟨⟨⟨⟨h1,h2⟩,trivial⟩,h4⟩,h5⟩) G B a w hr QQ hq;have hw:Region.wanted o (yielded ops a.tmps)=true:=by
   cases hog:o.guard with
   |none=>simp[Region.wanted,hog]
   |some p=>
    obtain⟨i,wt⟩:=p;rw[hog]at h3;simp only[QlM,Qls]at h3;obtain⟨h6,rfl⟩:=h3;have hs:=hr.slots j;rw[hj]at hs;have hv:a.tmps[j]? = some (.bool wt):=by
     have hs':a.tmps.getD j undef=.bool wt:=by
      revert hs
      generalize a.tmps.getD j undef=v;intro hs;cases hs;rfl
     simp only[Qly]at hs';cases hjj:a.tmps[j]? with
     |none=>rw[hjj]at hs';simp[undef]at hs'
     |some v=>rw[hjj]at hs';simp at hs';rw[hs']
    simp only[Region.wanted,hog,yielded,h6,Option.bind_some,hv,Qmz]
  unfold wpList at hno ⊢;rw[Qlv hw];rw[Qlv (by simp[Region.wanted])]at hno;have hexec:execOp a.eval { o with guard:=none }=execOp a.eval o:=by
   unfold execOp;rfl
  rcases hno with hno|⟨hno,ho⟩
  ·left
   unfold Oper.wp at hno ⊢;rw[hexec]at hno;exact hno
  ·right
   refine⟨?_,ho⟩;unfold Oper.asks at hno ⊢;rw[hexec]at hno;exact hno

theorem Qy.no {d:Option Nat}{ro:RO}{j:Nat}{want:Bool}{its:List Item}(hj:st.f j=.bool (!want)∨st.f j=.tup [])(h:Qy P N its { st with f:=Ql st.f d (.tup []) } Q):Qy P N (⟨d,ro,some (j,want)⟩ :: its) st Q:=by
 intro ops l hc G B a w hr QQ hq;cases l with
 |nil=>simp[ZR]at hc
 |cons o l=>
  simp only[ZR,GK,QlM,Qls]at hc;obtain⟨⟨⟨⟨h1,h2⟩,h3⟩,h4⟩,h5⟩:=hc;have hw:Region.wanted o (yielded ops a.tmps)=false:=by
   cases hog:o.guard with
   |none=>rw[hog]at h3;simp at h3
   |some p=>
    obtain⟨i,wt⟩:=p;rw[hog]at h3;simp only[QlM,Qls]at h3;obtain⟨h6,rfl⟩:=h3;have hs:=hr.slots j;have hv:a.tmps[j]? = some (.bool (!wt))∨a.tmps[j]? = none∨a.tmps[j]? = some (.tuple #[]):=by
     simp only[Qly]at hs;cases hjj:a.tmps[j]? with
     |none=>exact .inr (.inl rfl)
     |some v=>
      rw[hjj]at hs;simp only[QmA]at hs;rcases hj with hj|hj<;>rw[hj]at hs
      ·cases hs;exact .inl rfl
      ·cases hs with
       |tup hs=>cases hs;exact .inr (.inr rfl)
    simp only[Region.wanted,hog,yielded,h6,Option.bind_some];rcases hv with hv|hv|hv<;>rw[hv]<;>cases wt<;>rfl
  unfold wpList;rw[Qlu (by rw[hw];simp)];have hd':o.dst=d:=h1;rw[hd'];have hdN:∀k,d=some k→k<N:=fun k e=>by
   rw[h1,e]at h2
   simpa using h2
  have:=h ops l h5 G B _ w (hr.put hdN (v:=undef) (.tup .nil)) QQ hq;exact this

end

def JP (e:AV)(o:Nat)(ys:List AV):AV :=
 match e with
 |.agg l=>.agg (splice l o ys)
 |_=>match ys with
  |y :: _=>y
  | []=>e

def Xp (m:Qk)(p:AV)(ys:List AV):Option Qk :=
 match p with
 |.ptr l s o=>match Qc m l s with
  |.cells xs=>if o+ys.length≤xs.length then match AV.unNL l ys with
    |some zs=>some (Am.put m l s (.cells (splice xs o zs)))
    |none=>none
   else none
  |_=>none
 |.vptr l s g i o=>match Qc m l s with
  |.vec g' sz xs=>if g=g' then match xs[i]? with
    |some e=>if o+ys.length≤e.cells.length∧ys.length≠0∧AV.rfL ys=true then some (Am.put m l s (.vec g' sz (xs.set i (JP e o ys))))else none
    |none=>none
   else none
  |_=>none
 |_=>none

theorem V4 {e:AV}(he:e.cells.all AV.leaf=true){o:Nat}{ys:List AV}(h:o+ys.length≤e.cells.length)(hl:ys.all AV.leaf=true)(h0:ys.length≠0):(JP e o ys).cells=splice e.cells o ys:=by
 have key:∀x:AV,x.cells=[x]→x=e→(match ys with|y :: _=>y | []=>e).cells=splice e.cells o ys:=by
  intro x hx hxe;subst hxe;rw[hx]at h ⊢;simp only[QlD,Qmk]at h;obtain⟨y,rfl⟩:∃y,ys=[y]:=by
   match ys,h0,h with
   | [y],_,_=>exact⟨y,rfl⟩
   | [],h0,_=>exact absurd rfl h0
   |_ :: _ :: _,_,h=>simp at h;omega
  have ho:o=0:=by simp at h;omega
  subst ho;simp only[QmB,QmC,QmD]at hl;simp only[splice,Qmy,QlL,QlD,Qmk,Ql0,QmE,Qms];cases y<;>first|rfl|(simp[AV.leaf]at hl)
 cases e with
 |agg l=>rfl
 |_=>exact key _ rfl rfl

theorem Cx {sz:Nat}:∀ {xs:List AV} (_:∀x∈xs,x.cells.length=sz) (i:Nat) (e:AV),e.cells.length=sz→i<xs.length→QP (xs.set i e)=(QP xs).take (i*sz)++e.cells++(QP xs).drop (i*sz+sz)
 | [],_,i,e,_,h=>by simp at h
 |x :: xs,hz,i,e,he,h=>by
  have hx:=hz x (QlG ..);cases i with
  |zero=>
   rw[List.set_cons_zero,Ze,Ze,Nat.zero_mul,Qmy,QlL,QlN,List.drop_append,hx];simp[Ql1 (Ql8 hx)]
  |succ i=>
   have ih:=Cx (fun y hy=>hz y (QlE _ hy)) i e he xQ;rw[List.set_cons_succ,Ze,ih,Ze,QlZ,Nat.one_mul,List.take_append,List.drop_append,hx];rw[QlY (l:=x.cells) (by rw[hx];omega),Ql1 (l:=x.cells) (by rw[hx];omega)];rw[show i*sz+sz-sz=i*sz by omega,show i*sz+sz+sz-sz=i*sz+sz by omega];simp

theorem Fk {α:Type}(l us:List α)(k n:Nat)(h:k+us.length≤n)(hn:n≤l.length):(l.take k++us++l.drop (k+us.length)).take n=(l.take n).take k++us++(l.take n).drop (k+us.length):=by
 have e:(l.take k++us).length=k+us.length:=xD
 rw[List.take_append,e,QlY (l:=l.take k++us) xw,QmF,QmG xw,List.drop_take]

theorem MR.rowset {G:Gh}{m:Qk}{w w':World}(h:MR G m w){l s g sz b:Nat}{xs ys:List AV}(hx:Qc m l s=.vec g sz xs)(hb:G.vm l s=some b)(ht:Turned b w w')(hel:Elems sz ys)(hr:RowIs G s w' b (G.vc l s) sz ys) :
  MR G (Am.put m l s (.vec g sz ys)) w' where
 stab k o v e:=by
  have hk:k≠b:=by rintro rfl;rw[(h.vm l s k hb).2 o]at e;cases e
  exact KO (ht.heap k hk) (h.stab k o v e)
 cells l' s' zs e:=by
  by_cases hh:l'=l∧s'=s
  ·obtain⟨rfl,rfl⟩:=hh;rw[Qs (Xm kg)]at e;cases e
  ·rw[QE xw]at e;obtain⟨b',cs',e',hc,hr⟩:=h.cells l' s' zs e;exact⟨b',cs',e',hc.of (ht.heap b' (fun eb=>by subst eb;exact h.inj3 _ _ _ _ _ e' hb)),hr⟩
 nm l' s' b' e:=by
  obtain⟨hz,h2⟩:=h.nm l' s' b' e;refine⟨?_,h2⟩;by_cases hh:l'=l∧s'=s
  ·obtain⟨rfl,rfl⟩:=hh;rw[hx]at hz;cases hz
  ·rw[QE xw];exact hz
 vec l' s' g' sz' zs e:=by
  by_cases hh:l'=l∧s'=s
  ·obtain⟨rfl,rfl⟩:=hh;rw[Qs (Xm kg)]at e;cases e;obtain⟨a1,a2,a3,a4⟩:=h.vec l' s' g sz xs hx;exact⟨a1,a2,hel,.inr ⟨b,hb,hr⟩⟩
  ·rw[QE xw]at e;obtain⟨a1,a2,a3,a4⟩:=h.vec l' s' g' sz' zs e;refine⟨a1,a2,a3,a4.imp id fun⟨b',e',r⟩=>⟨b',e',r.of (ht.heap b' ?_) fun _ h=>h⟩⟩;rintro rfl;exact hh (h.inj2 _ _ _ _ _ e' hb)
 vm l' s' b' e:=by
  obtain⟨⟨g',sz',zs,hz⟩,h2⟩:=h.vm l' s' b' e;refine⟨?_,h2⟩;by_cases hh:l'=l∧s'=s
  ·obtain⟨rfl,rfl⟩:=hh;exact⟨g,sz,ys,Qs (Xm kg)⟩
  ·exact⟨g',sz',zs,qm⟩
 gone l' s' e:=by
  by_cases hh:l'=l∧s'=s
  ·obtain⟨rfl,rfl⟩:=hh;rw[Qs (Xm kg)]at e;cases e
  ·rw[QE xw]at e;exact h.gone l' s' e
 inj1:=h.inj1
 inj2:=h.inj2
 inj3:=h.inj3
 iter l' s' t p e:=by
  by_cases hh:l'=l∧s'=s
  ·obtain⟨rfl,rfl⟩:=hh;rw[Qs (Xm kg)]at e;cases e
  ·rw[QE xw]at e;obtain⟨b',e',hc⟩:=h.iter l' s' t p e;exact⟨b',e',(ht.heap b' (fun eb=>by subst eb;exact h.inj3 _ _ _ _ _ e' hb)).trans hc⟩

section
variable {P:Program}{N:Nat}{st:St}{Q:St→Prop}

theorem Cy {xs:List AV}(h:(QP xs).all AV.leaf=true){e:AV}(he:e∈xs):e.cells.all AV.leaf=true :=
 Zr h fun _ hx=>Qma.2 ⟨e,he,hx⟩

theorem Fl {t:TypeId}{i:TypeInfo}(hi:P.info? t=some i){b o:Nat}{v:Value}{w:World}(hs:v.cells.size=i.size):(Instr.storeAt t (.pointer (some ⟨b,o,none⟩)) v).run P w=(storeCells ⟨b,o,none⟩ v.cells.toList).run P w:=by
 simp only[Instr.storeAt,Instr.sureAddr,Sem.run_bind,Sem.run_pure,Result.andThen_ok,storeVar,XR hi];rw[Qlu xw]

theorem Qy.store {d:Option Nat}{n:Nat}{p r:RA}{its:List Item}{m':Qk}(hn:(r.ev st.f).cells.length=n)(hl:(r.ev st.f).cells.all AV.leaf=true)(hm:Xp st.m (p.ev st.f) (r.ev st.f).cells=some m')
  (h:Qy P N its { st with m:=m',f:=Ql st.f d (.tup []) } Q):Qy P N (⟨d,.store n p r,none⟩ :: its) st Q:=by
 refine Qy.step rfl fun G B a w o hr hd hdN hc K QQ hK=>?_
 cases ho:o.op<;>rw[ho]at hc<;>simp only[X4,QlH,QlM,Qmo,Qls]at hc;rename_i t q x;obtain⟨⟨⟨i,hi,hin⟩,hcp⟩,hcr⟩:=hc;have rp:=Qv hr hcp;have rx:=(Qv hr hcr).cells hl;have hsz:(a.eval x).cells.size=i.size:=by
  have:=rx.length;simp only[QlU]at this;omega
 have h1:∀u∈(a.eval x).cells.toList,u.oneCell'=true:=rx.leaves hl;have fin:∀w',(Instr.storeAt t (a.eval q) (a.eval x)).run P w=.ok () w'→(∃G',Rel G' B N { st with m:=m' } a w'∧Ext 1 G w G' w')→o.wp P a w K QQ:=by
  intro w' hrun ⟨G',hr',he⟩;have hexec:(execOp a.eval o).run P w=.ok .skip w':=by
   simp only[execOp,ho,Sem.run_bind,hrun,Result.andThen_ok,Sem.run_pure]
  unfold Oper.wp;rw[hexec];have hd':o.dst=d:=hd;show K (a.put o.dst undef) w';rw[hd'];exact hK G' _ _ w' h (hr'.put hdN (v:=undef) (.tup .nil)) he
 generalize hp:p.ev st.f=pv at rp hm;cases pv with
 |ptr l s off=>
  simp only[Xp]at hm;split at hm
  ·rename_i xs hlk;split at hm
   ·rename_i hfit;split at hm
    ·rename_i zs hzs;cases hm;generalize hq:a.eval q=qv at rp fin;cases rp with
     |ptr hb=>
      obtain⟨b,cs,hb',hsoft,hrep⟩:=hr.mr.cells l s xs hlk;rw[hb]at hb';cases hb';have hlen:=rx.length;have hxl:=hrep.length;simp only[QlU]at hlen hxl;obtain⟨w',hst,hs',htn⟩:=ZL P _ _ off (a.eval x).cells.toList 0 w cs hsoft j_ h1;refine fin w' (by rw[Fl hi hsz];exact hst) ⟨G,⟨?_,hr.size,hr.slots,hr.ds,hr.base,kX,Wi hr.ne⟩,Ext.turned htn (.inl ⟨l,s,hb⟩)⟩;refine hr.mr.stored hlk hb htn hs' ?_;have:=hrep.splice (rx.unNL l hzs) off
      simpa using this
    ·cases hm
   ·cases hm
  ·cases hm
 |vptr l s g i' off=>
  simp only[Xp]at hm;split at hm
  ·rename_i g' sz xs hlk;split at hm
   ·rename_i hgg;subst hgg;split at hm
    ·rename_i e he;split at hm
     ·rename_i hfit;obtain⟨hfit,hne0,hrf⟩:=hfit;cases hm;generalize hq:a.eval q=qv at rp fin;cases rp with
      |vptr hv hg hh=>
       obtain⟨e1,e2,e3,e4⟩:=hr.mr.vec l s g sz xs hlk;obtain⟨b,hb,rfl⟩:=hh e1.symm;rcases e4 with⟨e4,_⟩|⟨b',e4,hrow⟩
       ·rw[hb]at e4;cases e4
       ·rw[hb]at e4;cases e4;obtain⟨⟨cur,hsoft,hcs,hrep⟩,hle,hmax⟩:=hrow;have hlen:=rx.length;simp only[QlU]at hlen;have hilt:=(Qlm.1 he).1;have hmem:=QlC he;have hesz:=e3.size e hmem;have hbig:i'*sz+sz≤xs.length*sz:=by
         have:(i'+1)*sz≤xs.length*sz:=Qmv _ hilt
         rwa [QlZ,Nat.one_mul]at this
        have hbig2:xs.length*sz≤cur.size:=by rw[hcs];exact Qmv _ hle
        obtain⟨w',hst,hs',htn⟩:=ZL P _ b (i'*sz+off) (a.eval x).cells.toList 0 w cur hsoft j_ h1;have hel':e.cells.all AV.leaf=true:=Cy e3.leaf hmem;have hnc:=V4 hel' hfit hl hne0;have hncl:(JP e off (r.ev st.f).cells).cells.length=sz:=by rw[hnc,Gx hfit,hesz]
        have hfl:=Cx e3.size i' (JP e off (r.ev st.f).cells) hncl hilt;have hflx:=Wj e3.size;have hsub:((QP xs).drop (i'*sz)).take sz=e.cells:=by
         rw[Jt e3.size];have h2:xs.drop i'=e :: xs.drop (i'+1):=by
          rw[Ql7 hilt];congr 1
          exact(Qlm.1 he).2
         rw[h2,Ze,List.take_append,hesz];simp[QlY (Ql8 hesz)]
        have hfl2:QP (xs.set i' (JP e off (r.ev st.f).cells))=splice (QP xs) (i'*sz+off) (r.ev st.f).cells:=by
         rw[hfl,hnc];simp only[splice];rw[←hsub];simp only[QlJ,QmF,List.drop_take,QlT];rw[List.take_add (i:=i'*sz) (j:=off)];simp only[QlJ];congr 1
         rw[QmG xw];congr 2
         have e5:(QP xs).drop (i'*sz+off+(r.ev st.f).cells.length)=(((QP xs).drop (i'*sz+(off+(r.ev st.f).cells.length))).take (sz-(off+(r.ev st.f).cells.length)))++(QP xs).drop (i'*sz+sz):=by
          have:=QmH (sz-(off+(r.ev st.f).cells.length)) ((QP xs).drop (i'*sz+(off+(r.ev st.f).cells.length)));rw[QlT]at this;rw[show i'*sz+(off+(r.ev st.f).cells.length)+(sz-(off+(r.ev st.f).cells.length))=i'*sz+sz by omega]at this;rw[this,Qlj]
         rw[e5]
        have hels:Elems sz (xs.set i' (JP e off (r.ev st.f).cells)):=by
         refine⟨fun y hy=>?_,?_,?_⟩
         ·rcases List.mem_or_eq_of_mem_set hy with hy|rfl
          ·exact e3.size y hy
          ·exact hncl
         ·rw[hfl2];simp only[splice,K6,QlM];exact⟨⟨Jp e3.rf fun y hy=>Qmc hy,hrf⟩,Jp e3.rf fun y hy=>Qmb hy⟩
         ·rw[hfl2];simp only[splice,QmI,QlM];exact⟨⟨Zr e3.leaf fun y hy=>Qmc hy,hl⟩,Zr e3.leaf fun y hy=>Qmb hy⟩
        refine fin w' (by rw[Fl hi hsz,e2];exact hst) ⟨G,⟨?_,hr.size,hr.slots,hr.ds,hr.base,kX,Wi hr.ne⟩,Ext.turned htn (.inr ⟨l,s,hb⟩)⟩;refine hr.mr.rowset hlk hb htn hels ⟨⟨_,hs',?_,?_⟩,by simpa using hle,hmax⟩
        ·simp only[Qmt,Ql2,Qml,Ql5,QlU];omega
        ·rw[hfl2,List.length_set];have h5:=hrep.splice rx (i'*sz+off);have h6:(cur.toList.take (i'*sz+off+0)++(a.eval x).cells.toList++cur.toList.drop (i'*sz+off+0+(a.eval x).cells.toList.length)).toArray.toList.take (xs.length*sz)=(cur.toList.take (xs.length*sz)).take (i'*sz+off)++(a.eval x).cells.toList++(cur.toList.take (xs.length*sz)).drop (i'*sz+off+(a.eval x).cells.toList.length):=by
          simp only[QlV];exact Fk _ _ _ _ j_ j_
         rw[h6];exact h5
     ·cases hm
    ·cases hm
   ·cases hm
  ·cases hm
 |_=>simp[Xp]at hm

end

theorem AV.unNL_zero (l:List AV):AV.unNL 0 l=some l:=rfl

section
variable {P:Program}{N:Nat}{st:St}{Q:St→Prop}

theorem Cz {G:Gh}{B:Nat}{a:Act}{w:World}(hr:Rel G B N st a w){t tx ty e:TypeId}{i:TypeInfo}{zv:Value}(hu:P.underlying t=some (.slice e))(hi:P.info? e=some i)(hzv:i.zero=some zv)(hz:zv.cells.size=i.size)
  {l site g n:Nat} {xs ys:List AV} {v:Value} (rs:Rep G (.vec l site g 0 n false) v) (hlk:Qc st.m l site=.vec g i.size xs) (hn:n≤xs.length) (hte:Zk site e=true)
  {y:Value} {cs:List Value} (hsrc:Src P i.size tx y ys.length cs w) (hrep:RepL G (QP ys) cs) (hel:Elems i.size ys) (hmax:n+ys.length≤maxLen) (hb:(n+ys.length)*i.bytes≤140737488355328) :
  ∃v' w' G',(Builtin.append_ #[t,tx] ty #[v,y]).run P w=.ok v' w'∧Rel G' B N { st with m:=Am.put st.m l site (.vec (g+1) i.size (xs.take n++ys)) } a w'∧Ext 1 G w G' w'∧Rep G' (.vec l site (g+1) 0 (n+ys.length) false) v':=by
 obtain⟨e1,e2,e3,e4⟩:=hr.mr.vec l site g i.size xs hlk;have hels:Elems i.size (xs.take n++ys):=by
  refine⟨fun u hu=>?_,?_,?_⟩
  ·rcases QmJ.1 hu with hu|hu
   ·exact e3.size u (Qmc hu)
   ·exact hel.size u hu
  ·rw[Z3,K6,QlM];exact⟨Jp e3.rf (JF fun u hu=>Qmc hu),hel.rf⟩
  ·rw[Z3,QmI,QlM];exact⟨Zr e3.leaf (JF fun u hu=>Qmc hu),hel.leaf⟩
 have hlm:l<st.m.length:=Xm qL;have hro:Qn (Qc st.m l site)=true:=wv
 have hgl:G.vg l site<g+1:=xw
 have hlen:(xs.take n++ys).length=n+ys.length:=xD
 -- what the slice value is
 have hv:((∃A,v=.slice A 0 0∧(2000≤site→A=none))∧n=0∧G.vm l site=none∧([]:List Value)=[])∨∃b cur,v=.slice (some ⟨b,0,none⟩) n (G.vc l site)∧G.vm l site=some b∧X3 site w b cur∧cur.size=G.vc l site*i.size∧n≤G.vc l site∧G.vc l site≤maxLen∧RepL G (QP (xs.take n)) (cur.toList.take (n*i.size)):=by
  cases rs with
  |vec hone' hg hh=>
   rcases hh e1.symm with⟨hvm,_,rfl,A0,rfl,hA0⟩|⟨b,A',c',hvm,hok,rfl,hkc,hcm,hq,hA⟩
   ·exact .inl ⟨⟨A0,rfl,hA0⟩,rfl,hvm,rfl⟩
   ·right
    rcases e4 with⟨e,_⟩|⟨b',e,hrow⟩
    ·rw[hvm]at e;cases e
    ·rw[hvm]at e;cases e;obtain⟨⟨cur,hsoft,hcsz,hrepx⟩,hle,hmx⟩:=hrow;have hA':=hA ⟨.inr rfl,.inl rfl⟩;have hc':=hq rfl;simp only[Nat.zero_mul,Qmn]at hA' hc';subst hA' hc';refine⟨b,cur,rfl,hvm,hsoft,hcsz,hkc,hmx,?_⟩;have:=hrepx.take (n*i.size);rw[J2 e3.size,QmF,QmG (Qmv _ hn)]at this;exact this
 have hrunv:∃vs:List Value,RepL G (QP (xs.take n)) vs∧vs.length=n*i.size∧(((∃A,v=.slice A 0 0)∧G.vm l site=none∧n=0∧vs=[])∨∃b cur,v=.slice (some ⟨b,0,none⟩) n (G.vc l site)∧G.vm l site=some b∧X3 site w b cur∧cur.size=G.vc l site*i.size∧n≤G.vc l site∧G.vc l site≤maxLen∧cur.toList.take (n*i.size)=vs):=by
  rcases hv with⟨⟨A0,rfl,_⟩,rfl,hvm,_⟩|⟨b,cur,rfl,hvm,h1,h2,h3,h4,h5⟩
  ·exact⟨[],by simp[QP];exact .nil,xA,.inl ⟨⟨A0,rfl⟩,hvm,rfl,rfl⟩⟩
  ·refine⟨_,h5,?_,.inr ⟨b,cur,rfl,hvm,h1,h2,h3,h4,rfl⟩⟩;simp only[Qml,QlU,h2];exact QmG (Qmv _ h3)
 obtain⟨vs,hvs,hvl,hvv⟩:=hrunv;obtain⟨v',w',hrun,hos,htp,hout,hsize,hkeep,hres⟩:=Bl (P:=P) (w:=w) (ty:=ty) hte hu hi hzv hz hvv hvl hsrc hmax hb;have hkeep':∀k,k<w.heap.size→some k≠G.vm l site→w'.heap[k]? = w.heap[k]?:=fun k hk hne=>hkeep k hk fun e=>hne e.symm
 rcases hres with⟨rfl,hvv',hm0,rfl⟩|⟨b',cap',cur',rfl,hb',hsoft',hcs',hncap,hcm',htake⟩
 ·have hn0:n=0∧G.vm l site=none∧∃A,v'=.slice A 0 0∧(2000≤site→A=none):=by
   rcases hv with⟨h0,h1,h2,_⟩|⟨b,cur,e,e',_⟩
   ·exact⟨h1,h2,h0⟩
   ·rw[hvv']at e';cases e'
  have hys:ys=[]:=Qmu hm0;obtain⟨rfl,hvn,A0,rfl,hA0⟩:=hn0;subst hys;obtain⟨hr',he⟩:=hr.vecput (w':=w') (cap:=0) (b:=none) hlm hro hgl rfl rfl rfl (Qlk _) (fun _ _ _=>rfl) (fun k e=>kZ) hels (.inl ⟨rfl,xA⟩);exact⟨_,_,_,hrun,hr',he,.vec rfl (Ql8 j4) fun _=>.inl ⟨j4,rfl,xA,A0,rfl,hA0⟩⟩
 ·obtain⟨hr',he⟩:=hr.vecput (w':=w') (cap:=cap') (b:=some b') hlm hro hgl hos htp hout hsize hkeep' (fun k e=>by cases e;exact hb') hels (.inr ⟨b',rfl,⟨cur',hsoft',hcs',by rw[hlen,htake,Z3];exact hvs.append hrep⟩,by rw[hlen];exact hncap,hcm'⟩);exact⟨_,_,_,hrun,hr',he,.vec rfl (Ql8 j4) fun _=>.inr ⟨b',⟨b',0,none⟩,cap',j4,by simp[Gh.row];exact hncap,rfl,hncap,hcm',fun _=>j4,fun _=>xA⟩⟩

theorem Qy.app {d:Option Nat}{sz bytes el:Nat}{s r:RA}{its:List Item}{l site g n:Nat}{xs ys:List AV}(hs:s.ev st.f=.vec l site g 0 n false)(hlk:Qc st.m l site=.vec g sz xs)(hte:Zk site el=true)(hn:n≤xs.length)
  (hy:Q1 st.m (r.ev st.f)=some ys) (hsz:ys.all (fun e=>e.cells.length==sz)=true) (hmax:n+ys.length≤maxLen) (hb:(n+ys.length)*bytes≤140737488355328)
  (h:Qy P N its { st with m:=Am.put st.m l site (.vec (g+1) sz (xs.take n++ys)),f:=Ql st.f d (.vec l site (g+1) 0 (n+ys.length) false) } Q):Qy P N (⟨d,.app sz bytes el s r,none⟩ :: its) st Q:=by
 refine Qy.step rfl fun G B a w o hr hd hdN hc K QQ hK=>?_
 cases ho:o.op<;>rw[ho]at hc<;>simp only[X4,QlH]at hc;rename_i cl;split at hc
 case h_2=>cases hc
 rename_i o1 x y t t' o2;cases o2;simp only[QlM,Qls]at hc;obtain⟨⟨⟨rfl,hty⟩,hcs⟩,hcr⟩:=hc;cases hu:P.underlying t with
 |none=>simp[hu]at hty
 |some dd=>
  cases dd with
  |slice e=>
   simp only[hu,QlM,Qmo,QlR,Qls]at hty;obtain⟨⟨⟨i,hi,⟨rfl,rfl⟩,hz⟩,hsz0⟩,rfl⟩:=hty;cases hzv:i.zero with
   |none=>rw[hzv]at hz;cases hz
   |some zv=>
    rw[hzv]at hz;simp only[Qls]at hz;have rs:=Qv hr hcs;rw[hs]at rs;obtain⟨A,c,hyv,sz',cs,hrep,hel,hcell⟩:=WQ hr hy (Qv hr hcr);have hall:∀u∈ys,u.cells.length=i.size:=fun u hu=>by simpa using QlB.1 hsz u hu
    have hel':Elems i.size ys:=⟨hall,hel.rf,hel.leaf⟩;have hcl:cs.length=ys.length*i.size:=by rw[hrep.length,Wj hall]
    have hone:∀u∈cs,u.oneCell'=true:=hrep.leaves hel.leaf;have hsrc:Src P i.size t (.slice A ys.length c) ys.length cs w:=by
     cases cs with
     |nil=>
      have h0:ys.length=0:=by
       exact yA
      rw[h0];cases A with
      |none=>exact Src.ofNil (w:=w) hu c
      |some ad=>exact Src.ofSlice (w:=w) hu ad 0 c [] xA (fun j u h=>kq) (fun u h=>kq)
     |cons u0 us=>
      obtain⟨b,o',rfl,_⟩:=hcell 0 u0 rfl;refine Src.ofSlice (w:=w) hu ⟨b,o',none⟩ ys.length c (u0 :: us) hcl (fun j u hj=>?_) hone;obtain⟨b',o'',e,hcc⟩:=hcell j u hj;cases e;rw[XV];exact hcc
    obtain⟨v',w',G',hrun,hr',he,hv'⟩:=Cz (ty:=o.type) hr hu hi hzv hz rs hlk hn hte hsrc hrep hel' hmax hb;have hexec:(execOp a.eval o).run P w=.ok (.value v') w':=by
     simp only[execOp,ho,resolve,invoke,builtin,Sem.run_bind,Sem.run_pure,Result.andThen_ok,Qmp,QlW,Qmq,hyv,hrun]
    unfold Oper.wp;rw[hexec];have hd':o.dst=d:=hd;show K (a.put o.dst v') w';rw[hd'];exact hK _ _ _ _ h (hr'.put hdN hv') he
  |_=>simp[hu]at hty

def Qw (s:List UInt8):List AV:=s.map fun b=>.int .u8 (b.toNat:Int)

theorem Fm {G:Gh}(s:List UInt8):RepL G (Qw s) (s.map fun b=>Value.int .u8 (b.toNat:Int)):=by
 induction s with
 |nil=>exact .nil
 |cons b s ih=>exact .cons (.int _ _) ih

theorem KR (s:List UInt8):QP (Qw s)=Qw s:=by
 induction s with
 |nil=>rfl
 |cons b s ih=>show [_]++QP (Qw s)=_;rw[ih];rfl

theorem GA (s:List UInt8):Elems 1 (Qw s):=by
 refine⟨fun x hx=>?_,?_,?_⟩
 ·obtain⟨b,_,rfl⟩:=QmK.1 hx;rfl
 ·rw[KR]
  induction s with
  |nil=>rfl
  |cons b s ih=>exact ih
 ·rw[KR]
  induction s with
  |nil=>rfl
  |cons b s ih=>exact ih

theorem Qy.appS {d:Option Nat}{el:Nat}{s r:RA}{its:List Item}{l site g n:Nat}{xs:List AV}{t:List UInt8}(hs:s.ev st.f=.vec l site g 0 n false)(hlk:Qc st.m l site=.vec g 1 xs)(hte:Zk site el=true)(hn:n≤xs.length)
  (hy:r.ev st.f=.str t) (hmax:n+t.length≤140737488355328)
  (h:Qy P N its { st with m:=Am.put st.m l site (.vec (g+1) 1 (xs.take n++Qw t)),f:=Ql st.f d (.vec l site (g+1) 0 (n+t.length) false) } Q):Qy P N (⟨d,.appS el s r,none⟩ :: its) st Q:=by
 refine Qy.step rfl fun G B a w o hr hd hdN hc K QQ hK=>?_
 cases ho:o.op<;>rw[ho]at hc<;>simp only[X4,QlH]at hc;rename_i cl;split at hc
 case h_2=>cases hc
 rename_i o1 x y tt t' o2;cases o2;simp only[QlM]at hc;obtain⟨⟨⟨hst,hty⟩,hcs⟩,hcr⟩:=hc;cases hu:P.underlying tt with
 |none=>simp[hu]at hty
 |some dd=>
  cases dd with
  |slice e=>
   simp only[hu,QlM,Qmo,Qls]at hty;obtain⟨⟨i,hi,⟨hi1,hi2⟩,hz⟩,rfl⟩:=hty;cases hzv:i.zero with
   |none=>rw[hzv]at hz;cases hz
   |some zv=>
    rw[hzv]at hz;simp only[Qls]at hz;have rs:=Qv hr hcs;rw[hs]at rs;have rx:=Qv hr hcr;rw[hy]at rx;have hxv:a.eval y=.string ⟨⟨t⟩⟩:=by
     revert rx
     generalize a.eval y=v;intro rx;cases rx;rfl
    have hlen:(Qw t).length=t.length:=v5
    have hsrc:Src P i.size t' (.string ⟨⟨t⟩⟩) (Qw t).length (t.map fun b=>Value.int .u8 (b.toNat:Int)) w:=by
     rw[hi1,hlen];exact Src.ofString (w:=w) (KQ hst) ⟨⟨t⟩⟩
    rw[←hi1]at hlk;obtain⟨v',w',G',hrun,hr',he,hv'⟩:=Cz (ty:=o.type) (ys:=Qw t) hr hu hi hzv (hz.trans hi1.symm) rs hlk hn hte hsrc (by rw[KR];exact Fm t) (by rw[hi1];exact GA t) (by rw[hlen];simp only[maxLen];omega) (by rw[hlen,hi2];omega);have hexec:(execOp a.eval o).run P w=.ok (.value v') w':=by
     simp only[execOp,ho,resolve,invoke,builtin,Sem.run_bind,Sem.run_pure,Result.andThen_ok,Qmp,QlW,Qmq,hxv,hrun]
    unfold Oper.wp;rw[hexec];have hd':o.dst=d:=hd;show K (a.put o.dst v') w';rw[hd'];rw[hi1]at hr';rw[hlen]at hv';exact hK _ _ _ _ h (hr'.put hdN hv') he
  |_=>simp[hu]at hty

theorem Rel.after {G G':Gh}{B:Nat}{a:Act}{w w':World}{m':Qk}(h:Rel G B N st a w)(hm:MR G' m' w')(he:Ext 0 G w G' w')(hl:m'.length=st.m.length):Rel G' B N { st with m:=m' } a w' where
 mr:=hm
 size:=h.size
 slots i:=(h.slots i).mono he.gle
 ds:=h.ds.mono he.gle
 base s b e:=by
  rcases e with e|e
  ·rw[he.nm 0 s (Qlk _)]at e;exact h.base s b (.inl e)
  ·rcases he.mv 0 s b e with⟨i,t,hi,e⟩|e
   ·obtain rfl:i=0:=Nat.le_zero.1 hi;exact h.base t b (.inr e)
   ·exact Qll h.top e
 top:=Qll h.top he.size
 ne:=by
  have:=h.ne;intro e;have e':m'=[]:=e;rw[e']at hl;exact this (Qmu hl.symm)

theorem Ie {o:Oper}{x:Operand}{args:Array Operand}{ts:Array TypeId}{a:Act}{w:World}(ho:o.op=.call { callee:=.value x,args:=args,argTypes:=ts }){k:FuncId}{va vb:List Value}(hx:a.eval x=.func (.func k) ⟨va⟩ ⟨vb⟩)(hk:HO P k) :
  (execOp a.eval o).run P w=.ok (.enter k ⟨va++args.toList.map a.eval++vb⟩) w:=by
 obtain⟨fn,hf,hn,hb⟩:=hk;have e1:args.map a.eval=⟨args.toList.map a.eval⟩:=v7
 simp only[execOp,ho,resolve,hx,Deferred.ofValue,e1,Sem.run_bind,Sem.run_pure,Result.andThen_ok,invoke,callFunc,run_program,hf,hn,QlH,if_false,hb];simp

theorem P3 {G:Gh}{B:Nat}{a:Act}{w:World}{o:Oper}(hr:Rel G B N st a w){f:RA}{args:List RA}{k:FuncId}{fa fb:List AV}(hf:f.ev st.f=.fn (.func k) fa fb)(hk:HO P k)(hc:X4 P o.op (.call f args)=true){K:Act→World→Prop}{QQ:Exit→Act→World→Prop}
  (h:∀vs,RepL G (fa++args.map (RA.ev st.f)++fb) vs→Calls P k ⟨vs⟩ w fun e w'=>∃v,e=.returned v∧K (a.put o.dst v) w'):o.wp P a w K QQ:=by
 cases ho:o.op<;>rw[ho]at hc<;>simp only[X4,QlH]at hc;rename_i cl;split at hc
 case h_2=>cases hc
 rename_i o1 x as ts o2;cases o2;simp only[QlM]at hc;have rf:=Qv hr hc.1;rw[hf]at rf;have ras:=HL hr hc.2;obtain⟨va,vb,hx,h1,h2⟩:∃va vb,a.eval x=.func (.func k) ⟨va⟩ ⟨vb⟩∧RepL G fa va∧RepL G fb vb:=by
  generalize a.eval x=v at rf;cases rf with
  |fn h1 h2=>exact⟨_,_,rfl,h1,h2⟩
 have hrun:=Ie (P:=P) (w:=w) ho hx hk;unfold Oper.wp;rw[hrun];show Calls P k _ w _;exact(h _ ((h1.append ras).append h2)).mono fun e w' ⟨v,he,hK⟩=>by subst he;exact hK

theorem Qy.callFull {d:Option Nat}{f:RA}{args:List RA}{its:List Item}{k:FuncId}{fa fb:List AV}(hf:f.ev st.f=.fn (.func k) fa fb){R:AV→Qk→Prop}(hk:Qe P k (fa++args.map (RA.ev st.f)++fb) st.m R)
  (h:∀x m',R x m'→m'.length=st.m.length→Qy P N its { st with m:=m',f:=Ql st.f d x } Q):Qy P N (⟨d,.call f args,none⟩ :: its) st Q:=by
 refine Qy.step rfl fun G B a w o hr hd hdN hc K QQ hK=>?_
 refine P3 hr hf hk.1 hc fun vs hvs=>(hk.2 G w vs hvs hr.mr).mono fun e w' ⟨G',x,v,m',he,hR,hv,hm,hx,hl⟩=>⟨v,he,?_⟩
 have hd':o.dst=d:=hd;rw[hd'];exact hK G' _ _ w' (h x m' hR hl) ((hr.after hm hx hl).put hdN hv) (hx.mono (Qlx _))

def Gh.bare (stab:Nat→Nat→Option SV)(ht:∀b o v,JO b o=some v→stab b o=some v):Gh:=⟨stab,fun _ _=>none,fun _ _=>none,fun _ _=>0,fun _ _=>0,fun _ _=>0,ht⟩
def Gh.world (W:World)(h:GG W):Gh:=Gh.bare (fun b o=>sv W b o) fun b o v e=>Ca (h b o v e)

theorem MR.bare {stab:Nat→Nat→Option SV}{ht:∀b o v,JO b o=some v→stab b o=some v}{w:World}(h:∀b o v,stab b o=some v→rd w b o v):MR (Gh.bare stab ht) [] w where
 stab:=h
 cells l s xs e:=by cases l<;>cases e
 nm l s b e:=by cases e
 vec l s g sz xs e:=by cases l<;>cases e
 vm l s b e:=by cases e
 gone _ _ _:=rfl
 inj1 l s l' s' b e:=by cases e
 inj2 l s l' s' b e:=by cases e
 inj3 l s l' s' b e:=by cases e
 iter l s t p e:=by cases l<;>cases e

theorem Gh.bare_mine {stab:Nat→Nat→Option SV}{ht:∀b o v,JO b o=some v→stab b o=some v}{b:Nat}:¬(Gh.bare stab ht).mine b:=by
 rintro(⟨l,s,e⟩|⟨l,s,e⟩)<;>cases e

def Gh.with(G:Gh)(stab:Nat→Nat→Option SV)(hg:∀b o v,G.stab b o=some v→stab b o=some v):Gh:={ G with stab:=stab,tab:=fun b o v e=>hg _ _ _ (G.tab b o v e) }

theorem MR.kept {G:Gh}{m:Qk}{w w':World}(h:MR G m w){stab:Nat→Nat→Option SV}(hk:∀b,b<w.heap.size→w'.heap[b]? = w.heap[b]?)(hs:∀b o v,stab b o=some v→rd w' b o v)(hg:∀b o v,G.stab b o=some v→stab b o=some v)(hm:∀b,G.mine b→∀o,stab b o=none):MR (G.with stab hg) m w' where
 stab:=hs
 cells l s xs e:=by
  obtain⟨b,cs,e',hc,hr⟩:=h.cells l s xs e;exact⟨b,cs,e',hc.of (hk b hc.lt),RepL.mono (G:=G.dn l) (G':=(G.with stab hg).dn l) ⟨hg,fun _ _ _ h=>h,fun _ _=>Qlk _,fun _ _ _=>⟨rfl,rfl,rfl⟩⟩ hr⟩
 nm l s b e:=⟨(h.nm l s b e).1,hm b (.inl ⟨l,s,e⟩)⟩
 vec l s g sz xs e:=by
  obtain⟨a1,a2,a3,a4⟩:=h.vec l s g sz xs e;exact⟨a1,a2,a3,a4.imp id fun⟨b,e',r⟩=>⟨b,e',r.of (hk b (h.mine (.inr ⟨l,s,e'⟩)).1) fun vs hv=>RepL.rfd (G:=G) (G':=G.with stab hg) hg a3.rf hv⟩⟩
 vm l s b e:=⟨(h.vm l s b e).1,hm b (.inr ⟨l,s,e⟩)⟩
 gone:=h.gone
 inj1:=h.inj1
 inj2:=h.inj2
 inj3:=h.inj3
 iter l s t p e:=by
  obtain⟨b,e',hc⟩:=h.iter l s t p e;exact⟨b,e',(hk b (h.mine (.inl ⟨l,s,e'⟩)).1).trans hc⟩

theorem Ext.bare {G:Gh}{w w':World}{stab':Nat→Nat→Option SV}(hos:w'.os=w.os)(htape:w'.tape=w.tape)(hout:w'.output=w.output)(hsize:w.heap.size≤w'.heap.size)(hk:∀b,b<w.heap.size→w'.heap[b]? = w.heap[b]?)(hg:∀b o v,G.stab b o=some v→stab' b o=some v)(ho:∀b,b<w.heap.size→∀o,stab' b o=G.stab b o):Ext 0 G w (G.with stab' hg) w' :=
 ⟨hos,htape,hout,hsize,hg,fun _ _ _=>rfl,fun _ _=>Qlk _,fun _ _ _=>⟨rfl,rfl,rfl⟩,fun b hb _=>⟨hk b hb,ho b hb⟩,fun _ h=>.inl h,fun l s _ h=>.inl ⟨l,s,Qlk _,h⟩⟩

mutual
def AV.nl:AV→Bool
 |.list _|.rptr _|.lcap _|.mp .. => false
 |.agg l|.tup l=>AV.nlL l
 |.iface _ x=>x.nl
 |.fn _ a b=>AV.nlL a&&AV.nlL b
 |_=>true
def AV.nlL:List AV→Bool
 | []=>true
 |x :: l=>x.nl&&AV.nlL l
end

mutual
theorem Rep.plain {G G':Gh}:∀ {x:AV} {v:Value},x.nl=true→x.rf=true→Rep G x v→Rep G' x v
 |_,_,_,_,.top v=>.top v
 |_,_,_,_,.int k n=>.int k n
 |_,_,_,_,.bool b=>.bool b
 |_,_,_,_,.str s=>.str s
 |_,_,_,_,.nils=>.nils
 |_,_,_,_,.nilp=>.nilp
 |_,_,_,_,.nilf=>.nilf
 |_,_,_,_,.nili=>.nili
 |_,_,_,_,.nilm=>.nilm
 |_,_,_,_,.anyp p=>.anyp p
 |_,_,hn,_,.list hc hz hf hl hs hn' hcap hm=>by cases hn
 |_,_,hn,_,.lcap hc hz hf hl hs hn' hm=>by cases hn
 |_,_,hn,hr,.agg h=>.agg (RepL.plain hn hr h)
 |_,_,hn,hr,.tup h=>.tup (RepL.plain hn hr h)
 |_,_,hn,hr,.iface h=>.iface (Rep.plain hn hr h)
 |_,_,hn,hr,.fn ha hb=>by
   have h1:=Qlo.1 hn;have h2:=Qlo.1 hr;exact .fn (RepL.plain h1.1 h2.1 ha) (RepL.plain h1.2 h2.2 hb)
 |_,_,_,hr,.ptr h=>by cases hr
 |_,_,_,hr,.vec hv hl h=>by cases hr
 |_,_,_,hr,.vptr hv hl h=>by cases hr
 |_,_,_,hr,.rptr hc hf hl hs=>by cases hr
theorem RepL.plain {G G':Gh}:∀ {x:List AV} {v:List Value},AV.nlL x=true→AV.rfL x=true→RepL G x v→RepL G' x v
 |_,_,_,_,.nil=>.nil
 |_,_,hn,hr,.cons h t=>by
   have h1:=Qlo.1 hn;have h2:=Qlo.1 hr;exact .cons (Rep.plain h1.1 h2.1 h) (RepL.plain h1.2 h2.2 t)
end

def Fn? (P:Program)(k:FuncId)(args:List AV)(R:AV→Prop):Prop:=Qe P k args [] fun x _=>R x

mutual
theorem CA {G:Gh}{own:Bool}{m:Qk}:∀ {x:AV} {v:Value},x.rf=true→Rep G x v→∀y,x.still own m=some y→Rep G y v
 |.top,v,_,hr,y,e=>by cases e;exact .top v
 |.int _ _,_,_,hr,y,e=>by cases e;exact hr
 |.bool _,_,_,hr,y,e=>by cases e;exact hr
 |.str _,_,_,hr,y,e=>by cases e;exact hr
 |.nilp,_,_,hr,y,e=>by cases e;exact hr
 |.nilf,_,_,hr,y,e=>by cases e;exact hr
 |.nili,_,_,hr,y,e=>by cases e;exact hr
 |.nilm,_,_,hr,y,e=>by cases e;exact hr
 |.anyp,_,_,hr,y,e=>by cases e;exact hr
 |.list _,_,_,hr,y,e=>by cases e;exact hr
 |.lcap _,_,_,hr,y,e=>by cases e;exact hr.unlcap
 |.fn _ _ _,_,_,hr,y,e=>by cases e;exact hr
 |.mp _ _,_,_,hr,y,e=>by cases e;exact hr
 |.mptr _ _,_,hf,hr,y,e=>by cases hf
 |.ptr _ _ _,_,hf,hr,y,e=>by cases hf
 |.vptr _ _ _ _ _,_,hf,hr,y,e=>by cases hf
 |.rptr _,_,hf,hr,y,e=>by cases hf
 |.vec _ _ _ _ _ _,_,hf,hr,y,e=>by cases hf
 |.nils,_,_,hr,y,e=>by
   cases e;cases hr;exact oS
 |.agg l,_,hf,hr,y,e=>by
   simp only[AV.still,Qlp]at e;obtain⟨l',e,rfl⟩:=e;cases hr with
   |agg hr=>exact .agg (US hf hr l' e)
 |.tup l,_,hf,hr,y,e=>by
   simp only[AV.still,Qlp]at e;obtain⟨l',e,rfl⟩:=e;cases hr with
   |tup hr=>exact .tup (US hf hr l' e)
 |.iface t x,_,hf,hr,y,e=>by
   simp only[AV.still,Qlp]at e;obtain⟨l',e,rfl⟩:=e;cases hr with
   |iface hr=>exact .iface (CA (x:=x) hf hr l' e)
theorem US {G:Gh}{own:Bool}{m:Qk}:∀ {x:List AV} {v:List Value},AV.rfL x=true→RepL G x v→∀y,AV.stillL own m x=some y→RepL G y v
 | [],_,_,hr,y,e=>by cases e;cases hr;exact .nil
 |x :: l,_,hf,hr,y,e=>by
   have h2:=Qlo.1 hf;simp only[AV.stillL]at e;split at e
   ·rename_i a b ea eb;cases e;cases hr with
    |cons hr ht=>exact .cons (CA h2.1 hr a ea) (US h2.2 ht b eb)
   ·cases e
end

theorem Qy.callPure {d:Option Nat}{f:RA}{args:List RA}{its:List Item}{k:FuncId}{fa fb ys:List AV}(hf:f.ev st.f=.fn (.func k) fa fb)(hy:AV.stillL false st.m (fa++args.map (RA.ev st.f)++fb)=some ys)(hrf:AV.rfL ys=true)
  {R:AV→Prop} (hk:Fn? P k ys R) (hx:∀x,R x→x.rf=true∧(AV.rfL (fa++args.map (RA.ev st.f)++fb)=true∨x.nl=true)) (h:∀x,R x→Qy P N its { st with f:=Ql st.f d x } Q):Qy P N (⟨d,.call f args,none⟩ :: its) st Q:=by
 refine Qy.step rfl fun G B a w o hr hd hdN hc K QQ hK=>?_
 refine P3 hr hf hk.1 hc fun vs hvs=>?_
 have hd':o.dst=d:=hd;have hlt:∀b o v,G.stab b o=some v→b<w.heap.size:=fun b o v e=>HJ (hr.mr.stab b o v e)
 -- whatever cells stay for the callee
 have key:∀(stab0:Nat→Nat→Option SV) (ht0:∀b o v,JO b o=some v→stab0 b o=some v),(∀b o v,stab0 b o=some v→rd w b o v)→RepL (Gh.bare stab0 ht0) ys vs→((∀b,b<w.heap.size→∀o,stab0 b o=G.stab b o)∨∀x,R x→x.nl=true)→
   Calls P k ⟨vs⟩ w fun e w'=>∃v,e=.returned v∧K (a.put o.dst v) w':=by
  intro stab0 ht0 hstab hrep hor;refine(hk.2 (Gh.bare stab0 ht0) w vs hrep (MR.bare hstab)).mono fun e w' ⟨G',x,v,m',he,hR,hv,hm,hx',hl⟩=>⟨v,he,?_⟩
  rw[hd'];have hxr:=(hx x hR).1;have hold:∀b,b<w.heap.size→w'.heap[b]? = w.heap[b]?:=fun b hb=>(hx'.old b hb Gh.bare_mine).1
  let stab':Nat→Nat→Option SV:=fun b o=>if b<w.heap.size then G.stab b o else G'.stab b o
  have hg:∀b o v,G.stab b o=some v→stab' b o=some v:=fun b o v e=>by
   show(if b<w.heap.size then G.stab b o else G'.stab b o)=some v;rw[Qlv (hlt b o v e)];exact e
  have hs':∀b o v,stab' b o=some v→rd w' b o v:=fun b o v e=>by
   simp only[stab']at e;split at e
   ·rename_i hb;exact KO (hold b hb) (hr.mr.stab b o v e)
   ·exact hm.stab b o v e
  have hmine:∀b,G.mine b→∀o,stab' b o=none:=fun b hb o=>by
   show(if b<w.heap.size then G.stab b o else G'.stab b o)=none;rw[Qlv (hr.mr.mine hb).1];exact(hr.mr.mine hb).2 o
  have hmr:=hr.mr.kept hold hs' hg hmine;have hext:Ext 0 G w (G.with stab' hg) w':=Ext.bare hx'.os hx'.tape hx'.output hx'.size hold hg (fun b hb o=>Qlv hb);have hv':Rep (G.with stab' hg) x v:=by
   rcases hor with hor|hor
   ·refine hv.rfd (fun b o u e=>?_) hxr;show(if b<w.heap.size then G.stab b o else G'.stab b o)=some u;split
    ·rename_i hb;have h1:=(hx'.old b hb Gh.bare_mine).2 o;rw[e]at h1;rw[←hor b hb o];exact h1.symm
    ·exact e
   ·exact Rep.plain (hor x hR) hxr hv
  exact hK _ _ _ w' (h x hR) ((hr.after hmr hext rfl).put hdN hv') (hext.mono (Qlx _))
 by_cases hrfa:AV.rfL (fa++args.map (RA.ev st.f)++fb)=true
 ·refine key G.stab G.tab hr.mr.stab ?_ (.inl fun _ _ _=>rfl);exact RepL.rfd (G:=G) (G':=Gh.bare G.stab G.tab) (fun _ _ _ h=>h) hrf (US hrfa hvs ys hy)
 ·let S:Nat→Prop:=fun b=>∃l s,G.vm l s=some b
  have hst:=UR hr.mr (own:=false) (S:=S) (fun l s b _ e=>⟨l,s,e⟩) (fun h=>kq) hvs ys hy;refine key (G.pub w S).stab (G.pub w S).tab (fun b o v e=>?_) (RepL.rfd (G:=G.pub w S) (G':=Gh.bare (G.pub w S).stab (G.pub w S).tab) (fun _ _ _ h=>h) hrf hst) (.inr fun x hR=>((hx x hR).2.resolve_left hrfa));by_cases hS:S b∧∀o,JO b o=none
  ·rw[Gh.pub_c hS]at e;exact V9 e
  ·rw[Gh.pub_n hS]at e;exact hr.mr.stab b o v e

end

def Zs (m:Qk)(s:Nat):Bool :=
 match Qc m 0 s with
 |.none=>true
 |_=>false

theorem Rel.freshO {G:Gh}{B N:Nat}{st:St}{a:Act}{w:World}(h:Rel G B N st a w)(s:Nat)(hno:Zs st.m s=true){ob:Ob}{x:Obj}(hvar:ob.isVar=true)
  (hcells:∀l,ob=.cells l→∃cs t,x=.cells cs t∧Zk s t=true∧RepL G l cs.toList) (hiter:∀t p,ob=.iter t p→x=t.obj p) :
  Rel (G.fresh s w.heap.size) B N { st with m:=Am.put st.m 0 s ob } a (w.alloc x)∧Ext 1 G w (G.fresh s w.heap.size) (w.alloc x):=by
 have hlk:Qc st.m 0 s=.none:=by
  unfold Zs at hno;split at hno
  ·assumption
  ·cases hno
 have hnm0:G.nm 0 s=none:=by
  cases hg:G.nm 0 s with
  |none=>rfl
  |some b=>obtain⟨hx,_⟩:=h.mr.nm 0 s b hg;rw[hlk]at hx;cases hx
 have hnew:Gle G (G.fresh s w.heap.size):=by
  refine⟨fun _ _ _ h=>h,fun l' t b e=>?_,fun _ _=>Qlk _,fun _ _ _=>⟨rfl,rfl,rfl⟩⟩;show(if l'=0∧t=s then some w.heap.size else G.nm l' t)=some b;rw[Qlu]
  ·exact e
  ·rintro⟨rfl,rfl⟩;rw[hnm0]at e;cases e
 have hold:∀k,k<w.heap.size→(w.alloc x).heap[k]? = w.heap[k]?:=fun k hk=>RowKit.Below.heap_alloc w _ k hk
 have hnm:∀l' s' b',(G.fresh s w.heap.size).nm l' s'=some b'→(l'=0∧s'=s∧b'=w.heap.size)∨(¬(l'=0∧s'=s)∧G.nm l' s'=some b'∧b'<w.heap.size):=by
  intro l' s' b' e;simp only[Gh.fresh]at e;split at e
  ·rename_i hh;cases e;exact .inl ⟨hh.1,hh.2,rfl⟩
  ·rename_i hh;exact .inr ⟨hh,e,(h.mr.mine (.inl ⟨_,_,e⟩)).1⟩
 have hvm:∀l' s' b',(G.fresh s w.heap.size).vm l' s'=some b'→¬(l'=0∧s'=s)∧G.vm l' s'=some b'∧b'<w.heap.size:=by
  intro l' s' b' e;have e:G.vm l' s'=some b':=e;refine⟨?_,e,(h.mr.mine (.inr ⟨_,_,e⟩)).1⟩;rintro⟨rfl,rfl⟩;obtain⟨⟨g,sz,xs,hx⟩,_⟩:=h.mr.vm 0 s' b' e;rw[hlk]at hx;cases hx
 have hst:∀o,G.stab w.heap.size o=none:=by
  intro o;cases hs:G.stab w.heap.size o with
  |none=>rfl
  |some v=>
   have:=HJ (h.mr.stab _ _ _ hs);simp at this
 have hlook:∀l' s',¬(l'=0∧s'=s)→Qc (Am.put st.m 0 s ob) l' s'=Qc st.m l' s':=by
  intro l' s' hh;rw[QE xw]
 have hlook0:Qc (Am.put st.m 0 s ob) 0 s=ob:=Qs (QmL.2 h.ne);refine⟨⟨⟨?_,?_,?_,?_,?_,?_,?_,?_,?_,?_⟩,h.size,fun i=>(h.slots i).mono hnew,h.ds.mono hnew,?_,?_,Wi h.ne⟩,?_⟩
 ·intro b o v e;exact KO (hold b (HJ (h.mr.stab b o v e))) (h.mr.stab b o v e)
 ·intro l' s' zs e;by_cases hh:l'=0∧s'=s
  ·obtain⟨rfl,rfl⟩:=hh;rw[hlook0]at e;obtain⟨cs,t,rfl,hty,hl⟩:=hcells zs e;exact⟨w.heap.size,cs,by simp[Gh.fresh],X3.new w cs t hty,hl.mono hnew⟩
  ·rw[hlook l' s' hh]at e;obtain⟨b',cs',e',hc,hr⟩:=h.mr.cells l' s' zs e;exact⟨b',cs',(Qlu (t:=some w.heap.size) hh).trans e',hc.of (hold _ hc.lt),hr.mono (hnew.dn l')⟩
 ·intro l' s' b' e;rcases hnm l' s' b' e with⟨rfl,rfl,rfl⟩|⟨hh,e',hlt⟩
  ·exact⟨by rw[hlook0];exact hvar,hst⟩
  ·obtain⟨hz,h2⟩:=h.mr.nm l' s' b' e';refine⟨?_,h2⟩;rw[hlook l' s' hh];exact hz
 ·intro l' s' g sz zs e;by_cases hh:l'=0∧s'=s
  ·obtain⟨rfl,rfl⟩:=hh;rw[hlook0]at e;rw[e]at hvar;cases hvar
  ·rw[hlook l' s' hh]at e;obtain⟨a1,a2,a3,a4⟩:=h.mr.vec l' s' g sz zs e;refine⟨a1,a2,a3,a4.imp id fun⟨b',e',r⟩=>⟨b',e',r.of (hold _ ?_) fun vs hv=>RepL.rfd (G:=G) (G':=G.fresh s w.heap.size) (fun _ _ _ h=>h) a3.rf hv⟩⟩;exact(h.mr.mine (.inr ⟨_,_,e'⟩)).1
 ·intro l' s' b' e;obtain⟨hh,e',hlt⟩:=hvm l' s' b' e;obtain⟨⟨g,sz,zs,hz⟩,h2⟩:=h.mr.vm l' s' b' e';refine⟨?_,h2⟩;rw[hlook l' s' hh,hz];exact⟨_,_,_,rfl⟩
 ·intro l' s' e;by_cases hh:l'=0∧s'=s
  ·obtain⟨rfl,rfl⟩:=hh;exact h.mr.gone 0 s' wv
  ·rw[hlook l' s' hh]at e;exact h.mr.gone l' s' e
 ·intro l1 s1 l2 s2 b' e1 e2;rcases hnm l1 s1 b' e1 with⟨rfl,rfl,rfl⟩|⟨hh,e',hlt⟩<;>rcases hnm l2 s2 _ e2 with⟨rfl,rfl,hb⟩|⟨hh2,e2',hlt2⟩
  ·exact⟨rfl,rfl⟩
  ·omega
  ·omega
  ·exact h.mr.inj1 _ _ _ _ _ e' e2'
 ·intro l1 s1 l2 s2 b' e1 e2;exact h.mr.inj2 _ _ _ _ _ (hvm _ _ _ e1).2.1 (hvm _ _ _ e2).2.1
 ·intro l1 s1 l2 s2 b' e1 e2;obtain⟨_,e2',hlt⟩:=hvm _ _ _ e2;rcases hnm l1 s1 b' e1 with⟨rfl,rfl,rfl⟩|⟨hh,e',_⟩
  ·omega
  ·exact h.mr.inj3 _ _ _ _ _ e' e2'
 ·intro l' s' t p e;by_cases hh:l'=0∧s'=s
  ·obtain⟨rfl,rfl⟩:=hh;rw[hlook0]at e;have hx:=hiter t p e;subst hx;exact⟨w.heap.size,by simp[Gh.fresh],heap_alloc_new w _⟩
  ·rw[hlook l' s' hh]at e;obtain⟨b',e',hc⟩:=h.mr.iter l' s' t p e;exact⟨b',(Qlu (t:=some w.heap.size) hh).trans e',(hold _ (h.mr.mine (.inl ⟨_,_,e'⟩)).1).trans hc⟩
 ·intro s' b' e;rcases e with e|e
  ·rcases hnm 0 s' b' e with⟨_,_,rfl⟩|⟨_,e',_⟩
   ·exact h.top
   ·exact h.base s' b' (.inl e')
  ·exact h.base s' b' (.inr (hvm _ _ _ e).2.1)
 ·have:=h.top;simp;omega
 ·refine⟨rfl,rfl,rfl,xA,fun _ _ _ h=>h,fun l' s' hl'=>?_,hnew.vg,hnew.vs,fun b hb _=>⟨hold b hb,fun _=>rfl⟩,fun b hb=>?_,fun l s _ h=>.inl ⟨l,s,Qlk _,h⟩⟩
  ·simp only[Gh.fresh];rw[Qlu xw]
  ·rcases hb with⟨l',s',e⟩|⟨l',s',e⟩
   ·rcases hnm l' s' b e with⟨_,_,rfl⟩|⟨_,e',_⟩
    ·exact .inr (Qlk _)
    ·exact .inl (.inl ⟨_,_,e'⟩)
   ·exact .inl (.inr ⟨_,_,(hvm _ _ _ e).2.1⟩)

theorem Rel.freshN {G:Gh}{B N:Nat}{st:St}{a:Act}{w:World}(h:Rel G B N st a w)(s:Nat)(hno:Zs st.m s=true){l:List AV}{cs:Array Value}(hl:RepL G l cs.toList)(t:TypeId)(hty:Zk s t=true) :
  Rel (G.fresh s w.heap.size) B N { st with m:=Am.put st.m 0 s (.cells l) } a (w.alloc (.cells cs t))∧Ext 1 G w (G.fresh s w.heap.size) (w.alloc (.cells cs t)) :=
 h.freshO s hno rfl (fun _ e=>by cases e;exact⟨cs,t,rfl,hty,hl⟩) (fun _ _ e=>kZ)

def Gh.drop (G:Gh)(s:Nat):Gh :=
 { G with nm:=fun l t=>if l=0∧t=s then none else G.nm l t }

def St.drop (st:St)(s:Nat):St :=
 { f:=fun i=>(st.f i).scrub s,m:=Am.put (YD s st.m) 0 s .none,ds:=st.ds.map (DF.scrub s) }

theorem Rel.drop {G:Gh}{B N:Nat}{st:St}{a:Act}{w:World}(h:Rel G B N st a w)(s:Nat)(hrow:HK st.m s=true) :
  Rel (G.drop s) B N (st.drop s) a w∧Ext 1 G w (G.drop s) w:=by
 have hnew:Gnew s G (G.drop s):=by
  refine⟨fun _ _ _ h=>h,fun l t b hh e=>?_,fun _ _=>Qlk _,fun _ _ _=>⟨rfl,rfl,rfl⟩⟩;show(if l=0∧t=s then none else G.nm l t)=some b;rw[Qlu (fun k=>hh k.1 k.2)];exact e
 have hdn:∀l,Gle (G.dn (l+1)) ((G.drop s).dn (l+1)):=fun l=>by
  refine⟨fun _ _ _ h=>h,fun i t b e=>?_,fun _ _=>Qlk _,fun _ _ _=>⟨rfl,rfl,rfl⟩⟩;show(if i+(l+1)=0∧t=s then none else G.nm (i+(l+1)) t)=some b;rw[Qlu xw];exact e
 have hnm:∀l' s' b',(G.drop s).nm l' s'=some b'→¬(l'=0∧s'=s)∧G.nm l' s'=some b':=by
  intro l' s' b' e;have e:(if l'=0∧s'=s then none else G.nm l' s')=some b':=e;split at e
  ·cases e
  ·rename_i hh;exact⟨hh,e⟩
 have hlook:∀l' s',¬(l'=0∧s'=s)→Qc (st.drop s).m l' s'=if l'=0 then(Qc st.m l' s').scrub s else Qc st.m l' s':=by
  intro l' s' hh;show Qc (Am.put (YD s st.m) 0 s _) l' s'=_;rw[QE xw];cases l' with
  |zero=>rw[Bc];rfl
  |succ l'=>rw[Bd];rfl
 have hlook0:Qc (st.drop s).m 0 s=.none:=by
  show Qc (Am.put (YD s st.m) 0 s _) 0 s=_;exact Qs (QmL.2 (Vr h.ne))
 refine⟨⟨⟨h.mr.stab,?_,?_,?_,?_,?_,?_,h.mr.inj2,?_,?_⟩,h.size,fun i=>(h.slots i).scrub hnew,h.ds.scrub hnew,?_,h.top,Wi (Vr h.ne)⟩,?_⟩
 ·intro l' s' zs e;by_cases hh:l'=0∧s'=s
  ·obtain⟨rfl,rfl⟩:=hh;rw[hlook0]at e;cases e
  ·rw[hlook l' s' hh]at e;cases l' with
   |zero=>
    rw[Qlv rfl]at e;obtain⟨ys,e1,rfl⟩:=Ob.scrub_cells e;obtain⟨b',cs',e',hc,hr⟩:=h.mr.cells 0 s' ys e1;exact⟨b',cs',(Qlu (t:=none) hh).trans e',hc,hr.scrub hnew⟩
   |succ l'=>
    rw[Qlu xw]at e;obtain⟨b',cs',e',hc,hr⟩:=h.mr.cells (l'+1) s' zs e;exact⟨b',cs',(Qlu (t:=none) hh).trans e',hc,hr.mono (hdn l')⟩
 ·intro l' s' b' e;obtain⟨hh,e'⟩:=hnm l' s' b' e;obtain⟨hz,h2⟩:=h.mr.nm l' s' b' e';refine⟨?_,h2⟩;rw[hlook l' s' hh];cases l' with
  |zero=>rw[Qlv rfl,Ob.scrub_isVar];exact hz
  |succ l'=>rw[Qlu xw];exact hz
 ·intro l' s' g sz zs e;by_cases hh:l'=0∧s'=s
  ·obtain⟨rfl,rfl⟩:=hh;rw[hlook0]at e;cases e
  ·rw[hlook l' s' hh]at e;have e1:Qc st.m l' s'=.vec g sz zs:=by
    cases l' with
    |zero=>rw[Qlv rfl]at e;exact Ob.scrub_vec e
    |succ l'=>rwa [Qlu xw]at e
   obtain⟨a1,a2,a3,a4⟩:=h.mr.vec l' s' g sz zs e1;exact⟨a1,a2,a3,a4.imp id fun⟨b',e',r⟩=>⟨b',e',r.of rfl fun vs hv=>RepL.rfd (G:=G) (G':=G.drop s) (fun _ _ _ h=>h) a3.rf hv⟩⟩
 ·intro l' s' b' e;obtain⟨⟨g,sz,zs,hz⟩,h2⟩:=h.mr.vm l' s' b' e;have hh:¬(l'=0∧s'=s):=by
   rintro⟨rfl,rfl⟩;simp[HK,hz]at hrow
  refine⟨?_,h2⟩;rw[hlook l' s' hh,hz];cases l' with
  |zero=>exact⟨_,_,_,rfl⟩
  |succ l'=>exact⟨_,_,_,rfl⟩
 ·intro l' s' e;by_cases hh:l'=0∧s'=s
  ·obtain⟨rfl,rfl⟩:=hh;show G.vg 0 s'=0;refine h.mr.gone 0 s' ?_
   revert hrow
   unfold HK;cases Qc st.m 0 s'<;>intro hrow<;>first|rfl|cases hrow
  ·rw[hlook l' s' hh]at e;refine h.mr.gone l' s' ?_;cases l' with
   |zero=>
    rw[Qlv rfl]at e;cases hl':Qc st.m 0 s'<;>rw[hl']at e<;>first|rfl|cases e
   |succ l'=>rwa [Qlu xw]at e
 ·intro l1 s1 l2 s2 b' e1 e2;exact h.mr.inj1 _ _ _ _ _ (hnm _ _ _ e1).2 (hnm _ _ _ e2).2
 ·intro l1 s1 l2 s2 b' e1 e2;exact h.mr.inj3 _ _ _ _ _ (hnm _ _ _ e1).2 e2
 ·intro l' s' t p e;by_cases hh:l'=0∧s'=s
  ·obtain⟨rfl,rfl⟩:=hh;rw[hlook0]at e;cases e
  ·rw[hlook l' s' hh]at e;have e1:Qc st.m l' s'=.iter t p:=by
    cases l' with
    |zero=>rw[Qlv rfl]at e;exact Ob.scrub_iter e
    |succ l'=>rwa [Qlu xw]at e
   obtain⟨b',e',hc⟩:=h.mr.iter l' s' t p e1;exact⟨b',(Qlu (t:=none) hh).trans e',hc⟩
 ·intro s' b' e;rcases e with e|e
  ·exact h.base s' b' (.inl (hnm _ _ _ e).2)
  ·exact h.base s' b' (.inr e)
 ·refine⟨rfl,rfl,rfl,Qlk _,fun _ _ _ h=>h,fun l' s' hl'=>?_,hnew.vg,hnew.vs,fun b hb _=>⟨rfl,fun _=>rfl⟩,fun b hb=>?_,fun l s _ h=>.inl ⟨l,s,Qlk _,h⟩⟩
  ·show(if l'=0∧s'=s then none else G.nm l' s')=G.nm l' s';rw[Qlu xw]
  ·rcases hb with⟨l',s',e⟩|⟨l',s',e⟩
   ·exact .inl (.inl ⟨_,_,(hnm _ _ _ e).2⟩)
   ·exact .inl (.inr ⟨_,_,e⟩)

section
variable {P:Program}{N:Nat}{st:St}{Q:St→Prop}

theorem Qy.allocN {d:Option Nat}{s:Nat}{z:List AV}{its:List Item}(hn:Zs st.m s=true)(h:Qy P N its { st with m:=Am.put st.m 0 s (.cells z),f:=Ql st.f d (.ptr 0 s 0) } Q):Qy P N (⟨d,.allocN s z,none⟩ :: its) st Q:=by
 refine Qy.step rfl fun G B a w o hr hd hdN hc K QQ hK=>?_
 cases ho:o.op<;>rw[ho]at hc<;>simp only[X4,QlH]at hc;rename_i e;split at hc
 ·rename_i i hi;split at hc
  ·rename_i zv hz;rw[QlM]at hc;obtain⟨hr',he⟩:=hr.freshN s hn (l:=z) (cs:=zv.cells) (isCL_ok hc.1) e hc.2;have hrun:(execOp a.eval o).run P w=.ok (.value (.pointer (some ⟨w.heap.size,0,none⟩))) (w.alloc (.cells zv.cells e)):=by
    simp only[execOp,ho,Instr.alloc,zeroValue,typeInfo,Sem.run_bind,run_program,Result.andThen_ok,hi,Sem.run_pure,hz,newVar,newRow,run_newObj];rfl
   exact oI
  ·cases hc
 ·cases hc

theorem Qy.boxN {d:Option Nat}{s:Nat}{r:RA}{its:List Item}(hn:Zs st.m s=true)(hl:(r.ev st.f).cells.all AV.leaf=true)(h:Qy P N its { st with m:=Am.put st.m 0 s (.cells (r.ev st.f).cells),f:=Ql st.f d (.ptr 0 s 0) } Q) :
  Qy P N (⟨d,.boxN s r,none⟩ :: its) st Q:=by
 refine Qy.step rfl fun G B a w o hr hd hdN hc K QQ hK=>?_
 cases ho:o.op<;>rw[ho]at hc<;>simp only[X4,QlH]at hc;rename_i e x;rw[QlM]at hc;obtain⟨hr',he⟩:=hr.freshN s hn ((Qv hr hc.1).cells hl) e hc.2;have hrun:(execOp a.eval o).run P w=.ok (.value (.pointer (some ⟨w.heap.size,0,none⟩))) (w.alloc (.cells (a.eval x).cells e)):=by
  simp only[execOp,ho,Instr.box,newVar,newRow,Sem.run_bind,run_newObj,Result.andThen_ok,Sem.run_pure];rfl
 exact oI

end

def Zz (sz:Nat):Nat→List AV→List AV
 |0,_=>[]
 |n+1,y=>(if sz=1 then y.headD .top else .agg (y.take sz)) :: Zz sz n (y.drop sz)

def X5 (z:List AV)(sz len:Nat):List AV:=(List.range (len*sz)).map fun i=>(z[i % sz]?).getD .top

theorem GL (sz n:Nat)(y:List AV):(Zz sz n y).length=n:=by
 induction n generalizing y with
 |zero=>rfl
 |succ n ih=>simp[Zz,ih]

theorem AV.leaf_cells {x:AV}(h:x.leaf=true):x.cells=[x]:=by
 cases x<;>first|rfl|cases h

theorem Bo (sz n:Nat)(y:List AV)(hl:y.length=n*sz)(hy:y.all AV.leaf=true):QP (Zz sz n y)=y:=by
 induction n generalizing y with
 |zero=>
  have:y=[]:=Qmu kD;subst this;rfl
 |succ n ih=>
  have hd:(y.drop sz).length=n*sz:=by rw[Ql5,hl,QlZ,Nat.one_mul];omega
  have hld:(y.drop sz).all AV.leaf=true:=Zr hy fun x hx=>Qmb hx
  rw[Zz,Ze,ih _ hd hld];split
  ·rename_i h1;subst h1;cases y with
   |nil=>simp at hl
   |cons x y=>
    have:x.leaf=true:=by simp only[QmB,QlM]at hy;exact hy.1
    simp[AV.leaf_cells this]
  ·exact QmH sz y

theorem Bp (sz n:Nat)(y:List AV)(hl:y.length=n*sz)(hy:y.all AV.leaf=true):∀x∈Zz sz n y,x.cells.length=sz:=by
 induction n generalizing y with
 |zero=>intro x hx;cases hx
 |succ n ih=>
  have hd:(y.drop sz).length=n*sz:=by rw[Ql5,hl,QlZ,Nat.one_mul];omega
  have hld:(y.drop sz).all AV.leaf=true:=Zr hy fun x hx=>Qmb hx
  intro x hx;rw[Zz]at hx;rcases QmM.1 hx with rfl|hx
  ·split
   ·rename_i h1;subst h1;cases y with
    |nil=>simp at hl
    |cons x y=>
     have:x.leaf=true:=by simp only[QmB,QlM]at hy;exact hy.1
     simp[AV.leaf_cells this]
   ·show(y.take sz).length=sz;rw[Qml,hl,QlZ,Nat.one_mul];omega
  ·exact ih _ hd hld x hx

theorem Hd {f:Fr}:∀ {ps:List (Nat×Nat×RA)} {z y:List AV},fill f ps z=some y→y.length=z.length
 | [],z,y,h=>by cases h;rfl
 |(o,n,r) :: ps,z,y,h=>by
  simp only[fill]at h;split at h
  ·rename_i hh;rw[Hd h,Gx xw]
  ·cases h

section
variable {P:Program}{G:Gh}{B N:Nat}{st:St}{a:Act}{w:World}

theorem FI (h:Rel G B N st a w){sz:Nat}:∀ {xs:List (Nat×Operand)} {rs:List (Nat×Nat×RA)} {z y:List AV} {cs:Array Value},Ws sz xs rs=true→RepL G z cs.toList→fill st.f rs z=some y→
  ∃cs',Instr.fill (fun i=>some (i*sz,sz)) cs (xs.map fun(i,x)=>(i,a.eval x))=some cs'∧RepL G y cs'.toList
 | [],[],z,y,cs,_,hz,hf=>by cases hf;exact⟨cs,rfl,hz⟩
 |(i,x) :: xs,(o,n,r) :: rs,z,y,cs,hc,hz,hf=>by
  simp only[Ws,QlM,Qls]at hc;simp only[fill]at hf;obtain⟨⟨⟨rfl,rfl⟩,hca⟩,hc⟩:=hc;split at hf
  ·rename_i hh;obtain⟨h1,h2,h3⟩:=hh;have hr:=(Qv h hca).cells h3;have hl:=hr.length;have hzl:=hz.length;simp only[QlU]at hl hzl;have hfold:=WP (i*n) (a.eval x).cells.toList 0 cs j_;simp only[QlV]at hfold;have hsz:((a.eval x).cells.zipIdx.foldl (fun cs (c,j)=>cs.setIfInBounds (i*n+j) c) cs).toList=cs.toList.take (i*n)++(a.eval x).cells.toList++cs.toList.drop (i*n+(a.eval x).cells.toList.length):=by
    exact yq
   obtain⟨cs',h4,h5⟩:=FI h (cs:=(a.eval x).cells.zipIdx.foldl (fun cs (c,j)=>cs.setIfInBounds (i*n+j) c) cs) hc (by rw[hsz];exact hz.splice hr (i*n)) hf;refine⟨cs',?_,h5⟩;simp only[QlW,Instr.fill];rw[Qlu xD];exact h4
  ·cases hf
 | [],_ :: _,_,_,_,hc,_,_=>by simp[Ws]at hc
 |_ :: _,[],_,_,_,hc,_,_=>by simp[Ws]at hc

end

def nn0:AV→AV
 |.nils=>.list []
 |x=>x

theorem Rep.nn0 {G:Gh}{x:AV}{v:Value}(h:Rep G x v):Rep G (nn0 x) v:=by
 unfold Am.nn0;split
 ·cases h;exact oS
 ·exact h

theorem RepL.nn0 {G:Gh}:∀ {l:List AV} {vs:List Value},RepL G l vs→RepL G (l.map nn0) vs
 | [],_,h=>h
 |_ :: _,_,h=>by
  cases h with
  |cons h t=>exact .cons h.nn0 t.nn0

theorem Qc6 {x:AV}(h:x.rf=true):(nn0 x).rf=true:=by
 unfold Am.nn0;split
 ·rfl
 ·exact h
theorem Ig {x:AV}(h:x.leaf=true):(nn0 x).leaf=true:=by
 unfold Am.nn0;split
 ·rfl
 ·exact h
theorem NI:∀ {l:List AV},AV.rfL l=true→AV.rfL (l.map nn0)=true
 | [],_=>rfl
 |x :: l,h=>by
  simp only[AV.rfL,QlM]at h;simp only[QlW,AV.rfL,QlM];exact⟨Qc6 h.1,NI h.2⟩
theorem P4 {l:List AV}(h:l.all AV.leaf=true):(l.map nn0).all AV.leaf=true:=by
 rw[QlB]at h ⊢;intro x hx;obtain⟨y,hy,rfl⟩:=QmK.1 hx;exact Ig (h y hy)

section
variable {P:Program}{N:Nat}{st:St}{Q:St→Prop}

theorem Qy.bsl {d:Option Nat}{sz len:Nat}{z:List AV}{ps:List (Nat×Nat×RA)}{its:List Item}{y:List AV}(hy:fill st.f ps (X5 z sz len)=some y)(hf:AV.rfL y=true)(hl:y.all AV.leaf=true)
  (h:Qy P N its { st with f:=Ql st.f d (.list (Zz sz len (y.map nn0))) } Q):Qy P N (⟨d,.bsl sz len z ps,none⟩ :: its) st Q:=by
 refine Qy.step rfl fun G B a w o hr hd hdN hc K QQ hK=>?_
 cases ho:o.op<;>rw[ho]at hc<;>simp only[X4,QlH,QlM,Qls,QlR,Qlr]at hc;rename_i t n Qo;obtain⟨⟨⟨⟨⟨rfl,hbig⟩,hsz0⟩,hlen0⟩,hty⟩,hps⟩:=hc;cases hu:P.underlying t with
 |none=>simp[hu]at hty
 |some dd=>
  cases dd with
  |slice e=>
   simp only[hu,Qmo,QlM,Qls]at hty;obtain⟨i,hi,rfl,hz⟩:=hty;cases hzv:i.zero with
   |none=>rw[hzv]at hz;cases hz
   |some zv=>
    rw[hzv]at hz;simp only[QlM,Qls]at hz;have rz:RepL G z zv.cells.toList:=isCL_ok hz.1;have hzl:zv.cells.size=i.size:=by
     have:=rz.length;simp only[QlU]at this;omega
    have r0:RepL G (X5 z i.size n) ((Array.range (n*i.size)).map (zv.cells[· % zv.cells.size]!)).toList:=by
     exact oB
    obtain⟨cs,hfill,hrep0⟩:=FI hr hps r0 hy;have hrep:=hrep0.nn0;have hf:=NI hf;have hl:=P4 hl;have hyl:(y.map nn0).length=n*i.size:=by rw[Qmj,Hd hy];simp[X5]
    have hne:n*i.size≠0:=Nat.mul_ne_zero hlen0 hsz0;have hrun:(execOp a.eval o).run P w=.ok (.value (.slice (some ⟨w.heap.size,0,none⟩) n n)) (w.alloc (.cells cs e)):=by
     exact oO
    let stab':Nat→Nat→Option SV:=fun b k=>if b=w.heap.size then(cs[k]?).map .cell else G.stab b k
    have hlt:∀b k v,G.stab b k=some v→b<w.heap.size:=fun b k v e=>HJ (hr.mr.stab b k v e)
    have hold:∀b,b<w.heap.size→(w.alloc (.cells cs e)).heap[b]? = w.heap[b]?:=fun b hb=>RowKit.Below.heap_alloc w _ b hb
    have hg:∀b k v,G.stab b k=some v→stab' b k=some v:=fun b k v e=>by
     have:=hlt b k v e;show(if b=w.heap.size then(cs[k]?).map .cell else G.stab b k)=some v;rw[Qlu xw];exact e
    have hs:∀b k v,stab' b k=some v→rd (w.alloc (.cells cs e)) b k v:=fun b k v e'=>by
     by_cases hb:b=w.heap.size
     ·subst hb;have e2:(cs[k]?).map SV.cell=some v:=(Qlv rfl).symm.trans e';cases hk:cs[k]? with
      |none=>rw[hk]at e2;cases e2
      |some u=>
       rw[hk]at e2;cases e2;show World.cell? _ _=some u;rw[(X3.new (s:=0) w cs e rfl).cell];exact hk
     ·have e2:G.stab b k=some v:=(Qlu hb).symm.trans e';exact KO (hold b (hlt b k v e2)) (hr.mr.stab b k v e2)
    have hm:∀b,G.mine b→∀k,stab' b k=none:=fun b hb k=>by
     have:=(hr.mr.mine hb).1;show(if b=w.heap.size then(cs[k]?).map .cell else G.stab b k)=none;rw[Qlu xw];exact(hr.mr.mine hb).2 k
    have hmr:=hr.mr.kept hold hs hg hm;have hext:Ext 0 G w (G.with stab' hg) (w.alloc (.cells cs e)):=Ext.bare (w:=w) (w':=w.alloc (.cells cs e)) (stab':=stab') rfl rfl rfl xA hold hg fun b hb k=>Qlu (Nat.ne_of_lt hb)
    unfold Oper.wp;rw[hrun];have hd':o.dst=d:=hd;show K (a.put o.dst _) _;rw[hd'];refine hK _ _ _ _ h ((hr.after hmr hext rfl).put hdN ?_) (hext.mono (Qlx _));have hfl:=Bo i.size n _ hyl hl;refine .list (cs:=cs.toList) (sz:=i.size) ?_ (Bp i.size n _ hyl hl) (by rw[hfl];exact hf) (by rw[hfl];exact hl) (fun j u hu'=>?_) (GL i.size n _).symm (Qlk _) ?_
    ·rw[hfl];exact hrep.mono hext.gle
    ·refine⟨w.heap.size,0,rfl,?_⟩;show(if w.heap.size=w.heap.size then(cs[0+j]?).map SV.cell else _)=some (SV.cell u);rw[Qlv rfl,QlN];have hu2:cs[j]? = some u:=by simpa using hu'
     rw[hu2];rfl
    ·have:n≤n*i.size:=Nat.le_mul_of_pos_right n xw;simp only[maxLen];omega
  |_=>simp[hu]at hty

theorem Qy.bslv {d:Option Nat}{site sz len:Nat}{z:List AV}{ps:List (Nat×Nat×RA)}{its:List Item}{y:List AV}(hy:fill st.f ps (X5 z sz len)=some y)(hf:AV.rfL y=true)(hl:y.all AV.leaf=true)(hro:Qn (Qc st.m 0 site)=true)
  (h:Qy P N its { st with m:=Am.put st.m 0 site (.vec (Qz st.m 0 site) sz (Zz sz len (y.map nn0))),f:=Ql st.f d (.vec 0 site (Qz st.m 0 site) 0 len false) } Q):Qy P N (⟨d,.bslv site sz len z ps,none⟩ :: its) st Q:=by
 refine Qy.step rfl fun G B a w o hr hd hdN hc K QQ hK=>?_
 cases ho:o.op<;>rw[ho]at hc<;>simp only[X4,QlH,QlM,Qls,QlR,Qlr]at hc;rename_i t n Qo;obtain⟨⟨⟨⟨⟨rfl,hbig⟩,hsz0⟩,hlen0⟩,hty⟩,hps⟩:=hc;cases hu:P.underlying t with
 |none=>simp[hu]at hty
 |some dd=>
  cases dd with
  |slice e=>
   simp only[hu,Qmo,QlM,Qls]at hty;obtain⟨⟨i,hi,rfl,hz⟩,hte⟩:=hty;cases hzv:i.zero with
   |none=>rw[hzv]at hz;cases hz
   |some zv=>
    rw[hzv]at hz;simp only[QlM,Qls]at hz;have rz:RepL G z zv.cells.toList:=isCL_ok hz.1;have hzl:zv.cells.size=i.size:=by
     have:=rz.length;simp only[QlU]at this;omega
    have r0:RepL G (X5 z i.size n) ((Array.range (n*i.size)).map (zv.cells[· % zv.cells.size]!)).toList:=by
     exact oB
    obtain⟨cs,hfill,hrep0⟩:=FI hr hps r0 hy;have hrep:=hrep0.nn0;have hf:=NI hf;have hl:=P4 hl;have hyl:(y.map nn0).length=n*i.size:=by rw[Qmj,Hd hy];simp[X5]
    have hne:n*i.size≠0:=Nat.mul_ne_zero hlen0 hsz0;have hrun:(execOp a.eval o).run P w=.ok (.value (.slice (some ⟨w.heap.size,0,none⟩) n n)) (w.alloc (.cells cs e)):=by
     exact oO
    have hcsz:cs.size=n*i.size:=by
     have:=hrep.length;simp only[QlU]at this;omega
    have hfl:=Bo i.size n _ hyl hl;have hcl:=GL i.size n (y.map nn0);have hnm:n≤maxLen:=by
     have:n≤n*i.size:=Nat.le_mul_of_pos_right n xw;simp only[maxLen];omega
    have hrow:RowIs G site (w.alloc (.cells cs e)) w.heap.size n i.size (Zz i.size n (y.map nn0)):=by
     refine⟨⟨cs,X3.new w _ e hte,hcsz,?_⟩,by rw[hcl];exact Qlk _,hnm⟩;rw[hfl,hcl,QlY (by rw[QlU,hcsz];exact Qlk _)];exact hrep
    have hels:Elems i.size (Zz i.size n (y.map nn0)):=⟨Bp i.size n _ hyl hl,by rw[hfl];exact hf,by rw[hfl];exact hl⟩;have hgl:=J3 hr.mr hro;have hl0:0<st.m.length:=QmL.2 hr.ne;obtain⟨hr',he⟩:=hr.vecput (w':=w.alloc (.cells cs e)) (cap:=n) (b:=some w.heap.size) hl0 hro hgl rfl rfl rfl xA (fun k hk _=>RowKit.Below.heap_alloc w _ k hk) (fun k e=>kQ) hels (.inr ⟨_,rfl,hrow⟩);unfold Oper.wp;rw[hrun];have hd':o.dst=d:=hd;show K (a.put o.dst _) _;rw[hd'];exact hK _ _ _ _ h (hr'.put hdN (.vec rfl (Ql8 j4) fun _=>.inr ⟨w.heap.size,⟨w.heap.size,0,none⟩,n,j4,j4,rfl,Qlk _,hnm,fun _=>j4,fun _=>xA⟩)) he
  |_=>simp[hu]at hty

theorem Qy.bsl0 {d:Option Nat}{site sz:Nat}{its:List Item}(hro:Qn (Qc st.m 0 site)=true)
  (h:Qy P N its { st with m:=Am.put st.m 0 site (.vec (Qz st.m 0 site) sz []),f:=Ql st.f d (.vec 0 site (Qz st.m 0 site) 0 0 false) } Q):Qy P N (⟨d,.bsl0 site sz,none⟩ :: its) st Q:=by
 refine Qy.step rfl fun G B a w o hr hd hdN hc K QQ hK=>?_
 cases ho:o.op<;>rw[ho]at hc<;>simp only[X4,QlH,QlM,Qls]at hc;rename_i t n Qo;obtain⟨⟨rfl,hpe⟩,hty⟩:=hc;have hpe':Qo = #[]:=Array.isEmpty_iff.1 hpe;subst hpe';cases hu:P.underlying t with
 |none=>simp[hu]at hty
 |some dd=>
  cases dd with
  |slice e=>
   simp only[hu,Qmo,QlM,Qls]at hty;obtain⟨⟨i,hi,rfl⟩,hte⟩:=hty;have hrun:(execOp a.eval o).run P w=.ok (.value (.slice (some ⟨w.heap.size,0,none⟩) 0 0)) (w.alloc (.cells #[] e)):=by
    have e0:Array.range 0 = #[]:=rfl;simp[execOp,ho,Instr.buildSlice,Sem.run_bind,run_underlying hu,Result.andThen_ok,XR hi,Instr.fill,newRow,e0]
   have hrow:RowIs G site (w.alloc (.cells #[] e)) w.heap.size 0 i.size []:=⟨⟨#[],X3.new w _ e hte,xA,by simp[QP];exact .nil⟩,Qlk _,Qlx _⟩;have hels:Elems i.size []:=⟨xA,rfl,rfl⟩;have hgl:=J3 hr.mr hro;have hl0:0<st.m.length:=QmL.2 hr.ne;obtain⟨hr',he⟩:=hr.vecput (w':=w.alloc (.cells #[] e)) (cap:=0) (b:=some w.heap.size) hl0 hro hgl rfl rfl rfl xA (fun k hk _=>RowKit.Below.heap_alloc w _ k hk) (fun k e=>kQ) hels (.inr ⟨_,rfl,hrow⟩);unfold Oper.wp;rw[hrun];have hd':o.dst=d:=hd;show K (a.put o.dst _) _;rw[hd'];exact hK _ _ _ _ h (hr'.put hdN (.vec rfl (Ql8 j4) fun _=>.inr ⟨w.heap.size,⟨w.heap.size,0,none⟩,0,j4,j4,rfl,Qlk _,Qlx _,fun _=>j4,fun _=>xA⟩)) he
  |_=>simp[hu]at hty

theorem GB {w:World}{t e:TypeId}(hu:P.underlying t=some (.slice e))(A:Option Addr)(n c:Nat):(binOp .eql t (.slice A n c) (.slice none 0 0)).run P w=.ok (.bool A.isNone) w∧(binOp .neq t (.slice A n c) (.slice none 0 0)).run P w=.ok (.bool (!A.isNone)) w:=by
 have h:∀d:Nat,(Op.equalIn (d+1) t (.slice A n c) (.slice none 0 0)).run P w=.ok A.isNone w:=fun d=>by
  cases A<;>simp[Op.equalIn,run_underlying hu]
 exact y9

theorem Qy.appc {d:Option Nat}{site sz bytes el:Nat}{s r:RA}{its:List Item}{xs ys:List AV}(hs:s.ev st.f=.lcap xs)(hy:Q1 st.m (r.ev st.f)=some ys)(hne:ys≠[])(hxz:xs.all (fun e=>e.cells.length==sz)=true)(hsz:ys.all (fun e=>e.cells.length==sz)=true)
  (hmax:xs.length+ys.length≤maxLen) (hb:(xs.length+ys.length)*bytes≤140737488355328) (hro:Qn (Qc st.m 0 site)=true)
  (h:Qy P N its { st with m:=Am.put st.m 0 site (.vec (Qz st.m 0 site) sz (xs++ys)),f:=Ql st.f d (.vec 0 site (Qz st.m 0 site) 0 (xs.length+ys.length) false) } Q):Qy P N (⟨d,.appc site sz bytes el s r,none⟩ :: its) st Q:=by
 refine Qy.step rfl fun G B a w o hr hd hdN hc K QQ hK=>?_
 cases ho:o.op<;>rw[ho]at hc<;>simp only[X4,QlH]at hc;rename_i cl;split at hc
 case h_2=>cases hc
 rename_i o1 x y t t' o2;cases o2;simp only[QlM,Qls]at hc;obtain⟨⟨⟨rfl,hty⟩,hcs⟩,hcr⟩:=hc;cases hu:P.underlying t with
 |none=>simp[hu]at hty
 |some dd=>
  cases dd with
  |slice e=>
   simp only[hu,QlM,Qmo,QlR,Qls]at hty;obtain⟨⟨⟨⟨i,hi,⟨rfl,rfl⟩,hz⟩,hsz0⟩,rfl⟩,hte⟩:=hty;cases hzv:i.zero with
   |none=>rw[hzv]at hz;cases hz
   |some zv=>
    rw[hzv]at hz;simp only[Qls]at hz;have rs:=Qv hr hcs;rw[hs]at rs;obtain⟨A,c,hyv,sz',cs,hrep,hel,hcell⟩:=WQ hr hy (Qv hr hcr);have hall:∀u∈ys,u.cells.length=i.size:=fun u hu=>by simpa using QlB.1 hsz u hu
    have hallx:∀u∈xs,u.cells.length=i.size:=fun u hu=>by simpa using QlB.1 hxz u hu
    have hcl:cs.length=ys.length*i.size:=by rw[hrep.length,Wj hall]
    have hone:∀u∈cs,u.oneCell'=true:=hrep.leaves hel.leaf;have hylen:0<ys.length:=QmL.2 hne;have hsrc:Src P i.size t (.slice A ys.length c) ys.length cs w:=by
     cases cs with
     |nil=>
      have h0:ys.length=0:=by
       exact yA
      omega
     |cons u0 us=>
      obtain⟨b,o',rfl,_⟩:=hcell 0 u0 rfl;refine Src.ofSlice (w:=w) hu ⟨b,o',none⟩ ys.length c (u0 :: us) hcl (fun j u hj=>?_) hone;obtain⟨b',o'',e,hcc⟩:=hcell j u hj;cases e;rw[XV];exact hcc
    revert rs
    generalize hxv:a.eval x=v;intro rs;cases rs with
    |lcap hc0 hz0 hf0 hl0 hs0 hn0 hm0=>
     rename_i cs0 A0 n0 sz0;subst hn0;have hcl0:cs0.length=xs.length*i.size:=by rw[hc0.length,Wj hallx]
     have hold:(Builtin.firstCells i.size xs.length (.slice A0 xs.length xs.length)).run P w.drew=.ok cs0.toArray w.drew:=by
      cases A0 with
      |none=>
       have:cs0=[]:=by
        cases cs0 with
        |nil=>rfl
        |cons u us=>
         obtain⟨b,o',e,_⟩:=hs0 0 u rfl;cases e
       subst this;exact run_firstCells_none w.drew i.size _ _ _
      |some ad=>
       refine run_firstCells_some w.drew i.size xs.length ad _ _ cs0 hcl0 fun j u hj=>?_
       obtain⟨b,o',e,hst⟩:=hs0 j u hj;cases e;show w.cell? _=_;rw[XV];exact hr.mr.stab _ _ _ hst
     have hmax':xs.length+ys.length≤9223372036854775807:=by simp only[maxLen]at hmax;omega
     have hrun:=run_append_grow_src (P:=P) w t t o.type e i zv hu hi hzv A0 xs.length xs.length cs0 hold (.slice A ys.length c) ys.length cs hsrc xw xw (growslice_fits xw hb);have hge:=grownCap_ge w (xs.length+ys.length) xs.length e;have hcm:=grownCap_le_maxLen w (xs.length+ys.length) xs.length e hmax;generalize hcap:grownCap w (xs.length+ys.length) xs.length e=cap at hrun hge hcm;have hlen:(cs0++cs).length=(xs++ys).length*i.size:=by rw[Ql2,hcl0,hcl,Ql2,QlZ]
     have hrow:RowIs G site (w.drew.alloc (.cells ((cs0++cs).toArray++Builtin.zeroCells zv.cells (cap-(xs.length+ys.length))) e)) w.heap.size cap i.size (xs++ys):=by
      refine⟨⟨_,X3.new w.drew _ e hte,?_,?_⟩,by rw[Ql2];exact hge,hcm⟩
      ·simp only[Array.size_append,Qmt,size_zeroCells,hz,hlen,Ql2,←QlZ];congr 1
       omega
      ·simp only[Array.toList_append];rw[←hlen,List.take_left,Z3];exact hc0.append hrep
     have hels:Elems i.size (xs++ys):=by
      refine⟨fun u hu=>?_,?_,?_⟩
      ·rcases QmJ.1 hu with hu|hu
       ·exact hallx u hu
       ·exact hall u hu
      ·rw[Z3,K6,hf0,hel.rf];rfl
      ·rw[Z3,QmI,hl0,hel.leaf];rfl
     have hgl:=J3 hr.mr hro;have hl0':0<st.m.length:=QmL.2 hr.ne;obtain⟨hr',he⟩:=hr.vecput (w':=w.drew.alloc (.cells ((cs0++cs).toArray++Builtin.zeroCells zv.cells (cap-(xs.length+ys.length))) e)) (cap:=cap) (b:=some w.heap.size) hl0' hro hgl rfl rfl rfl xA (fun k hk _=>RowKit.Below.heap_alloc w.drew _ k hk) (fun k e=>kQ) hels (.inr ⟨_,rfl,hrow⟩);have hexec:(execOp a.eval o).run P w=.ok (.value (.slice (some ⟨w.heap.size,0,none⟩) (xs.length+ys.length) cap)) (w.drew.alloc (.cells ((cs0++cs).toArray++Builtin.zeroCells zv.cells (cap-(xs.length+ys.length))) e)):=by
      simp only[execOp,ho,resolve,invoke,builtin,Sem.run_bind,Sem.run_pure,Result.andThen_ok,Qmp,QlW,Qmq,hyv,hxv,hrun]
     unfold Oper.wp;rw[hexec];have hd':o.dst=d:=hd;show K (a.put o.dst _) _;rw[hd'];exact hK _ _ _ _ h (hr'.put hdN (.vec rfl (Ql8 j4) fun _=>.inr ⟨w.heap.size,⟨w.heap.size,0,none⟩,cap,j4,by simp[Gh.row];exact hge,rfl,hge,hcm,fun _=>j4,fun _=>xA⟩)) he
  |_=>simp[hu]at hty

theorem Qy.isnil {d:Option Nat}{neg:Bool}{r:RA}{its:List Item}{ys:List AV}(hx:Q1 st.m (r.ev st.f)=some ys)
  (h0:r.ev st.f≠.nils→Qy P N its { st with f:=Ql st.f d (.bool neg) } Q) (h1:(r.ev st.f=.nils∨QP ys=[])→Qy P N its { st with f:=Ql st.f d (.bool (!neg)) } Q):Qy P N (⟨d,.isnil neg r,none⟩ :: its) st Q:=by
 refine Qy.step rfl fun G B a w o hr hd hdN hc K QQ hK=>?_
 cases ho:o.op<;>rw[ho]at hc<;>simp only[X4,QlH,QlM,Qls]at hc;rename_i b t x y yt;obtain⟨⟨⟨hty,rfl⟩,hcx⟩,hcy⟩:=hc;have hrx:=Qv hr hcx;obtain⟨A,c,hv,sz,cs,hrep,_,hcell⟩:=WQ hr hx hrx;have hry:=Qv hr hcy;have hyv:a.eval y=.slice none 0 0:=by
  revert hry
  generalize a.eval y=u;intro hry;have hry:Rep G .nils u:=hry;cases hry;rfl
 split at hty
 case h_2=>cases hty
 rename_i e hu;have hd':o.dst=d:=hd;have hguard:(eqGuard (bif neg then .neq else .eql) t x y (a.eval x) (a.eval y)).run P w=.ok () w:=by
  rw[hv,hyv];cases neg<;>simp[eqGuard]
 have fin:∀q:Bool,Qy P N its { st with f:=Ql st.f d (.bool q) } Q→(binOp (bif neg then .neq else .eql) t (a.eval x) (a.eval y)).run P w=.ok (.bool q) w→o.wp P a w K QQ:=by
  intro q hq hrun;have hexec:(execOp a.eval o).run P w=.ok (.value (.bool q)) w:=by
   simp only[execOp,ho,Sem.run_bind,hguard,hrun,Result.andThen_ok];rfl
  unfold Oper.wp;rw[hexec];show K (a.put o.dst _) w;rw[hd'];exact hK _ _ _ _ hq (hr.put hdN (.bool _)) (Ext.refl 1 G w)
 have key:(binOp (bif neg then .neq else .eql) t (a.eval x) (a.eval y)).run P w=.ok (.bool (bif A.isNone then !neg else neg)) w:=by
  rw[hv,hyv];cases neg
  ·rw[show(bif false then BinOp.neq else .eql)=.eql from rfl,(GB hu A _ _).1];cases A<;>rfl
  ·rw[show(bif true then BinOp.neq else .eql)=.neq from rfl,(GB hu A _ _).2];cases A<;>rfl
 cases A with
 |none=>
  refine fin _ (h1 (.inr ?_)) key;have hcs:cs=[]:=by
   cases cs with
   |nil=>rfl
   |cons u cs=>
    obtain⟨b,o,e,_⟩:=hcell 0 u rfl;cases e
  subst hcs;cases hf:QP ys with
  |nil=>rfl
  |cons z zs=>rw[hf]at hrep;cases hrep
 |some A=>
  refine fin _ (h0 fun e=>?_) key;rw[e]at hrx;rw[hv]at hrx;cases hrx

theorem BV.zero {y:Operand}(h:isZ y=true)(a:Act)(d:Nat):BV (some (a.eval y)) d 0:=by
 unfold isZ at h;split at h
 ·rename_i k n;simp only[Qls]at h;subst h;exact .inr ⟨k,0,rfl,QmP _,rfl⟩
 ·cases h

end

end Go.Proofs.YtmlohboeoeoamaaGreatDoor.Am

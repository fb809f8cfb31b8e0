import Derived.WalkKit
import Derived.WalkLawsBesides
import Derived.Lib.Builder
import Derived.Laws.Externs
import Derived.Laws.StructEq
import Derived.Laws.IdiomStrings
import Derived.MapKept
import Derived.Deep.AppendSrc
set_option linter.defProp false
namespace Go.Proofs.YtmlohboeoeoamaaGreatDoor
def ψ {p:Prop}(w:p:=by omega):p:=w
def ω {p:Prop}(w:p:=by rfl):p:=w
def ϊ {p:Prop}(w:p:=by decide):p:=w
def ϋ {p:Prop}(w:p:=by simp only[Qa,seval]):p:=w
def ό {p:Prop}(w:p:=by simp):p:=w
def ύ {p:Prop}(w:p:=by simp only[QnJ,Qod,Qa,seval]<;>rfl):p:=w
def ώ {p:Prop}(w:p:=by simp only[maxLen];omega):p:=w
def Ϗ {p:Prop}(w:p:=by simp;omega):p:=w
def ϐ {p:Prop}(w:p:=by rw[QD];omega):p:=w
def ϑ {p:Prop}(w:p:=by simp only[QnJ,Qod,Qa,seval]):p:=w
def ϒ {p:Prop}(w:p:=by simp only[Qa,seval]<;>rfl):p:=w
def ϓ {p:Prop}(w:p:=by rw[Qn5];simp only[Qnf,Qn9,Qpf];omega):p:=w
def ϔ {p:Prop}(w:p:=by simp only[Qnq,Qn7,maxLen];omega):p:=w
def ϕ {p:Prop}(w:p:=by exact h1):p:=w
def ϖ {p:Prop}(w:p:=by exact h3):p:=w
def ϗ {p:Prop}(w:p:=by exact h0):p:=w
def Ϙ {p:Prop}(w:p:=by simp only[Qnq,Qn7];omega):p:=w
def ϙ {p:Prop}(w:p:=by simp only[f0,Qa,seval]):p:=w
def Ϛ {p:Prop}(w:p:=by exact h5):p:=w
def ϛ {p:Prop}(w:p:=by simp<;>rfl):p:=w
def Ϝ {p:Prop}(w:p:=by exact h6):p:=w
def ϝ {p:Prop}(w:p:=by rw[hm 4 (by decide),b_]<;>rfl):p:=w
def Ϟ {p:Prop}(w:p:=by simp only[Qnq];omega):p:=w
def ϟ {p:Prop}(w:p:=by simp only[Qnf];omega):p:=w
def Ϡ {p:Prop}(w:p:=by exact h4):p:=w
def ϡ {p:Prop}(w:p:=by simpa using h):p:=w
def Ϣ {p:Prop}(w:p:=by simp only[Qpf];omega):p:=w
def ϣ {p:Prop}(w:p:=by exact h8):p:=w
def Ϥ {p:Prop}(w:p:=by rw[hf,ax]<;>rfl):p:=w
def ϥ {p:Prop}(w:p:=by simp only[f2,Qa,seval]):p:=w
def Ϧ {p:Prop}(w:p:=by simp[Gh.row]):p:=w
def ϧ {p:Prop}(w:p:=by simp[Lit.wf,IntKind.min,IntKind.max,IntKind.bits,IntKind.signed];omega):p:=w
def Ϩ {p:Prop}(w:p:=by rw[hm 3 (by decide),bM]<;>rfl):p:=w
def ϩ {p:Prop}(w:p:=by simp only[f1,Qa,seval]):p:=w
def Ϫ {p:Prop}(w:p:=by exact h7):p:=w
def ϫ {p:Prop}(w:p:=by rw[Q5];omega):p:=w
def Ϭ {p:Prop}(w:p:=by simpa using h1):p:=w
def ϭ {p:Prop}(w:p:=by simpa using h2):p:=w
def Ϯ {p:Prop}(w:p:=by simp only[zeroValue,typeInfo,Sem.run_bind,run_program,Result.andThen_ok,hi,cm,Sem.run_pure]):p:=w
def ϯ {p:Prop}(w:p:=by simp[Qu]):p:=w
def ϰ {p:Prop}(w:p:=by dsimp only;omega):p:=w
def ϱ {p:Prop}(w:p:=by rw[hf,aS]<;>rfl):p:=w
def ϲ {p:Prop}(w:p:=by exact m3):p:=w
def ϳ {p:Prop}(w:p:=by simp[hy]):p:=w
def ϴ {p:Prop}(w:p:=by rw[decide_eq_decide];omega):p:=w
def ϵ {p:Prop}(w:p:=by simp at hl |-;omega):p:=w
def Ϸ {p:Prop}(w:p:=by rw[hm 5 (by decide),bK]<;>rfl):p:=w
def ϸ {p:Prop}(w:p:=by rw[hm 6 (by decide),cV]<;>rfl):p:=w
def Ϲ {p:Prop}(w:p:=by simp only[binOp,Op.stringOp,hs,hu];rfl):p:=w
def Ϻ {p:Prop}(w:p:=by rw[hlen];exact(by rfl)):p:=w
def ϻ {p:Prop}(w:p:=by simp only[QnP,Qnq,Qn7,eI,fB];omega):p:=w
def Α {p:Prop}(w:p:=by simp[hk]):p:=w
def Β {p:Prop}(w:p:=by exact mR):p:=w
def Γ {p:Prop}(w:p:=by exact h12):p:=w
def Δ {p:Prop}(w:p:=by simp[maxLen];omega):p:=w
def Ε {p:Prop}(w:p:=by exact h9):p:=w
def Ζ {p:Prop}(w:p:=by exact bh):p:=w
def Η {p:Prop}(w:p:=by rw[hf,bF]<;>rfl):p:=w
def Θ {p:Prop}(w:p:=by rw[hf,bL]<;>rfl):p:=w
def Ι {p:Prop}(w:p:=by rw[hm 1000 (by decide),cF]<;>rfl):p:=w
def Κ {p:Prop}(w:p:=by rw[hf,bX]<;>rfl):p:=w
def Λ {p:Prop}(w:p:=by simp only[QnH];omega):p:=w
def Μ {p:Prop}(w:p:=by simpa using e):p:=w
def Ν {p:Prop}(w:p:=by simp only[f4,Qa,seval]):p:=w
def Ξ {p:Prop}(w:p:=by simp[cc]):p:=w
def Ο {p:Prop}(w:p:=by rw[hx];simp):p:=w
def Ρ {p:Prop}(w:p:=by rw[Qn6,Qn8];omega):p:=w
def Τ {p:Prop}(w:p:=by rw[hf,cO]<;>rfl):p:=w
def Υ {p:Prop}(w:p:=by exact h2):p:=w
def Φ {p:Prop}(w:p:=by exact m4):p:=w
def Χ {p:Prop}(w:p:=by rw[avs];first|rfl|simp only[QnJ,Qod,Vf,nn0,eE,seval]):p:=w
def Ψ {p:Prop}(w:p:=by simp only[f3,Qa,seval]):p:=w
def Ω {p:Prop}(w:p:=by rw[Qn6];omega):p:=w
def À {p:Prop}(w:p:=by rw[hf,am]<;>rfl):p:=w
def Á {p:Prop}(w:p:=by cases h):p:=w
def Â {p:Prop}(w:p:=by exact bT):p:=w
def Ã {p:Prop}(w:p:=by simp[AV.isC]at h):p:=w
def Ä {p:Prop}(w:p:=by simpa using hl):p:=w
def Å {p:Prop}(w:p:=by rw[e]):p:=w
def Æ {p:Prop}(w:p:=by rw[hm 7 (by decide),gc]<;>rfl):p:=w
def Ç {p:Prop}(w:p:=by rw[cQ 5 (by decide),bK]<;>rfl):p:=w
def È {p:Prop}(w:p:=by rw[bne_eq_false_iff_eq];omega):p:=w
def É {p:Prop}(w:p:=by simp only[QnJ,h3,Qa,seval]):p:=w
def Ê {p:Prop}(w:p:=by rw[hf,de]<;>rfl):p:=w
def Ë {p:Prop}(w:p:=by rw[hf,aU]<;>rfl):p:=w
def Ì {p:Prop}(w:p:=by rw[hf,aG]<;>rfl):p:=w
def Í {p:Prop}(w:p:=by exact dV):p:=w
def Î {p:Prop}(w:p:=by exact dh):p:=w
def Ï {p:Prop}(w:p:=by exact lp _):p:=w
def Ð {p:Prop}(w:p:=by simp[V.kd,V.oth,oth,V.bits,V.text,V.list,V.pairs,V.slots,V.raws,Zz]):p:=w
def Ñ {p:Prop}(w:p:=by rw[hf];simp):p:=w
def Ò {p:Prop}(w:p:=by rw[eJ];exact(by rfl)):p:=w
def Ó {p:Prop}(w:p:=by rw[lX];exact(by rfl)):p:=w
def Ô {p:Prop}(w:p:=by cases e;exact .inr (Qm8 _)):p:=w
def Õ {p:Prop}(w:p:=by rw[Qn8];omega):p:=w
def Ö {p:Prop}(w:p:=by exact m6):p:=w
def Ø {p:Prop}(w:p:=by exact aI):p:=w
def Ù {p:Prop}(w:p:=by rw[hm 1100 (by decide),jO]<;>rfl):p:=w
def Ú {p:Prop}(w:p:=by cases e):p:=w
def Û {p:Prop}(w:p:=by rw[hf,aT]<;>rfl):p:=w
def Ü {p:Prop}(w:p:=by split<;>omega):p:=w
def Ý {p:Prop}(w:p:=by rw[eD.size];exact hr.top):p:=w
def Þ {p:Prop}(w:p:=by simp only[execOp,Sem.run_bind,eb,ey,af,Result.andThen_ok];rfl):p:=w
def ß {p:Prop}(w:p:=by exact dW):p:=w
def à {p:Prop}(w:p:=by exact df):p:=w
def á {p:Prop}(w:p:=by rw[cQ 8 (by decide),iv]<;>rfl):p:=w
def â {p:Prop}(w:p:=by unfold XJ at *;rw[<-h,Qpw (a:=b.1.bits),Qpw (a:=b.1.text)]):p:=w
def ã {p:Prop}(w:p:=by simp[h4]):p:=w
def ä {p:Prop}(w:p:=by rw[Qd w]):p:=w
def å {p:Prop}(w:p:=by have:=hc.ci.nd;omega):p:=w
def æ {p:Prop}(w:p:=by have:=hv.ns;simp only[maxLen];omega):p:=w
def ç {p:Prop}(w:p:=by rw[Qo2];omega):p:=w
def è {p:Prop}(w:p:=by rw[hl];simp):p:=w
def é {p:Prop}(w:p:=by rw[ZL (by rw[hf];simp)];rfl):p:=w
def ê {p:Prop}(w:p:=by exact dy):p:=w
def ë {p:Prop}(w:p:=by rw[QG (by omega)];exact hz):p:=w
def ì {p:Prop}(w:p:=by simp[h1]):p:=w
def í {p:Prop}(w:p:=by simp[h5]):p:=w
def î {p:Prop}(w:p:=by simp only[Qol,Q9,QnI,Qpz,Int.natCast_one,Qa,seval]):p:=w
def ï {p:Prop}(w:p:=by simpa using bJ):p:=w
def ð {p:Prop}(w:p:=by simp only[QnJ,Qod,C.av,Qa,seval]):p:=w
def ñ {p:Prop}(w:p:=by simp only[QnA,Qa,seval]):p:=w
def ò {p:Prop}(w:p:=by rw[hb];rfl):p:=w
def ó {p:Prop}(w:p:=by rw[QD];simp only[Qo2,ne_eq];omega):p:=w
def ô {p:Prop}(w:p:=by simpa using aa):p:=w
def õ {p:Prop}(w:p:=by simp[hx]):p:=w
def ö {p:Prop}(w:p:=by exact bI):p:=w
def ø {p:Prop}(w:p:=by exact mS):p:=w
def ù {p:Prop}(w:p:=by simpa using Qpd hf):p:=w
def ú {p:Prop}(w:p:=by rw[Int.tdiv_eq_ediv_of_nonneg (by omega)];omega):p:=w
def û {p:Prop}(w:p:=by rw[Int.tmod_eq_emod_of_nonneg (by omega)];omega):p:=w
def ü {p:Prop}(w:p:=by simpa using Qno.1 h x (by simp)):p:=w
def ý {p:Prop}(w:p:=by rw[QnS];omega):p:=w
def þ {p:Prop}(w:p:=by simp[IntKind.wrap,IntKind.bits,IntKind.signed]):p:=w
def ÿ {p:Prop}(w:p:=by rw[body];simp only[aK];rw[Qni (by omega)];simp):p:=w
def Ā {p:Prop}(w:p:=by rw[hm 1 (by decide),m10]<;>rfl):p:=w
def ā {p:Prop}(w:p:=by simpa using ht):p:=w
def Ă {p:Prop}(w:p:=by rw[Jl];omega):p:=w
def ă {p:Prop}(w:p:=by rw[QZ];omega):p:=w
def Ą {p:Prop}(w:p:=by rw[Ct hi];simp only[h3,<-Qpz,Qm7,Qa,seval]):p:=w
def ą {p:Prop}(w:p:=by rw[Qn6]):p:=w
def Ć {p:Prop}(w:p:=by rw[<-h0]<;>rfl):p:=w
def ć {p:Prop}(w:p:=by simp only;omega):p:=w
def Ĉ {p:Prop}(w:p:=by rw[cQ 6 (by decide),cV]<;>rfl):p:=w
def ĉ {p:Prop}(w:p:=by unfold PT at *;omega):p:=w
def Ċ {p:Prop}(w:p:=by show((QC 10 0 []).cnt:Int)+_<=_;rw[Q5];omega):p:=w
def ċ {p:Prop}(w:p:=by rw[Jo];rfl):p:=w
def Č {p:Prop}(w:p:=by exact m1):p:=w
def č {p:Prop}(w:p:=by rw[iX];exact cE _ (by rw[dM];exact Qm8 _)):p:=w
def Ď {p:Prop}(w:p:=by unfold C.left;omega):p:=w
def ď {p:Prop}(w:p:=by simp only[QnP,Qnq,Qn7,eI,fB,maxLen];omega):p:=w
def Đ {p:Prop}(w:p:=by intro k y hk hy;rw[QoB hk]at hy;cases hy):p:=w
def đ {p:Prop}(w:p:=by rw[ar];simp):p:=w
def Ē {p:Prop}(w:p:=by obtain⟨rfl,rfl⟩:=hx;exact h):p:=w
def ē {p:Prop}(w:p:=by simp[hu]):p:=w
def Ĕ {p:Prop}(w:p:=by simp only[eE,seval]<;>rfl):p:=w
def ĕ {p:Prop}(w:p:=by rw[<-hK];simp):p:=w
def Ė {p:Prop}(w:p:=by rw[aV];exact(by exact m7)):p:=w
def ė {p:Prop}(w:p:=by rw[aV];exact(by exact mS)):p:=w
def Ę {p:Prop}(w:p:=by rw[Qof];exact z):p:=w
def ę {p:Prop}(w:p:=by simpa using hi):p:=w
def Ě {p:Prop}(w:p:=by simp[h2]):p:=w
def ě {p:Prop}(w:p:=by rw[hf,ig]<;>rfl):p:=w
def Ĝ {p:Prop}(w:p:=by rw[hf,dQ]<;>rfl):p:=w
def ĝ {p:Prop}(w:p:=by rw[hf,di]<;>rfl):p:=w
def Ğ {p:Prop}(w:p:=by rw[hf,du]<;>rfl):p:=w
def ğ {p:Prop}(w:p:=by rw[hx,QnO (by omega)];rfl):p:=w
def Ġ {p:Prop}(w:p:=by rw[Qd];rfl):p:=w
def ġ {p:Prop}(w:p:=by cases a<;>cases b<;>rfl):p:=w
def Ģ {p:Prop}(w:p:=by simpa using hm):p:=w
def ģ {p:Prop}(w:p:=by exact gl):p:=w
def Ĥ {p:Prop}(w:p:=by rw[h4];dsimp only;omega):p:=w
def ĥ {p:Prop}(w:p:=by rw[h3];dsimp only;omega):p:=w
def Ħ {p:Prop}(w:p:=by rw[Jn];rfl):p:=w
def ħ {p:Prop}(w:p:=by simpa [aK]using h2):p:=w
def Ĩ {p:Prop}(w:p:=by simpa using w2):p:=w
def ĩ {p:Prop}(w:p:=by simp only[Qnf]at *;omega):p:=w
def Ī {p:Prop}(w:p:=by simp only[Qpf]at *;omega):p:=w
def ī {p:Prop}(w:p:=by simp only[QnP]):p:=w
def Ĭ {p:Prop}(w:p:=by simp[Kh,Ql]):p:=w
def ĭ {p:Prop}(w:p:=by simp[hi]):p:=w
def Į {p:Prop}(w:p:=by exact h13):p:=w
def į {p:Prop}(w:p:=by simp only[QnI,Qa,seval]):p:=w
def İ {p:Prop}(w:p:=by simp only[f10,Qa,seval]):p:=w
def ı {p:Prop}(w:p:=by simp only[f14,Qa,seval]):p:=w
def Ĳ {p:Prop}(w:p:=by rw[Qd v]):p:=w
def ĳ {p:Prop}(w:p:=by simp[hg]):p:=w
def Ĵ {p:Prop}(w:p:=by rw[ar];rfl):p:=w
def ĵ {p:Prop}(w:p:=by rw[QnE];omega):p:=w
def Ķ {p:Prop}(w:p:=by simp[Op.bytesLess]at h):p:=w
def ķ {p:Prop}(w:p:=by simp only[f6,Qa,seval]):p:=w
def ĸ {p:Prop}(w:p:=by show(0:Nat)<_;decide):p:=w
def Ĺ {p:Prop}(w:p:=by simp[h]):p:=w
def ĺ {p:Prop}(w:p:=by simp[Qy]):p:=w
def Ļ {p:Prop}(w:p:=by simp[hc]):p:=w
def ļ {p:Prop}(w:p:=by apply Array.ext';simp):p:=w
def Ľ {p:Prop}(w:p:=by rw[Qng]at hp;simp[hp]):p:=w
def ľ {p:Prop}(w:p:=by exact fV):p:=w
def Ŀ {p:Prop}(w:p:=by exact m5):p:=w
def ŀ {p:Prop}(w:p:=by rw[Qn6];exact Qm8 _):p:=w
def Ł {p:Prop}(w:p:=by exact gT):p:=w
def ł {p:Prop}(w:p:=by exact i4):p:=w
def Ń {p:Prop}(w:p:=by exact iq):p:=w
def ń {p:Prop}(w:p:=by rw[hc];rfl):p:=w
def Ņ {p:Prop}(w:p:=by simpa using hc):p:=w
def ņ {p:Prop}(w:p:=by rw[hf,fy]<;>rfl):p:=w
def Ň {p:Prop}(w:p:=by rw[hf,dm]<;>rfl):p:=w
def ň {p:Prop}(w:p:=by rw[Qo4,hi];simp):p:=w
def ŉ {p:Prop}(w:p:=by rw[hf,eV]<;>rfl):p:=w
def Ŋ {p:Prop}(w:p:=by unfold PT;omega):p:=w
def ŋ {p:Prop}(w:p:=by simp[hz]):p:=w
def Ō {p:Prop}(w:p:=by rw[e2];simp):p:=w
def ō {p:Prop}(w:p:=by simp[hq]):p:=w
def Ŏ {p:Prop}(w:p:=by exact m7):p:=w
def ŏ {p:Prop}(w:p:=by simp[h9]):p:=w
def Ő {p:Prop}(w:p:=by simp[a1]):p:=w
def ő {p:Prop}(w:p:=by simp[hw]):p:=w
def z7 {p:Prop}(w:p:=by
 refine Tl (n:=n) P hP l s m hm ab hM ak g o ho h5 v z d _ i.left.toNat (QC o.key 0 [],QC o.kind 0 []) false false i _ _ ⟨ω,ω,ω,ω,ω,ω,ω,ω,ω,ω,ω,ω,ω,ω,ω,ω,ω,ω,ω⟩ cU ψ ψ ψ rfl (λ_=>rfl) (λ_=>rfl) _ (λf fr x a b c' i8 fp jE eQ=>?_) (λf fr e c' h8 m8 h9 eQ he=>?_)
 ·obtain⟨h0,fV,h6,h7,h8,h12,eW,dZ,dy,dW,m5,m6,m7,m8,m12,m14,m17,m22,m145⟩:=i8;have iI:=rU _ _ eQ;rw[eQ];dsimp only;simp only[PG.cells]at m5;simp only[vc]at m6 m12;simp only[PO.cells]at m7;simp only[JY]at m8;simp only[W8]at m14;simp only[kc,Qnx,Qny]at m17;simp only[Xs,h0,eW,m14,JZ,eE,seval];refine QT (Ea P c' (l+1) s _ Ï d) ð ?_;rintro x1 m1 ⟨rfl,rfl⟩ _;simp only[h12,dZ,m12,m17,pp,Qn6,eE,seval];have qs:=λ(b:Bool) (k:Int) (y:V) (h:b=false->y=QC k 0 [])=>QoV (Y7 (b:=b) (l:=y.list.map V.av) (λe=>by rw[h e];rfl)) (QoV (Y7 (b:=b) (l:=y.pairs.map V.pav) (λe=>by rw[h e];rfl)) (QoV (Y7 (b:=b) (l:=y.slots.map V.sav) (λe=>by rw[h e];rfl)) (Y7 (b:=b) (l:=y.raws.map R.av) (λe=>by rw[h e];rfl))))
  obtain⟨p1,p2,p3,p4⟩:=qs a _ _ fp;obtain⟨q1,q2,q3,q4⟩:=qs b _ _ jE;refine QV (y:=kc a x.1++kc b x.2) (l:=[V.pav x]) ġ ġ ġ (by simp only[kc,Qnx,Qny,QnJ,Qod,p1,p2,p3,p4,q1,q2,q3,q4];rw[Jn x];rfl) ?_;refine Hf (xs:=z.pairs.map V.pav) (ys:=[V.pav x]) rfl rfl ό (J8 z.pairs) (J8 [x]) Δ Ϗ (by exact m145) ?_;have mT:∀y:V,y.ok M->y.bits<18446744073709551616:=λy hy=>by
   have:=hy.bits;simp[Lit.wf,IntKind.min,IntKind.max,IntKind.bits,IntKind.signed]at this;omega
  have ms:KF P o.key z.pairs:=λp hp=>⟨lW.1 p hp,mT _ (fI.keys p hp)⟩
  have pc:=Qc6 (P:=P) dF (z.pairs++[x]) Ϗ (λp hp=>by
   rcases Qow.1 hp with h|h
   ·exact(ms p h).1
   ·rw[Qpp]at h;subst h;exact iI.one) (λp hp=>by
   rcases Qow.1 hp with h|h
   ·exact(ms p h).2
   ·rw[Qpp]at h;subst h;exact mT _ iI.ky)
  rw[Tj ms ⟨iI.one,mT _ iI.ky⟩ lW.2,Qo3]at pc;have hk:List.take (z.pairs.length+1) (z.pairs.map V.pav++[V.pav x])=z.pairs.map V.pav++[V.pav x]:=QnL ό;have ay:=aw (Jp (Zx o.key z.pairs x));rw[show(Jp (Zx o.key z.pairs x)).av=.agg [.int .i64 12,.int .u64 0,.str [],.list [],.list ((Zx o.key z.pairs x).map V.pav),.list [],.list []]from Qd _]at ay;generalize X6 g v o (Jp (Zx o.key z.pairs x))=w at ay |-;rw[Qd w]at ay;simp only[Qn6,Qnq,Qn7,Qa,seval];refine Fl (site:=145) (g:=_) (sz:=14) (n:=z.pairs.length+1) (xs:=z.pairs.map V.pav++[V.pav x]) ϒ ϋ ό ?_;rw[hk];simp only[fV,h6,h7,m5,m6,m7,eE,seval];refine aC pc ?_;simp only[eE,seval];refine aC ay ?_;simp only[h8,m8,QZ,eE,seval];exact⟨ä,rfl⟩
 ·rw[eQ];dsimp only;simp only[vc]at m8;simp only[h8,m8,h9,QZ,eE,seval];exact⟨he,v,c',Ĳ,rfl⟩):p:=w
def z8 {p:Prop}(w:p:=by refine QV (l:=[V.sav (x.1,z)]) rfl rfl rfl ċ ?_;refine QP (site:=1100) (g:=gs) (n:=(K i).length) (xs:=(K i).map V.sav) (ys:=[V.sav (x.1,z)]) ω ø rfl ą rfl (Yt [(x.1,z)]) ϔ Ϙ ?_;simp only[h7,kz,m7,e1,eE,seval];exact fin _ _ (gs+1) ϕ ϖ Ϝ Ϫ (by exact fK) (by exact kF) ω ϲ Ö (by rw[aV,QnP];exact ω) (by rw[aV,Qo3];exact ω) Β (HI rfl rfl rfl)):p:=w
def z9 {p:Prop}(w:p:=by
 all_goals
  constructor
  ·intro hh
   first
    |cases hh
    |(refine⟨ψ,?_⟩;first|exact hh|(refine⟨ψ,?_⟩;first|exact hh|(refine⟨ψ,?_⟩;exact hh))|exact⟨by assumption,hh⟩)
  ·intro hh
   first
    |exact hh.2.2.2
    |exact hh.2.2
    |(exfalso;omega)
    |(exfalso;simp_all;done)):p:=w
def za {p:Prop}(w:p:=by
 cases op<;>simp only[Zo,Qnu,Qnz,Qne]at hc;rename_i t y ol oh om;obtain⟨⟨⟨⟨⟨h1,h2⟩,h3⟩,h4⟩,h5⟩,h6⟩:=hc;have r1:=Qx h h2;have ht:TT P t sz:=by
  cases sz with
  |none=>exact K4 h1
  |some z=>
   simp only at h1;split at h1
   ·rename_i e hu;simp only[Qob]at h1;obtain⟨i,hi,hz⟩:=h1;exact⟨e,i,hu,hi,by simpa using hz⟩
   ·cases h1
 simp only[Qz]at hx;split at hx
 ·rename_i n b1 e1 e2;split at hx
  ·rename_i b2 e3;cases mx with
   |none=>
    simp only at hx;have cI:om=none:=by cases om<;>simp[YB]at h5 |-
    subst cI;obtain⟨v,h7,h8⟩:=U9 (P:=P) h e1 hx r1 ht (WC h h3 e2) (WC h h4 e3) (m:=none) (show MxV none none from rfl) (λe=>Ú);exact⟨v,by simp only[execOp,Sem.run_bind,Option.map_none,h7];rfl,h8⟩
   |some rm=>
    simp only at hx;split at hx
    ·rename_i c bN;have pU:om.isSome=true:=by cases om<;>simp[YB]at h5 |-
     obtain⟨v,h7,h8⟩:=U9 (P:=P) h e1 hx r1 ht (WC h h3 e2) (WC h h4 e3) (m:=om.map a.eval) ⟨by simpa using pU,WC h h5 bN⟩ (λ_=>by
      rcases h6 with h6|h6
      ·cases om<;>simp at h6 pU
      ·simpa using h6)
     exact⟨v,by simp only[execOp,Sem.run_bind,h7];rfl,h8⟩
    ·cases hx
  ·cases hx
 ·cases hx):p:=w
def zb {p:Prop}(w:p:=by
 refine aC iL ?_;by_cases hw:wr=wk o.kind
 case neg=>
  have b7:(wr != wk o.kind)=true:=ő
  rw[Qni hw];simp only[b7,eE,seval];exact⟨ϊ,v,c,by rw[Qd v];rfl,(put_self hm hs).symm⟩
 have b7:(wr != wk o.kind)=false:=ő
 rw[Qnj hw];simp only[b7,W7,eE,seval];by_cases am:o.kind=10
 ·have eU:(o.kind==10)=true:=by simp[am]
  rw[Qnj am];simp only[eU,eE,seval];refine QT (aq _ am h5) ϑ ?_;intro x m1 hx _;cases hr:JL rec g v o c with
  |error e=>
   rw[hr]at hx;obtain⟨he,y,c',rfl,rfl⟩:=hx;simp only[Qd y,QZ,eE,seval];exact⟨he,y,c',by rw[Qd y],rfl⟩
  |ok p=>
   obtain⟨w,d⟩:=p;rw[hr]at hx;obtain⟨rfl,rfl⟩:=hx;simp only[Qd w,QZ,eE,seval];exact⟨ä,rfl⟩
 ·have eU:(o.kind==10)=false:=by simp[am]
  rw[Qni am];simp only[eU,eE,seval];refine QT (cH _) ϑ ?_;intro x m1 hx _;cases hr:ZY P g v o c with
  |error e=>
   rw[hr]at hx;obtain⟨he,y,c',rfl,rfl⟩:=hx;simp only[Qd y,QZ,eE,seval];exact⟨he,y,c',by rw[Qd y],rfl⟩
  |ok p=>
   obtain⟨w,d⟩:=p;rw[hr]at hx;obtain⟨rfl,rfl⟩:=hx;simp only[Qd w,QZ,eE,seval];exact⟨ä,rfl⟩):p:=w
def zd {p:Prop}(w:p:=by refine QV (l:=[V.sav y]) rfl rfl rfl ċ ?_;refine QP (site:=1100) (g:=n) (n:=(K i).length) (xs:=(K i).map V.sav) (ys:=[V.sav y]) ω ø rfl ą rfl (Yt [y]) ϔ Ϙ ?_;simp only[h9,bI,m9,e1,eE,seval];exact keep iu _ _ Ϡ Ϝ Ϫ ϣ Ε ê ß ω Î Â Ł à ω ω (GJ rfl rfl)):p:=w
def ze {p:Prop}(w:p:=by simp only[h7,h9,m7,m9,eE,seval];refine QV (l:=[V.sav (o.num,z)]) rfl rfl rfl ċ ?_;refine QP (site:=1100) (g:=gs) (n:=(L k).length) (xs:=(L k).map V.sav) (ys:=[V.sav (o.num,z)]) ω ø rfl ą rfl (Yt [(o.num,z)]) ϔ Ϙ ?_;simp only[h7,dL,m7,e1,eE,seval];exact fin _ _ (gs+1) ϕ ϖ Ϛ Ϝ Ϫ ϣ Ε ω ϲ Ζ Ö (by rw[aV,QnP];exact ω) (by exact kC) (by rw[aV,Qo3];exact ω) (D1 rfl)):p:=w
def zf {p:Prop}(w:p:=by rw[hr]at hx;obtain⟨he,y,c',rfl,rfl⟩:=hx;simp only[Qd y,QZ,eE,seval];exact⟨he,y,c',by rw[Qd y],rfl⟩):p:=w
def zg {p:Prop}(w:p:=by rw[hz,Qni ό,Qof]at aV;simp only[kz,e1,Qa,seval];exact fin _ _ gs ϕ ϖ Ϝ Ϫ (by exact fK) (by exact kF) ω ϲ Ö Ė ė Β (HI rfl rfl rfl)):p:=w
def zh {p:Prop}(w:p:=by
 refine RepL.of_all (by simp[Zj]) λj x v hx hv=>?_
 simp only[Zj,QoA]at hx;simp only[Array.toList_map,Array.toList_range,QoA]at hv;by_cases hj:j<n*i.size
 ·rw[List.getElem?_range hj]at hx hv;simp only[QnB,QnC]at hx hv;have hm:j % i.size<i.size:=Nat.mod_lt _ ψ;obtain⟨u,kO,lN⟩:=rz.at_ (i:=j % i.size) (Qnb ψ);rw[Qnb ψ]at hx;simp only[Qon]at hx;subst hx;rw[fO]at hv;rw[QnF]at kO;rw[Array.getElem!_eq_getD,Qnl,kO]at hv;simp only[Qon]at hv;subst hv;exact lN
 ·rw[QoB Ϗ]at hx;cases hx):p:=w
def zi {p:Prop}(w:p:=by
 refine Qh (aM _ ϲ ω) (by simp only[QnJ,Qod,h3,Qa,seval]<;>rfl) ?_;cases hp:(L.take i).any λy=>nm y==nm x
 ·rw[hp]at ah;simp only[h9,e1,Qa,seval];exact⟨L.length-(i+1),ψ,_,_,i+1,rfl,rfl,ah,ϗ,ϖ,Ϫ,ϣ,ω,ϲ,ϛ⟩
 ·rw[hp]at ah;have hf:UJ L nm=false:=by
   rw[Qpa];intro h';rw[Q7.2 λk hk=>Q7.1 h' k ψ]at ah;cases ah
  simp only[hf,Qok,Qa,seval]):p:=w
def zj {p:Prop}(w:p:=by simp only[h13,e1,Qa,seval];exact fin _ _ (h+1) ϖ ω Ø Γ ω Β ω ϛ):p:=w
def zm {p:Prop}(w:p:=by refine QV (l:=[V.pav x]) rfl rfl rfl Ħ ?_;refine QP (site:=4) (g:=h) (n:=(Wt T i).length) (xs:=(Wt T i).map V.pav) (ys:=[V.pav x]) ω Φ rfl dA.symm rfl (J8 [x]) ϔ Ϙ ?_;simp only[h13,e1,Qa,seval];exact keep ay _ _ (h+1) ϖ ω Ø Γ ω Β ω ϛ):p:=w
def zp {p:Prop}(w:p:=by
 simp only[MU,Qa,seval];refine Jt rfl ?_;simp only[Qa,seval];refine QP (site:=5) (g:=1) (xs:=[]) (ys:=xs) rfl rfl rfl rfl rfl h Δ Ϗ ?_;simp only[Qa,seval];refine ZC (l:=0) (site:=5) (g:=2) (o:=0) (n:=xs.length) (q:=false) (sz:=7) (xs:=xs) ñ ϋ ό ϊ hr ?_;simp only[eH,Vt,eE,seval]
 try simp[AV.still,AV.un,ZO,XZ]):p:=w
def zq {p:Prop}(w:p:=by
 simp only[Aq,Qa,seval];refine Jt rfl ?_;simp only[Qa,seval];refine QP (site:=5) (g:=1) (xs:=[]) (ys:=xs) rfl rfl rfl rfl rfl h Δ Ϗ ?_;simp only[Qa,seval];refine ZC (l:=0) (site:=5) (g:=2) (o:=0) (n:=xs.length) (q:=false) (sz:=4) (xs:=xs) ñ ϋ ό ϊ hr ?_;simp only[eH,SA,eE,seval]
 try simp[AV.still,AV.un,ZO,XZ]):p:=w
def zt {p:Prop}(w:p:=by
 simp only[C6,Qa,seval];refine Jt rfl ?_;simp only[Qa,seval];refine QP (site:=5) (g:=1) (xs:=[]) (ys:=xs) rfl rfl rfl rfl rfl h Δ Ϗ ?_;simp only[Qa,seval];refine ZC (l:=0) (site:=5) (g:=2) (o:=0) (n:=xs.length) (q:=false) (sz:=8) (xs:=xs) ñ ϋ ό ϊ hr ?_;simp only[eH,MP,eE,seval]
 try simp[AV.still,AV.un,ZO,XZ]):p:=w
def zu {p:Prop}(w:p:=by
 refine go _ ?_ ?_ ?_ ?_ ?_ ?_ ?_
 ·simp only[f0,Qa,seval]
 ·simp only[f1,Qa,seval]
 ·simp only[f3,Qa,seval]
 ·simp only[f4,Qa,seval]
 ·simp only[f18,Qa,seval]
 ·simp only[f20,Qa,seval]
 ·simp only[Qa,seval]):p:=w
def zw {p:Prop}(w:p:=by unfold Oper.wp;rw[af];have aY:o.dst=d:=hd;show K (a.put o.dst _) _;rw[aY];refine hK _ _ _ _ h (aH.put aW (.ptr ?_)) he;show(if (0:Nat)=0/\s=s then some w.heap.size else G.nm 0 s)=some w.heap.size;simp):p:=w
def zx {p:Prop}(w:p:=by
 cases a1:decide ((l.length:Int) > 0)<;>try simp only[dS,Qo1,Qo0,eE,seval]
 all_goals(cases a2:decide ((p.length:Int) > 0)<;>try simp only[dN,Qo1,Qo0,w,eE,seval])
 all_goals(cases a3:decide (((s.length+r.length:Nat):Int) > 0)<;>try simp only[Qo1,Qo0,eE,seval])
 all_goals(cases a4:((b:Int)==0)<;>try simp only[a4,n4,Qok,QoX,QX,eE,seval])
 all_goals(cases a5:(t==[])<;>try simp only[Qok,QoX,Qa,seval])):p:=w
def zy {p:Prop}(w:p:=by refine⟨XG ?_ ϊ (Qnk _),XG bf ϊ (Qnk _),GT dF,λhn e=>Xq hn⟩;unfold XS at dF;exact Z1 ψ ψ):p:=w
def zz {p:Prop}(w:p:=by
 simp only[Qa,seval];by_cases h1:a<b
 ·have d1:decide (a<b)=true:=Ϭ
  simp only[d1,cN,Qnj h1,Qa,seval]
 ·have d1:decide (a<b)=false:=Ϭ
  by_cases h2:b<a
  ·have d2:decide (a > b)=true:=ϭ
   simp only[d1,d2,cN,Qni h1,Qnj h2,Qa,seval]
  ·have d2:decide (a > b)=false:=ϭ
   simp only[d1,d2,cN,Qni h1,Qni h2,Qa,seval]):p:=w
def zA {p:Prop}(w:p:=by rw[hr]at hx;obtain⟨he,y,c',rfl,rfl⟩:=hx;dsimp only;simp only[Xj he,Qd y,QZ,eE,seval];exact⟨he,v,c',Ĳ,rfl⟩):p:=w
def zB {p:Prop}(w:p:=by exact⟨_,by simp only[run_underlying hu,Result.andThen_ok];rfl,.int _ _⟩):p:=w
def zC {p:Prop}(w:p:=by
 have e2:(Qo.map λ(x:Nat×Operand)=>(x.1,a.eval x.2)).toList=Qo.toList.map λx=>(x.1,a.eval x.2):=ό
 simp only[execOp,ho,Instr.buildSlice,Sem.run_bind,run_underlying hu,Result.andThen_ok,X7 hi];rw[Qni ψ,Qni aq];simp only[Sem.run_bind,Sem.run_pure,Result.andThen_ok,zeroValue,typeInfo,run_program,hi,cm,e2,j6,newRow,run_newObj];rfl):p:=w
def zD {p:Prop}(w:p:=by
 rw[Qnj (hB.1 bJ)];subst bJ;simp only[hd,Qa,seval]
 try rfl):p:=w
def zE {p:Prop}(w:p:=by try simp[AV.still,AV.un,ZO,XZ]):p:=w
def zF {p:Prop}(w:p:=by exact .list (sz:=0) (cs:=[]) .nil ό rfl rfl ό rfl (Qm8 _) (Qnk _)):p:=w
def zG {p:Prop}(w:p:=by rw[QnL ψ,QnL ψ]at ht;simp only[QM aa,Qa,seval];exact q _ Υ ϖ ht):p:=w
def zH {p:Prop}(w:p:=by
 refine go _ ?_ ?_ ?_ ?_ ?_
 ·simp only[f0,Qa,seval]
 ·simp only[f3,Qa,seval]
 ·simp only[f4,Qa,seval]
 ·simp only[f18,Qa,seval]
 ·simp only[f24,Qa,seval]):p:=w
def zI {p:Prop}(w:p:=by
 by_cases hh:l'=l/\s'=s
 ·obtain⟨rfl,rfl⟩:=hh;rw[Qt (Xy Ο)]at e;cases e
 ·rw[QG ψ]at e;obtain⟨a1,a2,a3,a4⟩:=h.vec l' s' g sz zs e;refine⟨a1,a2,a3,a4.imp id λ⟨b',e',r⟩=>⟨b',e',r.of (ht.heap b' ?_) λ_ h=>h⟩⟩;rintro rfl;exact h.inj3 _ _ _ _ _ hb e'):p:=w
def zJ {p:Prop}(w:p:=by cases op<;>simp only[Zo,Qnu,Qnz,Qng]at hc;rename_i t y;obtain⟨v,h1,h2⟩:=UH (P:=P) h dG (Qx h hc.2) hc.1;exact⟨v,by simp[execOp,h1],h2⟩):p:=w
def zK {p:Prop}(w:p:=by
 refine Qh lx É ?_;simp only[e1,am,Qa,seval];refine fin _ _ _ ?_ ?_ ?_ ?_ ?_ (Y3 _ _ _) ?_
 ·simp only[h3,Qa,seval]
 ·simp only[h8,Qa,seval]
 ·simp only[h9,Qa,seval]
 ·simp only[Qa,seval]
 ·rw[UY ϊ ϊ,w5]<;>rfl
 ·rw[hp,dM,Qnw]):p:=w
def zL {p:Prop}(w:p:=by simp only[QoJ,Qok,Qa,seval]):p:=w
def zM {p:Prop}(w:p:=by simp only[Qok,QoJ,Qa,seval]):p:=w
def zN {p:Prop}(w:p:=by simp only[QM a_,ZN hj a_,e1,Qa,seval];exact Ac.go hk aa rfl (by rw[X0 hx];exact(QnW ..).symm)):p:=w
def zO {p:Prop}(w:p:=by simp only[Qok,Qa,seval]):p:=w
def zP {p:Prop}(w:p:=by all_goals(cases a5:(t==[])<;>try simp only[Qok,QoX,Qa,seval])):p:=w
def zQ {p:Prop}(w:p:=by
 rcases YH p l 0 with⟨h1,h2⟩|⟨k,o,h1,_,h3⟩
 ·rw[h1];have:l.any p=false:=by
   rw[List.any_eq_false];intro x hx;exactλh=>by have:=Qpb.1 h2 x hx;exact this h
  rw[this];rfl
 ·rw[h1];have:l.any p=true:=QoU.2 ⟨o,Qpc h3,Qpd h3⟩;rw[this];exact Qpe ψ):p:=w
def zR {p:Prop}(w:p:=by simp only[QE a_,e2,cond_true,cond_false,Qa,seval];exact Ac.go hj a_ rfl ń):p:=w
def zS {p:Prop}(w:p:=by
 exact next _ _ aL ⟨ϖ,Ϛ,ê,ß,ω,(by exact ic),Ζ⟩ (by
  intro s hs;simp only[Qoz,Qpu,or_false]at hs;rcases hs with rfl|rfl|rfl
  ·show(fr 12).isRow=false;rw[dK];rfl
  ·rfl
  ·rfl)):p:=w
def zT {p:Prop}(w:p:=by
 all_goals(cases t1:(w.wire==3)<;>try simp only[QoJ,QoW,Qo1,h5,eE,seval])
 all_goals(cases t2:decide ((w.data.length:Int) > 4096)<;>try simp only[Au,Qo1,Qo0,h5,eE,seval])
 all_goals(cases t3:decide ((w.data.length:Int) > 65536)<;>try simp only[MO,Qnu,Qa,seval])):p:=w
def zU {p:Prop}(w:p:=by exact hQ _ Ϛ Ϫ Ε ω):p:=w
def zV {p:Prop}(w:p:=by exact⟨s.length-(i+1),ψ,_,_,i+1,rfl,rfl,ψ,by rw[ah,hp],ϗ,Ϫ,ω⟩):p:=w
def zW {p:Prop}(w:p:=by simp only[ia,oG,dy,m9,e2,eE,seval];exact gk _ _ _ rfl ϕ Č ϖ ϲ ω Γ Į ϛ (by exact fM) (by exact dZ) ω):p:=w
def zX {p:Prop}(w:p:=by
 unfold ZV at h |-;split at h
 ·rename_i h1;exact absurd h h1
 rename_i h1;rw[Qni h1];have h1:(ZR P N s (QC 10 0 []) (QI L) Qq).2=0:=Ϭ
 split at h
 ·cases h
 rename_i h2;rw[Qni h2];exact key h1):p:=w
def zY {p:Prop}(w:p:=by
 simp only[QaS,Qa,seval];by_cases hc:US v.bits=0
 ·simp only[hc,Xw,hk,decide_true,and_self,splice,QnK,Qol,QnN,QnT,Qnx,Qny,Qnq,Qn7,eE,seval]
  try rfl
 ·simp only[hc,Xw,decide_false,and_false,eE,seval]):p:=w
def zZ {p:Prop}(w:p:=by simp only[iP,e1,Qa,seval];exact fin _ _ mn Ϡ Ϛ Ϝ (by exact nR) (by exact ot) ω Φ Ŀ Â ϛ (by exact g9)):p:=w
def z_ {p:Prop}(w:p:=by refine aC Ew.WZ ?_;simp only[Qa,seval]):p:=w
def yY {p:Prop}(w:p:=by exact fin _ _ dB Υ ϖ Ϡ Ϛ Ϝ Ø (by exact uk) (by exact sE) ω Ŀ Â (by exact oY) (GJ rfl rfl)):p:=w
def yZ {p:Prop}(w:p:=by exact⟨n.slots.length-(i+1),ψ,_,_,i+1,rfl,rfl,ψ,⟨Ϛ,Ø,(by exact gL),(by exact fM),Ζ,(by exact mG),(by exact nE)⟩,ω,Ep rfl rfl⟩):p:=w
def ge {p:Prop}(w:p:=by exact Ac.go hj a_ rfl ń):p:=w
def gt {p:Prop}(w:p:=by exact⟨xs.length-2*b,ψ,_,2*b,i+1,rfl,rfl,ψ,ψ,by rw[lj];omega,ϙ,ϩ,ϥ,ϋ⟩):p:=w
def Z_ {p:Prop}(w:p:=by refine Wn (fa:=[]) (fb:=[]) ω hy rfl rfl rfl (.inl rfl) ?_;simp only[h3,h6,g3,eE,seval];refine Wn (fa:=[]) (fb:=[]) ω hx rfl rfl rfl (.inl rfl) ?_;simp only[QX,Qa,seval]):p:=w
def Y_ {p:Prop}(w:p:=by
 have b0:(o.kind==10)=true:=Ĺ
 simp only[b0,Qnj h,eE,seval];cases a1:decide (o.target>=0)<;>cases a2:decide (o.target<(P.progs.length:Int))<;>simp only[a2,QoW,QoJ,Qn6,eE,seval]):p:=w
def X_ {p:Prop}(w:p:=by simp only[Xj he,pp,QZ,eE,seval];exact⟨he,v,_,Ĳ,rfl⟩):p:=w
def W_ {p:Prop}(w:p:=by
 obtain⟨t,i,e⟩:=q;dsimp only;simp only[WS,C.av,hs,JJ,LJ,QZ,eE,seval];by_cases he:e=0
 ·subst he;rw[Qnj rfl];exact⟨rfl,rfl⟩
 ·rw[Qni he];exact⟨he,⟨0,w,t,[]⟩,i,rfl,rfl⟩):p:=w
def V_ {p:Prop}(w:p:=by simp only[QE a_,Qs,QoF,Qg,hg,bG,cond_true,cond_false,eE,seval];refine aC (z71 o.name) ?_;simp only[e2,cond_true,cond_false,Qa,seval];exact Ac.go hj a_ rfl (by rw[hc,X0 ho];rfl)):p:=w
def U_ {p:Prop}(w:p:=by unfold Qe;rw[Qnb (by omega:t.toNat<P.progs.length)];exact Qn3 _):p:=w
def T_ {p:Prop}(w:p:=by
 intro s hs;simp only[Qoz,Qpu,or_false]at hs;rcases hs with rfl|rfl
 ·exact h1
 ·exact h2):p:=w
def ST {p:Prop}(w:p:=by simp only[QoJ,Qa,seval]):p:=w
def S_ {p:Prop}(w:p:=by rw[QG ψ]at e;obtain⟨b',cK,e',hc,hr⟩:=h.cells l' s' zs e;exact⟨b',cK,e',hc.of (ht.heap b' (λeb=>hh (by subst eb;exact h.inj1 _ _ _ _ _ e' hb))),hr⟩):p:=w
def R_ {p:Prop}(w:p:=by rw[hr]at hy hR;obtain⟨i_,u,c',rfl,rfl⟩:=hy;simp only[Qd u,Xj i_,h6,h8,dZ,m6,m8,m17,pp,eE,seval];exact he _ _ e c' ϣ ω ω hR.symm i_):p:=w
def P_ {p:Prop}(w:p:=by simp only[QM aa,h4,eE,seval];simp[AV.un,ZO,XZ,m4];rw[QnL ŀ]):p:=w
def O0 {p:Prop}(w:p:=by unfold opn Qq;rw[Qni ό,Qni ϰ]):p:=w
def O1 {p:Prop}(w:p:=by rw[Qnj hk]at hv;rw[Qnj hk,Qnj hk];obtain⟨t0,t1⟩:=ho.tgt hk;refine h _ ?_ _ hv;unfold Qe;rw[Qnb (by omega:o.target.toNat<P.progs.length)];exact Qn3 _):p:=w
def O2 {p:Prop}(w:p:=by intro f t h1 h2 kD f0 f1 f2 f3 f4 f18 f19 f20;rw[Nj,Qnj rfl,Ke];exact fin f t ψ ψ ψ ψ kD f0 f1 f2 f3 f4 f18 f19 f20):p:=w
def O3 {p:Prop}(w:p:=by rw[e]at h hb |-;dsimp only at h hb |-;rw[Qni ϊ,Qnj ω]at h;rw[w,Qni ϊ,Qni ϊ,H4 hc hb h,Qnj rfl]at hr;cases hr;rw[w]):p:=w
def O4 {p:Prop}(w:p:=by rw[ih ϡ];omega):p:=w
def O5 {p:Prop}(w:p:=by intro f' ag h' a3 a4 mV qi q6 b1 b4 b6;exact⟨T.length-(i+1),ψ,f',ag,i+1,g,h',rfl,rfl,ψ,a3,a4,mV,qi,q6,b1,by rw[b4,Qo4,hi];simp,b6⟩):p:=w
def O6 {p:Prop}(w:p:=by
 have h := hk
 simp only [Rows.uptoSmall, Qof, Rows.uptoBulkAll, Qnf] at h
 omega):p:=w
def O7 {p:Prop}(w:p:=by
 simp only[QoX,Qa,seval];refine go gD _ ω ω _ (λf h=>?_) (λf h2 h=>?_)
 ·simp only[hp,h,Qa,seval]
 ·simp only[hp,h,h2,Qa,seval]):p:=w
def O8 {p:Prop}(w:p:=by
 have b1:(o.kind==9)=true:=ŏ
 simp only[b0,b1,Qni h,Qnj h9,eE,seval];cases a1:decide (o.target>=0)<;>simp only[QoW,QoJ,Qn6,eE,seval]):p:=w
def O9 {p:Prop}(w:p:=by simp only[C.mk.injEq,Qn2,and_true];omega):p:=w
def Oa {p:Prop}(w:p:=by
 simp only[Xl]at hx;split at hx
 · rename_i h0;cases hx;exact⟨_,by simp only[binOp,Op.shift];rw[Qni ψ];rfl,.int _ _⟩
 · cases hx):p:=w
def Oc {p:Prop}(w:p:=by cases h1:Qc m l s<;>cases h2:Qc m' l s<;>rw[h1,h2]at h<;>simp_all[Ob.sh]):p:=w
def Od {p:Prop}(w:p:=by exact fin _ (by rw[iB];rfl) ϗ ω):p:=w
def Oe {p:Prop}(w:p:=by exact⟨λh=>⟨ψ,rfl⟩,λh=>by rw[h.1]⟩):p:=w
def Of {p:Prop}(w:p:=by simp only[Zd]at h;cases h1:ZB st.m s<;>rw[h1]at h<;>simp only[cond_true,cond_false,reduceCtorEq,QnC]at h;subst h;exact⟨h1,hK⟩):p:=w
def Og {p:Prop}(w:p:=by cases v;cases w;simp only[V.kd,V.bits,V.text,V.list,V.pairs,V.slots,V.raws]at h1 h2 h3 h4 h5 h6 h7;subst h1 h2 h3 h4 h5 h6 h7;rfl):p:=w
def Oh {p:Prop}(w:p:=by
 by_cases hh:l'=l/\s'=s
 ·obtain⟨rfl,rfl⟩:=hh;exact h.gone l' s' (by rw[hx];rfl)
 ·rw[QG ψ]at e;exact h.gone l' s' e):p:=w
def Oi {p:Prop}(w:p:=by
 have e:i=v.list.length:=ψ
 subst e;rw[QoT,Qc1]at mR;simp only[QM aa,h6,h7,m6,m7,eE,seval];simp[AV.un,AV.unL,ZO,XZ,mR,QnL]):p:=w
def Oj {p:Prop}(w:p:=by
 unfold body;split
 ·rw[Z6];omega
 ·split
  ·have:=(Vp.put_len f.bits).2;omega
  ·have:=(Vp.put_len f.data.length).2;rw[QnP];omega):p:=w
def Ok {p:Prop}(w:p:=by
 intro hl;have i1:=ih λq hq=>hl q ō
 have i2:=P7 (hl f ό);unfold Ky at i1 |-;simp only[QnJ,Qps,Qnq];omega):p:=w
def Ol {p:Prop}(w:p:=by simp only[QnB,QnC]at gA;rw[fO]at gA;rw[QnF]at bQ;rw[Array.getElem!_eq_getD,Qnl,bQ]at gA;simp only[Qon]at gA;exact gA.symm):p:=w
def Om {p:Prop}(w:p:=by simpa only [Qnw]using this):p:=w
def On {p:Prop}(w:p:=by simp only[Qs,QoF,Qg,hg,cond_true,cond_false,eE,seval];refine aC (z70 x.name) ?_;simp only[cond_true,cond_false,Qa,seval]):p:=w
def Oo {p:Prop}(w:p:=by
 simp only[binOp]
 constructor<;>simp[Op.equal,Op.maxDepth,h 9999]):p:=w
def Oq {p:Prop}(w:p:=by simp only[RO.lets,Qne,QnE]at hc;exact .inl (QG ψ).symm):p:=w
def Ot {p:Prop}(w:p:=by simp only[QE aP,Qs,QoF,Qg,hg,bG,i7,wi,e2,cond_true,cond_false,eE,seval];exact Ac.go hi aP rfl (by rw[hc,Yh hz ho];rfl)):p:=w
def Ou {p:Prop}(w:p:=by simp only[QE cW,Qs,QoF,Qg,bG,i7,QX,e3,cond_true,cond_false,eE,seval];exact Ac.go eO cW rfl (by rw[hc,X0 hz];rfl)):p:=w
def Ov {p:Prop}(w:p:=by rename_i h1;cases h;exact h1):p:=w
def Ow {p:Prop}(w:p:=by
 rcases he with he|he
 ·exact he
 ·exact DY ϊ h he):p:=w
def Ox {p:Prop}(w:p:=by
 rcases he with he|he
 ·exact he
 ·exact Fb ϊ h he):p:=w
def Oy {p:Prop}(w:p:=by cases h;exact⟨Af.refl hc,hv,hk,QoC _⟩):p:=w
def Oz {p:Prop}(w:p:=by simp only[execOp,ho,resolve,invoke,builtin,Sem.run_bind,Sem.run_pure,Result.andThen_ok,Qoc,QnJ,Qod,iD,h_,af]):p:=w
def OA {p:Prop}(w:p:=by rw[eQ];dsimp only;simp only[vc]at m8;simp only[h8,m8,h9,QZ,eE,seval];exact⟨he,v',c',by rw[Qd v'],rfl⟩):p:=w
def OB {p:Prop}(w:p:=by
 have hk:k≠b:=by rintro rfl;rw[(h.nm l s k hb).2 o]at e;cases e
 exact K2 (ht.heap k hk) (h.stab k o v e)):p:=w
def OC {p:Prop}(w:p:=by simp only[execOp,ho,resolve,invoke,builtin,Sem.run_bind,Sem.run_pure,Result.andThen_ok,Qoc,QnJ,Qod,af]):p:=w
def OD {p:Prop}(w:p:=by unfold eqGuard;split<;>rfl):p:=w
def OE {p:Prop}(w:p:=by
 rw[hm]at hx;cases hx;cases ok
 ·exact isC_ok h1
 ·exact .tup (.cons (isC_ok h1) (.cons (.bool _) .nil))):p:=w
def OF {p:Prop}(w:p:=by exact⟨_,_,_,_,hc,λw' h=>by simp only[execOp,ho,Sem.run_bind,h,Result.andThen_ok,Sem.run_pure]⟩):p:=w
def OG {p:Prop}(w:p:=by simp only[fill,hr,AV.cells,hl,c_,QnA,hz,Qm8,and_self,if_true,splice,Qol,Qny];rw[QnO ψ,Qof]):p:=w
def OH {p:Prop}(w:p:=by unfold pk at hp;simp only[Qnz,Qne,Qng,Qnf]at hp;omega):p:=w
def OI {p:Prop}(w:p:=by simp only[hu,Qnz,Qng,Qob,QnE]at h1;obtain⟨⟨rfl,j,hj,hz⟩,aq⟩:=h1;exact⟨aq,e,j,hu,hj,hz⟩):p:=w
def OJ {p:Prop}(w:p:=by
 all_goals(simp only[Qng,QnE,bne_eq_false_iff_eq,Qo2,ne_eq]at *)
 all_goals((repeat' split)<;>first|rfl|(exfalso;omega))):p:=w
def OK {p:Prop}(w:p:=by exact fin _ _ ah ϕ Ϝ Ϫ ω Č ϛ):p:=w
def OL {p:Prop}(w:p:=by intro f hf;obtain⟨f1,f2⟩:=QoL.1 hf;have f2:=of_decide_eq_true f2;exact⟨ψ,vr f f1⟩):p:=w
def OM {p:Prop}(w:p:=by
 rw[hg]at hx;cases hx;cases ok
 ·exact Dl hg
 ·exact .tup (.cons (Dl hg) (.cons (.bool _) .nil))):p:=w
def ON {p:Prop}(w:p:=by
 have hb:((m,v).1==n)=false:=Μ
 rw[hb]at h;rw[Qpt Μ];exact ih h):p:=w
def OO {p:Prop}(w:p:=by exact⟨b',e',(ht.heap b' (λeb=>hh (by subst eb;exact h.inj1 _ _ _ _ _ e' hb))).trans hc⟩):p:=w
def OP {p:Prop}(w:p:=by
 rfl
 have b0:((k:Int)==0)=true:=by rw[h0];rfl
 simp only[hA,h,b0,cond_true,cond_false,Qa,seval]):p:=w
def OQ {p:Prop}(w:p:=by rw[<-dU,<-Array.foldl_toList,Array.toList_zipIdx]):p:=w
def OR {p:Prop}(w:p:=by exact⟨ϊ,λ_=>ϊ⟩):p:=w
def OS {p:Prop}(w:p:=by
 simp only[JA]at h;split at h
 ·rename_i iT h1;cases h;exact Bk (Hg hN hT ih) h1 hQ
 ·cases h):p:=w
def OT {p:Prop}(w:p:=by
 rcases Nat.mul_eq_zero.1 (by simpa using aM.symm)with h0|h0
 ·exact h0
 ·exact absurd h0 e_):p:=w
def OU {p:Prop}(w:p:=by
 split at h
 ·cases h;decide
 ·split at h
  ·rename_i h1;cases h;exact Tm ej h1
  ·exact Ry h):p:=w
def OV {p:Prop}(w:p:=by
 have hf:UJ L nm=true:=Q7.2 λk hk=>Q7.1 hx k ψ
 simp only[QM aa,hf,QoX,Qa,seval]):p:=w
def OW {p:Prop}(w:p:=by unfold W9 at h;split at h<;>first|(cases h;done)|(split at h<;>cases h;done)|assumption):p:=w
def OX {p:Prop}(w:p:=by simp only[QE aP,e2,cond_true,cond_false,Qa,seval];exact Ac.go hi aP rfl ń):p:=w
def OY {p:Prop}(w:p:=by simp only[QE cW,e3,cond_true,cond_false,Qa,seval];exact Ac.go eO cW rfl ń):p:=w
def OZ {p:Prop}(w:p:=by have s2:=WY ix;simp only[s2,Qa,seval];exact qr _ ω (UE hi hj λe=>ix Å)):p:=w
def O_ {p:Prop}(w:p:=by simp only[Qo0,Qa,seval]):p:=w
def N_ {p:Prop}(w:p:=by
 rcases Nat.lt_or_ge i 9 with h9|h9
 ·exact h9
 ·exact absurd ⟨ψ,ψ⟩ h1):p:=w
def M_ {p:Prop}(w:p:=by rw[Qnj ψ];simp only[Sem.run_bind,X7 hi,Result.andThen_ok,Za,Sem.run_pure,hj]):p:=w
def LE {p:Prop}(w:p:=by rw[h.2];simp only[Am.put,put_put]):p:=w
def LT {p:Prop}(w:p:=by rw[<-VE a 239 ϊ,<-VE b 191 ϊ,<-VE c 189 ϊ];simp[Ua,hr]):p:=w
def L_ {p:Prop}(w:p:=by rename_i ht;have:=x1 ht;have:=y1 ht;rw[SR];exact⟨λh=>⟨ψ,h⟩,λh=>h.2⟩):p:=w
def K_ {p:Prop}(w:p:=by rw[e1,BG hx ox nx]at hr;dsimp only at hr;rw[Qnj rfl]at hr;cases hr;exact⟨rfl,e3⟩):p:=w
def J_ {p:Prop}(w:p:=by unfold Extern.findNext Extern.find;rw[h1,h2];exact⟨by kernel_rfl,by kernel_rfl⟩):p:=w
def Id {p:Prop}(w:p:=by exact(by decide:(0:Nat)<18446744073709551616)):p:=w
def If {p:Prop}(w:p:=by exact⟨λf k h=>Á,λ_=>ό⟩):p:=w
def In {p:Prop}(w:p:=by rw[hr]at h;exact absurd h (D7 P _ _ _ _ _ hr)):p:=w
def IO {p:Prop}(w:p:=by simp only[d1,Qa,seval];exact q1 (by rw[hx];exact hy) _ _ (by rw[hx];exact ω)):p:=w
def I_ {p:Prop}(w:p:=by refine aC i5 ?_;refine aC hx ?_;simp only[QZ,eE,seval];exact⟨ä,rfl⟩):p:=w
def H_ {p:Prop}(w:p:=by subst hr;simp only[h4,Qa,seval]):p:=w
def G_ {p:Prop}(w:p:=by subst e;rw[QoT,QgT]at mR;simp only[QM aa,h7,mR,eE,seval];simp[AV.un,ZO,XZ,QnL]):p:=w
def Fd {p:Prop}(w:p:=by simp only[e0,Qw,PO.cells,b4,b5,eE,seval];refine aC c1 ?_;simp only[eE,seval]):p:=w
def F_ {p:Prop}(w:p:=by simp only[isk,Qa,seval];cases h:decide (k>=1)<;>simp only[QoW,QoJ,Qa,seval]):p:=w
def E_ {p:Prop}(w:p:=by simp only[QM aP,he,e1,Qa,seval];exact Ac.go hk aa rfl (by rw[hA,X0 hx,QnW])):p:=w
def Do {p:Prop}(w:p:=by cases c<;>first|trivial|exact hc|cases hc):p:=w
def D_ {p:Prop}(w:p:=by simp only[Qnq,Qn7];omega):p:=w
def C_ {p:Prop}(w:p:=by
 intro h
 apply gR
 rw[<-UInt8.toNat_inj];have:c.toNat=46:=ψ
 rw[this];rfl):p:=w
def By {p:Prop}(w:p:=by
 have b0:(v.kd==6)=false:=Α
 simp only[b0,Xw,hk,false_and,eE,seval]):p:=w
def B_ {p:Prop}(w:p:=by simp[Lit.wf,IntKind.min,IntKind.max,IntKind.bits,IntKind.signed]at h;omega):p:=w
def At {p:Prop}(w:p:=by dsimp only;simp only[Xj he,QZ,eE,seval];exact⟨he,v,c',Ĳ,rfl⟩):p:=w
def A_ {p:Prop}(w:p:=by cases h1:Qc m l s<;>cases h2:Qc m' l s<;>rw[h1,h2]at h<;>simp_all[Ob.row]):p:=w
def γ {p:Prop}(w:p:=by refine⟨(t1.1.trans r1.1 hc).trans q1 hc,q2,?_⟩;dsimp only at q3;omega):p:=w
def δ {p:Prop}(w:p:=by
 split at h
 ·cases h
 cases h;exact YP _ _):p:=w
def ε {p:Prop}(w:p:=by simp only[e0,Qw,PO.cells,b,eE,seval];refine aC h2 ?_;simp only[eE,seval]):p:=w
def ζ {p:Prop}(w:p:=by simp only[e0,Qw,PO.cells,b,eE,seval];refine aC h1 ?_;simp only[eE,seval]):p:=w
def η {p:Prop}(w:p:=by
 simp only[hs,YO,avs,splice,QnK,Qol,QnN,QnT,Qny,Qnq,Qn7,eE,seval]
 try rfl):p:=w
def θ {p:Prop}(w:p:=by have:(c.toNat-128)*128 ^ i<=127*128 ^ i:=Qoi _ ψ;rw[Qpi];omega):p:=w
def ι {p:Prop}(w:p:=by simp only[Qg,e,QoF];rw[Qnj ψ,Qnj ⟨trivial,trivial,hi⟩,QnA]):p:=w
def κ {p:Prop}(w:p:=by intro x hx;obtain⟨p,hp,rfl⟩:=Qox.1 hx;exact ezP (h1 p hp) (hb p hp)):p:=w
def μ {p:Prop}(w:p:=by rw[h1]at gD;cases gD;exact⟨rfl,rfl⟩):p:=w
def ν {p:Prop}(w:p:=by
 have hg:QB (fr :: m) 0 site=1:=by unfold QB;rw[e]
 simp only[hg];exact h):p:=w
def ξ {p:Prop}(w:p:=by simp only[hA,h,b0,wj,Qs,QoF,Qg,hg,gS,QX,cond_true,cond_false,eE,seval]):p:=w
def ο {p:Prop}(w:p:=by rw[Qnj aa]at hv;simp only[<-hv,Qcb,Nat.mod_eq_of_lt aa,h5,h6,KW,seval]):p:=w
def π {p:Prop}(w:p:=by exact fin _ n (by rw[Qni a1]) hj ϕ ϖ ω):p:=w
def ρ {p:Prop}(w:p:=by exact he _ _ 9 c ϣ ω ω hR.symm ϊ):p:=w
def ς {p:Prop}(w:p:=by simp only[Zz,Qa,seval];cases h:(k==7)<;>simp only[Qo0,Qo1,Qa,seval]):p:=w
def σ {p:Prop}(w:p:=by all_goals(simp only[*,Qo0,Qph,Qpg]at e;simp only[e])):p:=w
def τ {p:Prop}(w:p:=by simp only[QM aa,ZN hk aa,hn,Qa,seval]):p:=w
def υ {p:Prop}(w:p:=by
 simp only[Qa,seval]
 try rfl):p:=w
def φ {p:Prop}(w:p:=by generalize XA m (p.ev f) (r.ev f).cells=v;cases v<;>simp[mget,Su]):p:=w
def χ {p:Prop}(w:p:=by exact⟨r1,KT hv ho.self fL,KS hk ho.wf r3 ψ,ψ⟩):p:=w
end Go.Proofs.YtmlohboeoeoamaaGreatDoor
namespace Go.Proofs.YtmlohboeoeoamaaGreatDoor
section
def Qm6:=@Nat.eq_of_beq_eq_true
def Qm7:=@Nat.add_assoc
def Qm8:=@Nat.le_refl
def Qm9:=@Nat.le_trans
def Qna:=@List.getElem?_eq_some_iff
def Qnb:=@List.getElem?_eq_getElem
def Qnc:=@Bool.and_eq_true_iff
def Qnd:=@Option.map_eq_some_iff
def Qne:=@Bool.or_eq_true
def Qnf:=@decide_eq_true_eq
def Qng:=@beq_iff_eq
def Qnh:=@Array.getElem?_eq_some_iff
def Qni:=@if_neg
def Qnj:=@if_pos
def Qnk:=@Nat.zero_le
def Qnl:=@Array.getD_eq_getD_getElem?
def Qnm:=@Array.getElem?_setIfInBounds_self
def Qnn:=@List.mem_iff_getElem?
def Qno:=@List.all_eq_true
def Qnp:=@List.mem_of_getElem?
def Qnq:=@List.length_cons
def Qnr:=@List.mem_cons_of_mem
def Qns:=@Array.getElem?_eq_getElem
def Qnt:=@List.mem_cons_self
def Qnu:=@Bool.false_eq_true
def Qnv:=@List.take_succ_eq_append_getElem
def Qnw:=@List.append_assoc
def Qnx:=@List.cons_append
def Qny:=@List.nil_append
def Qnz:=@Bool.and_eq_true
def QnA:=@Nat.zero_add
def QnB:=@Option.map_some
def QnC:=@Option.some.injEq
def QnD:=@Option.isSome_iff_exists
def QnE:=@bne_iff_ne
def QnF:=@Array.getElem?_toList
def QnG:=@List.drop_drop
def QnH:=@Array.length_toList
def QnI:=@Nat.add_zero
def QnJ:=@List.map_cons
def QnK:=@List.take_succ_cons
def QnL:=@List.take_of_length_le
def QnM:=@Nat.add_mul
def QnN:=@List.drop_succ_cons
def QnO:=@List.drop_of_length_le
def QnP:=@List.length_append
def QnQ:=@List.getElem?_take
def QnR:=@List.getElem?_drop
def QnS:=@List.length_drop
def QnT:=@List.drop_zero
def QnU:=@List.drop_eq_getElem_cons
def QnV:=@Nat.le_of_eq
def QnW:=@Bool.and_assoc
def QnX:=@List.mem_flatMap
def QnY:=@List.mem_of_mem_drop
def QnZ:=@List.mem_of_mem_take
def Qn0:=@Nat.eq_zero_or_pos
def Qn1:=@Option.isSome_none
def Qn2:=@true_and
def Qn3:=@List.getElem_mem
def Qn4:=@Bool.or_eq_false_iff
def Qn5:=@Bool.eq_iff_iff
def Qn6:=@List.length_map
def Qn7:=@List.length_nil
def Qn8:=@List.length_take
def Qn9:=@Bool.not_eq_true'
def Qoa:=@Nat.sub_zero
def Qob:=@Option.any_eq_true
def Qoc:=@List.map_toArray
def Qod:=@List.map_nil
def Qoe:=@List.getElem?_cons_zero
def Qof:=@List.append_nil
def Qog:=@List.size_toArray
def Qoh:=@List.eq_nil_of_length_eq_zero
def Qoi:=@Nat.mul_le_mul_right
def Qoj:=@List.getElem?_cons_succ
def Qok:=@Bool.not_false
def Qol:=@List.take_zero
def Qom:=@beq_self_eq_true
def Qon:=@Option.getD_some
def Qoo:=@List.all_cons
def Qop:=@List.all_nil
def Qoq:=@Bool.and_true
def Qor:=@List.drop_nil
def Qos:=@List.take_take
def Qot:=@Nat.min_eq_left
def Qou:=@List.take_append_drop
def Qov:=@List.all_append
def Qow:=@List.mem_append
def Qox:=@List.mem_map
def Qoy:=@List.length_pos_iff
def Qoz:=@List.mem_cons
def QoA:=@List.getElem?_map
def QoB:=@List.getElem?_eq_none
def QoC:=@Int.le_refl
def QoD:=@List.getElem?_append_left
def QoE:=@List.getElem?_append_right
def QoF:=@Int.toNat_natCast
def QoG:=@Nat.le_of_ble_eq_true
def QoH:=@List.flatMap_cons
def QoI:=@Prod.mk.injEq
def QoJ:=@Bool.false_and
def QoK:=@List.length_singleton
def QoL:=@List.mem_filter
def QoM:=@List.mem_range
def QoN:=@List.pairwise_cons
def QoO:=@List.pairwise_append
def QoP:=@List.filter_append
def QoQ:=@List.filter_cons
def QoR:=@List.filter_eq_self
def QoS:=@Option.getD_none
def QoT:=@List.take_length
def QoU:=@List.any_eq_true
def QoV:=@And.intro
def QoW:=@Bool.true_and
def QoX:=@Bool.not_true
def QoY:=@Bool.and_false
def QoZ:=@Int.eq_ofNat_of_zero_le
def Qo0:=@Bool.true_or
def Qo1:=@Bool.false_or
def Qo2:=@beq_eq_false_iff_ne
def Qo3:=@List.map_append
def Qo4:=@List.take_add_one
def Qo5:=@List.map_congr_left
def Qo6:=@List.map_map
def Qo7:=@List.find?_cons
def Qo8:=@decide_eq_false
def Qo9:=@Option.isSome_some
def Qpa:=@Bool.eq_false_iff
def Qpb:=@List.find?_eq_none
def Qpc:=@List.mem_of_find?_eq_some
def Qpd:=@List.find?_some
def Qpe:=@decide_eq_true
def Qpf:=@decide_eq_false_iff_not
def Qpg:=@Bool.or_false
def Qph:=@Bool.or_true
def Qpi:=@Nat.pow_succ
def Qpj:=@Bool.and_eq_false_iff
def Qpk:=@List.getElem?_set_ne
def Qpl:=@Bool.not_eq_true
def Qpm:=@Bool.true_eq_false
def Qpn:=@Nat.not_lt_zero
def Qpo:=@List.length_eq_zero_iff
def Qpp:=@List.mem_singleton
def Qpq:=@List.pairwise_singleton
def Qpr:=@List.pairwise_iff_getElem
def Qps:=@List.sum_cons
def Qpt:=@List.filter_cons_of_neg
def Qpu:=@List.not_mem_nil
def Qpv:=@List.getElem_of_mem
def Qpw:=@Bool.beq_comm
def Qpx:=@List.pairwise_flatMap
def Qpy:=@Int.fdiv_eq_ediv_of_nonneg
def Qpz:=@Int.natCast_add
def QpA:=@List.getElem?_of_mem
def QpB:=@List.dropWhile_sublist
def QpC:=@List.takeWhile_sublist
def QpD:=@List.takeWhile_append_dropWhile
def QpE:=@List.filter_eq_nil_iff
end
namespace Am
open Go
def Md:List (Nat×List Value):=[(1,[.int .i64 1,.int .i64 2,.int .i64 2,.int .i64 1,.int .i64 1,.int .i64 6,.int .i64 7,.int .i64 7,.int .i64 1,.int .i64 1,.int .i64 2,.int .i64 2,.int .i64 2,.int .i64 2,.int .i64 6,.int .i64 7,.int .i64 7,.int .i64 2,.int .i64 1,.int .i64 2,.int .i64 2,.int .i64 2,.int .i64 2,.int .i64 6,.int .i64 7,.int .i64 8,.int .i64 9]),(0,[.int .u64 0,.int .u64 1,.int .u64 2147483648,.int .u64 2147483647,.int .u64 9223372036854775808,.int .u64 9223372036854775807,.int .u64 0,.int .u64 4294967295,.int .u64 0,.int .u64 18446744073709551615,.int .u64 0,.int .u64 0,.int .u64 0,.int .u64 0,.int .u64 0,.int .u64 0,.int .u64 0,.int .u64 2147483647])]
inductive MK where
 |s (l:List UInt8)
 |n (i:Int)
def MK.t:MK->Bool
 |.s _=>true
 |.n _=>false
def MK.v:MK->Value
 |.s l=>.string ⟨⟨l⟩⟩
 |.n i=>.int .i64 i
def MK.eq:MK->MK->Bool
 |.s a,.s b=>a==b
 |.n a,.n b=>a==b
 |_,_=>false
inductive AV where
 |top
 |int (k:IntKind) (n:Int)
 |bool (b:Bool)
 |str (s:List UInt8)
 |nils|nilp|nilf|nili|nilm
 |list (l:List AV)
 |agg (l:List AV)
 |tup (l:List AV)
 |iface (t:TypeId) (x:AV)
 |fn (f:Fn) (first cap:List AV)
 |ptr (lvl site off:Nat)
 |vec (lvl site gen off n:Nat) (F2:Bool)
 |vptr (lvl site gen idx off:Nat)
 |rptr (l:List AV)
 |anyp
 |lcap (l:List AV)
 |mp (ks:List MK) (vs:List AV)
 |mptr (lvl site:Nat)
 deriving Inhabited
inductive IT where
 |str (t:List UInt8)
 |mp (ks:List MK) (vs:List AV)
 deriving Inhabited
inductive Ob where
 |none
 |cells (l:List AV)
 |vec (gen sz:Nat) (l:List AV)
 |iter (t:IT) (p:Nat)
 deriving Inhabited
abbrev Fr:=Nat->AV
abbrev Qk:=List (Nat->Ob)
structure DF where
 fn:Fn
 cap:List AV
 args:List AV
structure St where
 f:Fr
 m:Qk
 ds:List DF
def QL {α:Type}(f:Nat->α)(d:Nat)(x:α):Nat->α:=λi=>bif Nat.beq i d then x else f i
def Q6 {α:Type}(f:Nat->α)(d:Nat)(x:α):QL f d x d=x:=by simp[QL]
def Xe {α:Type}(f:Nat->α){d i:Nat}(x:α)(h:i≠d):QL f d x i=f i:=by
 have:Nat.beq i d=false:=by
  cases h':Nat.beq i d with
  |false=>rfl
  |true=>exact absurd (Qm6 h') h
 simp[QL,this]
def AV.cells:AV->List AV
 |.agg l=>l
 |x=>[x]
def QU (l:List AV):List AV:=l.flatMap AV.cells
def AV.leaf:AV->Bool
 |.agg _|.tup _|.top=>false
 |_=>true
mutual
def AV.rf:AV->Bool
 |.ptr .. | .vec .. | .vptr .. | .rptr _|.mptr .. => false
 |.agg l|.tup l=>AV.rfL l
 |.iface _ x=>x.rf
 |.fn _ a b=>AV.rfL a&&AV.rfL b
 |_=>true
def AV.rfL:List AV->Bool
 | []=>true
 |x :: l=>x.rf&&AV.rfL l
end
mutual
def AV.sh:AV->AV
 |.ptr l s o=>.ptr (l+1) s o
 |.vec l s g o n q=>.vec (l+1) s g o n q
 |.vptr l s g i o=>.vptr (l+1) s g i o
 |.mptr l s=>.mptr (l+1) s
 |.agg l=>.agg (AV.shL l)
 |.tup l=>.tup (AV.shL l)
 |.iface t x=>.iface t x.sh
 |.fn f a b=>.fn f (AV.shL a) (AV.shL b)
 |x=>x
def AV.shL:List AV->List AV
 | []=>[]
 |x :: l=>x.sh :: AV.shL l
end
def AV.shN:Nat->AV->AV
 |0,x=>x
 |n+1,x=>(x.shN n).sh
mutual
def AV.un:AV->Option AV
 |.ptr 0 _ _|.vec 0 _ _ _ _ _|.vptr 0 _ _ _ _|.mptr 0 _=>none
 |.ptr (l+1) s o=>some (.ptr l s o)
 |.vec (l+1) s g o n q=>some (.vec l s g o n q)
 |.vptr (l+1) s g i o=>some (.vptr l s g i o)
 |.mptr (l+1) s=>some (.mptr l s)
 |.agg l=>(AV.unL l).map .agg
 |.tup l=>(AV.unL l).map .tup
 |.iface t x=>x.un.map (.iface t)
 |.fn f a b=>match AV.unL a,AV.unL b with
  |some a,some b=>some (.fn f a b)
  |_,_=>none
 |x=>some x
def AV.unL:List AV->Option (List AV)
 | []=>some []
 |x :: l=>match x.un,AV.unL l with
  |some x,some l=>some (x :: l)
  |_,_=>none
end
mutual
def AV.scrub (s:Nat):AV->AV
 |.ptr 0 t o=>bif Nat.beq t s then .top else .ptr 0 t o
 |.mptr 0 t=>bif Nat.beq t s then .top else .mptr 0 t
 |.agg l=>.agg (AV.scrubL s l)
 |.tup l=>.tup (AV.scrubL s l)
 |.iface t x=>.iface t (x.scrub s)
 |.fn f a b=>.fn f (AV.scrubL s a) (AV.scrubL s b)
 |x=>x
def AV.scrubL (s:Nat):List AV->List AV
 | []=>[]
 |x :: l=>x.scrub s :: AV.scrubL s l
end
def Ob.scrub (s:Nat):Ob->Ob
 |.cells l=>.cells (AV.scrubL s l)
 |o=>o
def DF.scrub (s:Nat)(d:DF):DF:={ d with cap:=AV.scrubL s d.cap,args:=AV.scrubL s d.args }
def Qc:Qk->Nat->Nat->Ob
 | [],_,_=>.none
 |fr :: _,0,s=>fr s
 |_ :: m,l+1,s=>Qc m l s
def put:Qk->Nat->Nat->Ob->Qk
 | [],_,_,_=>[]
 |fr :: m,0,s,o=>QL fr s o :: m
 |fr :: m,l+1,s,o=>fr :: put m l s o
def UF (s:Nat):Qk->Qk
 | []=>[]
 |fr :: m=>(λi=>(fr i).scrub s) :: m
mutual
def AV.still (own:Bool)(m:Qk):AV->Option AV
 |.nils=>some (.list [])
 |.lcap l=>some (.list l)
 |.vec l s g o n q=>if own&&l != 0 then some (.vec l s g o n q)else
  match Qc m l s with
  |.vec g' _ xs=>if g=g'/\o+n<=xs.length then some (.list ((xs.drop o).take n))else none
  |_=>none
 |.mptr l s=>if own&&l != 0 then some (.mptr l s)else if own then match Qc m 0 s with
  |.iter (.mp ks vs) _=>some (.mp ks vs)
  |_=>none else none
 |.agg l=>(AV.stillL own m l).map .agg
 |.tup l=>(AV.stillL own m l).map .tup
 |.iface t x=>(x.still own m).map (.iface t)
 |x=>some x
def AV.stillL (own:Bool)(m:Qk):List AV->Option (List AV)
 | []=>some []
 |x :: l=>match x.still own m,AV.stillL own m l with
  |some x,some l=>some (x :: l)
  |_,_=>none
end
mutual
def AV.gv:AV->Value
 |.int k n=>.int k n
 |.bool b=>.bool b
 |.str s=>.string ⟨⟨s⟩⟩
 |.agg l=>.agg ⟨AV.gvL l⟩
 |.fn f _ _=>.func f #[] #[]
 |_=>.tuple #[]
def AV.gvL:List AV->List Value
 | []=>[]
 |x :: l=>x.gv :: AV.gvL l
end
mutual
def AV.gr:AV->Bool
 |.int .. | .bool _|.str _=>true
 |.agg l=>AV.grL l
 |.fn _ a b=>a.isEmpty&&b.isEmpty
 |_=>false
def AV.grL:List AV->Bool
 | []=>true
 |x :: l=>x.gr&&AV.grL l
end
def JN:List MK->List AV->Nat->List MapEntry
 |k :: ks,v :: vs,i=>{ key:=k.v,val:=v.gv,born:=i } :: JN ks vs (i+1)
 |_,_,_=>[]
def IT.obj:IT->Nat->Obj
 |.str t,p=>.stringIter ⟨⟨t⟩⟩ p
 |.mp ks vs,_=>.map ⟨JN ks vs 0⟩ (JN ks vs 0).length
inductive SV where
 |cell (v:Value)
 |mapo (es:Array MapEntry) (c:Nat)
 |siz (n:Nat)
def rd (w:World)(b o:Nat):SV->Prop
 |.cell v=>w.cell? ⟨b,o,none⟩=some v
 |.mapo es c=>w.heap[b]? = some (.map es c)
 |.siz n=>∃cs t fz,w.heap[b]? = some (.cells cs t fz)/\cs.size=n/\o=n
def sv (w:World)(b o:Nat):Option SV:=match w.heap[b]? with
 |some (.map es c)=>some (.mapo es c)
 |some (.cells cs _ _)=>if o=cs.size then some (.siz o)else(w.cell? ⟨b,o,none⟩).map .cell
 |_=>(w.cell? ⟨b,o,none⟩).map .cell
def J9 (b o:Nat):Option SV:=match Md.lookup b with
 |some l=>if o=l.length then some (.siz o)else(l[o]?).map .cell
 |none=>none
def Di (w:World):Prop:=∀b o v,J9 b o=some v->rd w b o v
structure Gh where
 stab:Nat->Nat->Option SV             -- cells (and maps) that are never written again
 nm:Nat->Nat->Option Nat              -- the block of a variable
 vm:Nat->Nat->Option Nat              -- the block of a row
 vc:Nat->Nat->Nat                     -- its capacity
 vg:Nat->Nat->Nat                     -- its generation
 vz:Nat->Nat->Nat                     -- cells an element
 tab:∀b o v,J9 b o=some v->stab b o=some v
def Gh.dn (G:Gh)(l:Nat):Gh :=
 { stab:=G.stab,nm:=λi s=>G.nm (i+l) s,vm:=λi s=>G.vm (i+l) s,vc:=λi s=>G.vc (i+l) s,vg:=λi s=>G.vg (i+l) s,vz:=λi s=>G.vz (i+l) s,tab:=G.tab }
mutual
inductive Rep (G:Gh):AV->Value->Prop
 |top (v:Value):Rep G .top v
 |int (k:IntKind) (n:Int):Rep G (.int k n) (.int k n)
 |bool (b:Bool):Rep G (.bool b) (.bool b)
 |str (s:List UInt8):Rep G (.str s) (.string ⟨⟨s⟩⟩)
 |nils:Rep G .nils (.slice none 0 0)
 |nilp:Rep G .nilp (.pointer none)
 |nilf:Rep G .nilf .nilFunc
 |nili:Rep G .nili .nilIface
 |nilm:Rep G .nilm (.map none)
 |anyp (p:Option Addr):Rep G .anyp (.pointer p)
 |list {l:List AV} {cs:List Value} {A:Option Addr} {n cap sz:Nat} (hc:RepL G (QU l) cs) (hz:∀x∈l,x.cells.length=sz) (hf:AV.rfL (QU l)=true) (hl:(QU l).all AV.leaf=true)
   (hs:∀j u,cs[j]? = some u->∃b o,A=some ⟨b,o,none⟩/\G.stab b (o+j)=some (.cell u)) (hn:n=l.length) (bm:n<=cap) (hm:n<=maxLen):Rep G (.list l) (.slice A n cap)
 |lcap {l:List AV} {cs:List Value} {A:Option Addr} {n sz:Nat} (hc:RepL G (QU l) cs) (hz:∀x∈l,x.cells.length=sz) (hf:AV.rfL (QU l)=true) (hl:(QU l).all AV.leaf=true)
   (hs:∀j u,cs[j]? = some u->∃b o,A=some ⟨b,o,none⟩/\G.stab b (o+j)=some (.cell u)) (hn:n=l.length) (hm:n<=maxLen):Rep G (.lcap l) (.slice A n n)
 |agg {l:List AV} {vs:List Value} (h:RepL G l vs):Rep G (.agg l) (.agg ⟨vs⟩)
 |tup {l:List AV} {vs:List Value} (h:RepL G l vs):Rep G (.tup l) (.tuple ⟨vs⟩)
 |iface {t:TypeId} {x:AV} {v:Value} (h:Rep G x v):Rep G (.iface t x) (.iface t v)
 |fn {f:Fn} {a b:List AV} {va vb:List Value} (ha:RepL G a va) (hb:RepL G b vb):Rep G (.fn f a b) (.func f ⟨va⟩ ⟨vb⟩)
 |ptr {l s o b:Nat} (h:G.nm l s=some b):Rep G (.ptr l s o) (.pointer (some ⟨b,o,none⟩))
 |vec {l s g o n:Nat} {q:Bool} {v:Value} (hv:v.oneCell'=true) (hg:g<=G.vg l s) (h:g=G.vg l s->(G.vm l s=none/\o=0/\n=0/\∃A,v=.slice A 0 0/\(2000<=s->A=none))\/
   ∃b A c,G.vm l s=some b/\o+n<=G.vc l s/\v=.slice (some A) n c/\n<=c/\c<=maxLen/\(q=false->c=G.vc l s-o)/\((o<G.vc l s\/o=0)/\(q=false\/0<n)->A=⟨b,o*G.vz l s,none⟩)):Rep G (.vec l s g o n q) v
 |vptr {l s g i o:Nat} {v:Value} (hv:v.oneCell'=true) (hg:g<=G.vg l s) (h:g=G.vg l s->∃b,G.vm l s=some b/\v=.pointer (some ⟨b,i*G.vz l s+o,none⟩)):Rep G (.vptr l s g i o) v
 |mp {ks:List MK} {vs:List AV} {b:Nat} (h:G.stab b 0=some (.mapo ⟨JN ks vs 0⟩ (JN ks vs 0).length)):Rep G (.mp ks vs) (.map (some b))
 |mptr {l s b:Nat} (h:G.nm l s=some b):Rep G (.mptr l s) (.map (some b))
 |rptr {l:List AV} {cs:List Value} {b o:Nat} (hc:RepL G l cs) (hf:AV.rfL l=true) (hl:l.all AV.leaf=true) (hs:∀j u,cs[j]? = some u->G.stab b (o+j)=some (.cell u)):Rep G (.rptr l) (.pointer (some ⟨b,o,none⟩))
inductive RepL (G:Gh):List AV->List Value->Prop
 |nil:RepL G [] []
 |cons {x:AV} {v:Value} {l:List AV} {vs:List Value} (h:Rep G x v) (t:RepL G l vs):RepL G (x :: l) (v :: vs)
end
def Gh.dn_dn (G:Gh)(a b:Nat):(G.dn a).dn b=G.dn (b+a):=by
 simp only[Gh.dn,Qm7]
structure Gle (G G':Gh):Prop where
 stab:∀b o v,G.stab b o=some v->G'.stab b o=some v
 nm:∀l s b,G.nm l s=some b->G'.nm l s=some b
 vg:∀l s,G.vg l s<=G'.vg l s
 vs:∀l s,G'.vg l s=G.vg l s->G'.vm l s=G.vm l s/\G'.vc l s=G.vc l s/\G'.vz l s=G.vz l s
def Gle.refl (G:Gh):Gle G G:=⟨λ_ _ _ h=>h,λ_ _ _ h=>h,λ_ _=>Qm8 _,λ_ _ _=>⟨rfl,rfl,rfl⟩⟩
def Gle.trans {a b c:Gh}(h:Gle a b)(k:Gle b c):Gle a c :=
 ⟨λx o v e=>k.stab x o v (h.stab x o v e),λl s b e=>k.nm l s b (h.nm l s b e),λl s=>Qm9 (h.vg l s) (k.vg l s),λl s e=>by
  have h1:=h.vg l s;have h2:=k.vg l s;obtain⟨a1,a2,a3⟩:=h.vs l s ψ;obtain⟨b1,b2,b3⟩:=k.vs l s ψ;exact⟨b1.trans a1,b2.trans a2,b3.trans a3⟩⟩
def Gle.dn {G G':Gh}(h:Gle G G')(l:Nat):Gle (G.dn l) (G'.dn l) :=
 ⟨h.stab,λi s b e=>h.nm (i+l) s b e,λi s=>h.vg (i+l) s,λi s e=>h.vs (i+l) s e⟩
mutual
theorem Rep.mono {G G':Gh}(hg:Gle G G'):∀ {x:AV} {v:Value},Rep G x v->Rep G' x v
 |_,_,.top v=>.top v
 |_,_,.int k n=>.int k n
 |_,_,.bool b=>.bool b
 |_,_,.str s=>.str s
 |_,_,.nils=>.nils
 |_,_,.nilp=>.nilp
 |_,_,.nilf=>.nilf
 |_,_,.nili=>.nili
 |_,_,.nilm=>.nilm
 |_,_,.anyp p=>.anyp p
 |_,_,.list hc hz hf hl hs hn bm hm=>.list (RepL.mono hg hc) hz hf hl (λj u h=>by
   obtain⟨b,o,e,h'⟩:=hs j u h;exact⟨b,o,e,hg.stab _ _ _ h'⟩) hn bm hm
 |_,_,.lcap hc hz hf hl hs hn hm=>.lcap (RepL.mono hg hc) hz hf hl (λj u h=>by
   obtain⟨b,o,e,h'⟩:=hs j u h;exact⟨b,o,e,hg.stab _ _ _ h'⟩) hn hm
 |_,_,.agg h=>.agg (RepL.mono hg h)
 |_,_,.tup h=>.tup (RepL.mono hg h)
 |_,_,.iface h=>.iface (Rep.mono hg h)
 |_,_,.fn ha hb=>.fn (RepL.mono hg ha) (RepL.mono hg hb)
 |_,_,.ptr h=>.ptr (hg.nm _ _ _ h)
 |_,_,.mp h=>.mp (hg.stab _ _ _ h)
 |_,_,.mptr h=>.mptr (hg.nm _ _ _ h)
 |_,_,.vec (l:=l) (s:=s) hv hl h=>.vec hv (Qm9 hl (hg.vg _ _)) (λe=>by
   have h1:=hg.vg l s;obtain⟨a1,a2,a3⟩:=hg.vs l s ψ;rw[a1,a2,a3];exact h ψ)
 |_,_,.vptr (l:=l) (s:=s) hv hl h=>.vptr hv (Qm9 hl (hg.vg _ _)) (λe=>by
   have h1:=hg.vg l s;obtain⟨a1,_,a3⟩:=hg.vs l s ψ;rw[a1,a3];exact h ψ)
 |_,_,.rptr hc hf hl hs=>.rptr (RepL.mono hg hc) hf hl (λj u h=>hg.stab _ _ _ (hs j u h))
theorem RepL.mono {G G':Gh}(hg:Gle G G'):∀ {x:List AV} {v:List Value},RepL G x v->RepL G' x v
 |_,_,.nil=>.nil
 |_,_,.cons h t=>.cons (Rep.mono hg h) (RepL.mono hg t)
end
def Rep.unlcap {G:Gh}{l:List AV}{v:Value}(h:Rep G (.lcap l) v):Rep G (.list l) v:=by
 cases h with
 |lcap hc hz hf hl hs hn hm=>exact .list hc hz hf hl hs hn (Qm8 _) hm
def Rep.tolcap {G:Gh}{l:List AV}{A:Option Addr}{n:Nat}(h:Rep G (.list l) (.slice A n n)):Rep G (.lcap l) (.slice A n n):=by
 cases h with
 |list hc hz hf hl hs hn bm hm=>exact .lcap hc hz hf hl hs hn hm
def RepL.length {G:Gh}{l:List AV}{vs:List Value}(h:RepL G l vs):vs.length=l.length:=by
 induction l generalizing vs with
 |nil=>cases h;rfl
 |cons x l ih=>cases h with|cons h t=>simp[ih t]
def RepL.at_ {G:Gh}{l:List AV}{vs:List Value}(h:RepL G l vs){i:Nat}{x:AV}(hx:l[i]? = some x):∃v,vs[i]? = some v/\Rep G x v:=by
 induction l generalizing vs i with
 |nil=>simp at hx
 |cons y l ih=>
  cases h with
  |cons h t=>
   cases i with
   |zero=>simp at hx;subst hx;exact⟨_,rfl,h⟩
   |succ i=>simp at hx;simpa using ih t hx
def RepL.back {G:Gh}{l:List AV}{vs:List Value}(h:RepL G l vs){i:Nat}{v:Value}(hx:vs[i]? = some v):∃x,l[i]? = some x/\Rep G x v:=by
 have hl:=h.length;have:i<l.length:=by rw[<-hl];exact(Qna.1 hx).1
 obtain⟨v',e,r⟩:=h.at_ (Qnb this);rw[hx]at e
 injection e with e
 subst e;exact⟨_,Qnb this,r⟩
def RepL.append {G:Gh}{l l':List AV}{vs rD:List Value}(h:RepL G l vs)(h':RepL G l' rD):RepL G (l++l') (vs++rD):=by
 induction l generalizing vs with
 |nil=>cases h;exact h'
 |cons x l ih=>cases h with|cons h t=>exact .cons h (ih t)
def RepL.take {G:Gh}{l:List AV}{vs:List Value}(h:RepL G l vs)(n:Nat):RepL G (l.take n) (vs.take n):=by
 induction l generalizing vs n with
 |nil=>cases h;simp;exact .nil
 |cons x l ih=>
  cases h with
  |cons h t=>
   cases n with
   |zero=>simp;exact .nil
   |succ n=>simp;exact .cons h (ih t n)
def RepL.drop {G:Gh}{l:List AV}{vs:List Value}(h:RepL G l vs)(n:Nat):RepL G (l.drop n) (vs.drop n):=by
 induction l generalizing vs n with
 |nil=>cases h;simp;exact .nil
 |cons x l ih=>
  cases h with
  |cons h t=>
   cases n with
   |zero=>simp;exact .cons h t
   |succ n=>simp;exact ih t n
def RepL.set {G:Gh}{l:List AV}{vs:List Value}(h:RepL G l vs)(n:Nat){x:AV}{v:Value}(hx:Rep G x v):RepL G (l.set n x) (vs.set n v):=by
 induction l generalizing vs n with
 |nil=>cases h;simp;exact .nil
 |cons y l ih=>
  cases h with
  |cons h t=>
   cases n with
   |zero=>simp;exact .cons hx t
   |succ n=>simp;exact .cons h (ih t n)
def RepL.of_all {G:Gh}{l:List AV}{vs:List Value}(hl:vs.length=l.length)(h:∀(i:Nat) x v,l[i]? = some x->vs[i]? = some v->Rep G x v):RepL G l vs:=by
 induction l generalizing vs with
 |nil=>cases vs with|nil=>exact .nil|cons _ _=>simp at hl
 |cons x l ih=>
  cases vs with
  |nil=>simp at hl
  |cons v vs=>exact .cons (h 0 x v rfl rfl) (ih Ä (λi y u hy hu=>h (i+1) y u (by simpa using hy) (by simpa using hu)))
def Rep.leaf {G:Gh}{x:AV}{v:Value}(h:Rep G x v)(hl:x.leaf=true):v.oneCell'=true:=by
 cases h with
 |top=>simp[AV.leaf]at hl
 |agg=>simp[AV.leaf]at hl
 |tup=>simp[AV.leaf]at hl
 |vec hv=>exact hv
 |vptr hv=>exact hv
 |_=>rfl
def Gh.sameStab (G G':Gh):Prop:=∀b o v,G.stab b o=some v->G'.stab b o=some v
mutual
theorem Rep.rfd {G G':Gh}(hg:G.sameStab G'):∀ {x:AV} {v:Value},x.rf=true->Rep G x v->Rep G' x v
 |_,_,_,.top v=>.top v
 |_,_,_,.int k n=>.int k n
 |_,_,_,.bool b=>.bool b
 |_,_,_,.str s=>.str s
 |_,_,_,.nils=>.nils
 |_,_,_,.nilp=>.nilp
 |_,_,_,.nilf=>.nilf
 |_,_,_,.nili=>.nili
 |_,_,_,.nilm=>.nilm
 |_,_,_,.anyp p=>.anyp p
 |_,_,_,.list hc hz hf hl hs hn bm hm=>.list (RepL.rfd hg hf hc) hz hf hl (λj u h=>by
   obtain⟨b,o,e,h'⟩:=hs j u h;exact⟨b,o,e,hg _ _ _ h'⟩) hn bm hm
 |_,_,_,.lcap hc hz hf hl hs hn hm=>.lcap (RepL.rfd hg hf hc) hz hf hl (λj u h=>by
   obtain⟨b,o,e,h'⟩:=hs j u h;exact⟨b,o,e,hg _ _ _ h'⟩) hn hm
 |_,_,hr,.agg h=>.agg (RepL.rfd hg hr h)
 |_,_,hr,.tup h=>.tup (RepL.rfd hg hr h)
 |_,_,hr,.iface h=>.iface (Rep.rfd hg hr h)
 |_,_,hr,.fn ha hb=>by
   have h2:=Qnc.1 hr;exact .fn (RepL.rfd hg h2.1 ha) (RepL.rfd hg h2.2 hb)
 |_,_,hr,.ptr h=>by cases hr
 |_,_,hr,.mp h=>.mp (hg _ _ _ h)
 |_,_,hr,.mptr h=>by cases hr
 |_,_,hr,.vec hv hl h=>by cases hr
 |_,_,hr,.vptr hv hl h=>by cases hr
 |_,_,hr,.rptr hc hf hl hs=>by cases hr
theorem RepL.rfd {G G':Gh}(hg:G.sameStab G'):∀ {x:List AV} {v:List Value},AV.rfL x=true->RepL G x v->RepL G' x v
 |_,_,_,.nil=>.nil
 |_,_,hr,.cons h t=>by
   have h2:=Qnc.1 hr;exact .cons (Rep.rfd hg h2.1 h) (RepL.rfd hg h2.2 t)
end
def RepL.ofrf {G:Gh}{l:Nat}{x:List AV}{v:List Value}(hr:AV.rfL x=true)(h:RepL (G.dn l) x v):RepL G x v:=RepL.rfd (G:=G.dn l) (G':=G) (λ_ _ _ h=>h) hr h
def RepL.torf {G:Gh}{l:Nat}{x:List AV}{v:List Value}(hr:AV.rfL x=true)(h:RepL G x v):RepL (G.dn l) x v:=RepL.rfd (G:=G) (G':=G.dn l) (λ_ _ _ h=>h) hr h
mutual
theorem Rep.sh {G:Gh}:∀ {x:AV} {v:Value},Rep (G.dn 1) x v->Rep G x.sh v
 |_,_,.top v=>.top v
 |_,_,.int k n=>.int k n
 |_,_,.bool b=>.bool b
 |_,_,.str s=>.str s
 |_,_,.nils=>.nils
 |_,_,.nilp=>.nilp
 |_,_,.nilf=>.nilf
 |_,_,.nili=>.nili
 |_,_,.nilm=>.nilm
 |_,_,.anyp p=>.anyp p
 |_,_,.list hc hz hf hl hs hn bm hm=>.list (RepL.ofrf hf hc) hz hf hl hs hn bm hm
 |_,_,.lcap hc hz hf hl hs hn hm=>.lcap (RepL.ofrf hf hc) hz hf hl hs hn hm
 |_,_,.agg h=>.agg (RepL.sh h)
 |_,_,.tup h=>.tup (RepL.sh h)
 |_,_,.iface h=>.iface (Rep.sh h)
 |_,_,.fn ha hb=>.fn (RepL.sh ha) (RepL.sh hb)
 |_,_,.ptr h=>.ptr h
 |_,_,.mp h=>.mp h
 |_,_,.mptr h=>.mptr h
 |_,_,.vec hv hl h=>.vec hv hl h
 |_,_,.vptr hv hl h=>.vptr hv hl h
 |_,_,.rptr hc hf hl hs=>.rptr (RepL.ofrf hf hc) hf hl hs
theorem RepL.sh {G:Gh}:∀ {x:List AV} {v:List Value},RepL (G.dn 1) x v->RepL G (AV.shL x) v
 |_,_,.nil=>.nil
 |_,_,.cons h t=>.cons (Rep.sh h) (RepL.sh t)
end
mutual
theorem Rep.un {G:Gh}:∀ {x:AV} {v:Value},Rep G x v->∀y,x.un=some y->Rep (G.dn 1) y v
 |_,_,.top v,y,e=>by cases e;exact .top v
 |_,_,.int k n,y,e=>by cases e;exact .int k n
 |_,_,.bool b,y,e=>by cases e;exact .bool b
 |_,_,.str s,y,e=>by cases e;exact .str s
 |_,_,.nils,y,e=>by cases e;exact .nils
 |_,_,.nilp,y,e=>by cases e;exact .nilp
 |_,_,.nilf,y,e=>by cases e;exact .nilf
 |_,_,.nili,y,e=>by cases e;exact .nili
 |_,_,.nilm,y,e=>by cases e;exact .nilm
 |_,_,.anyp p,y,e=>by cases e;exact .anyp p
 |_,_,.list hc hz hf hl hs hn bm hm,y,e=>by cases e;exact .list (RepL.torf hf hc) hz hf hl hs hn bm hm
 |_,_,.lcap hc hz hf hl hs hn hm,y,e=>by cases e;exact .lcap (RepL.torf hf hc) hz hf hl hs hn hm
 |_,_,.agg (l:=l) h,y,e=>by
   simp only[AV.un,Qnd]at e;obtain⟨l',e1,rfl⟩:=e;exact .agg (RepL.un h l' e1)
 |_,_,.tup (l:=l) h,y,e=>by
   simp only[AV.un,Qnd]at e;obtain⟨l',e1,rfl⟩:=e;exact .tup (RepL.un h l' e1)
 |_,_,.iface (x:=x) h,y,e=>by
   simp only[AV.un,Qnd]at e;obtain⟨l',e1,rfl⟩:=e;exact .iface (Rep.un h l' e1)
 |_,_,.fn (a:=a) (b:=b) ha hb,y,e=>by
   simp only[AV.un]at e;split at e
   ·rename_i a' b' ea eb;cases e;exact .fn (RepL.un ha a' ea) (RepL.un hb b' eb)
   ·cases e
 |.ptr l s o,_,.ptr h,y,e=>by
   cases l with
   |zero=>cases e
   |succ l=>cases e;exact .ptr h
 |.vec l s g o n q,_,.vec hv hl h,y,e=>by
   cases l with
   |zero=>cases e
   |succ l=>cases e;exact .vec hv hl h
 |.vptr l s g i o,_,.vptr hv hl h,y,e=>by
   cases l with
   |zero=>cases e
   |succ l=>cases e;exact .vptr hv hl h
 |_,_,.mp h,y,e=>by cases e;exact .mp h
 |.mptr l s,_,.mptr h,y,e=>by
   cases l with
   |zero=>cases e
   |succ l=>cases e;exact .mptr h
 |_,_,.rptr hc hf hl hs,y,e=>by cases e;exact .rptr (RepL.torf hf hc) hf hl hs
theorem RepL.un {G:Gh}:∀ {x:List AV} {v:List Value},RepL G x v->∀y,AV.unL x=some y->RepL (G.dn 1) y v
 |_,_,.nil,y,e=>by cases e;exact .nil
 |_,_,.cons (x:=x) (l:=l) h t,y,e=>by
   simp only[AV.unL]at e;split at e
   ·rename_i a' b' ea eb;cases e;exact .cons (Rep.un h a' ea) (RepL.un t b' eb)
   ·cases e
end
structure Gnew (s:Nat)(G G':Gh):Prop where
 stab:∀b o v,G.stab b o=some v->G'.stab b o=some v
 nm:∀l t b,(l=0->t≠s)->G.nm l t=some b->G'.nm l t=some b
 vg:∀l t,G.vg l t<=G'.vg l t
 vs:∀l t,G'.vg l t=G.vg l t->G'.vm l t=G.vm l t/\G'.vc l t=G.vc l t/\G'.vz l t=G.vz l t
mutual
theorem Rep.scrub {G G':Gh}{s:Nat}(hg:Gnew s G G'):∀ {x:AV} {v:Value},Rep G x v->Rep G' (x.scrub s) v
 |_,_,.top v=>.top v
 |_,_,.int k n=>.int k n
 |_,_,.bool b=>.bool b
 |_,_,.str s=>.str s
 |_,_,.nils=>.nils
 |_,_,.nilp=>.nilp
 |_,_,.nilf=>.nilf
 |_,_,.nili=>.nili
 |_,_,.nilm=>.nilm
 |_,_,.anyp p=>.anyp p
 |_,_,.list hc hz hf hl hs hn bm hm=>.list (RepL.rfd hg.stab hf hc) hz hf hl (λj u h=>by
   obtain⟨b,o,e,h'⟩:=hs j u h;exact⟨b,o,e,hg.stab _ _ _ h'⟩) hn bm hm
 |_,_,.lcap hc hz hf hl hs hn hm=>.lcap (RepL.rfd hg.stab hf hc) hz hf hl (λj u h=>by
   obtain⟨b,o,e,h'⟩:=hs j u h;exact⟨b,o,e,hg.stab _ _ _ h'⟩) hn hm
 |_,_,.agg h=>.agg (RepL.scrub hg h)
 |_,_,.tup h=>.tup (RepL.scrub hg h)
 |_,_,.iface h=>.iface (Rep.scrub hg h)
 |_,_,.fn ha hb=>.fn (RepL.scrub hg ha) (RepL.scrub hg hb)
 |.ptr l t o,_,.ptr h=>by
   cases l with
   |zero=>
    show Rep G' (bif Nat.beq t s then .top else .ptr 0 t o) _;cases hb:Nat.beq t s with
    |true=>exact .top _
    |false=>exact .ptr (hg.nm 0 t _ (λ_ e=>by subst e;simp at hb) h)
   |succ l=>exact .ptr (hg.nm _ _ _ (λe=>Ú) h)
 |_,_,.mp h=>.mp (hg.stab _ _ _ h)
 |.mptr l t,_,.mptr h=>by
   cases l with
   |zero=>
    show Rep G' (bif Nat.beq t s then .top else .mptr 0 t) _;cases hb:Nat.beq t s with
    |true=>exact .top _
    |false=>exact .mptr (hg.nm 0 t _ (λ_ e=>by subst e;simp at hb) h)
   |succ l=>exact .mptr (hg.nm _ _ _ (λe=>Ú) h)
 |_,_,.vec (l:=l) (s:=s) hv hl h=>.vec hv (Qm9 hl (hg.vg _ _)) (λe=>by
   have h1:=hg.vg l s;obtain⟨a1,a2,a3⟩:=hg.vs l s ψ;rw[a1,a2,a3];exact h ψ)
 |_,_,.vptr (l:=l) (s:=s) hv hl h=>.vptr hv (Qm9 hl (hg.vg _ _)) (λe=>by
   have h1:=hg.vg l s;obtain⟨a1,_,a3⟩:=hg.vs l s ψ;rw[a1,a3];exact h ψ)
 |_,_,.rptr hc hf hl hs=>.rptr (RepL.rfd hg.stab hf hc) hf hl (λj u h=>hg.stab _ _ _ (hs j u h))
theorem RepL.scrub {G G':Gh}{s:Nat}(hg:Gnew s G G'):∀ {x:List AV} {v:List Value},RepL G x v->RepL G' (AV.scrubL s x) v
 |_,_,.nil=>.nil
 |_,_,.cons h t=>.cons (Rep.scrub hg h) (RepL.scrub hg t)
end
def Gh.mine (G:Gh)(b:Nat):Prop:=(∃l s,G.nm l s=some b)\/∃l s,G.vm l s=some b
def Zv (s t:Nat):Bool:=decide (s<2000)||t+2000==s
def Si {s t e:Nat}(h:Zv s t=true)(h':Zv s e=true)(hs:2000<=s):t=e:=by
 simp only[Zv,Qne,Qnf,Qng]at h h';omega
def Zh (s:Nat)(w:World)(b:Nat)(cs:Array Value):Prop:=∃t lo hi,w.heap[b]? = some (.cells cs t (lo,hi))/\Zv s t=true/\∀o,o<cs.size->¬(lo<=o/\o<hi)
def Zh.cell {s:Nat}{w:World}{b:Nat}{cs:Array Value}(h:Zh s w b cs)(i:Nat):w.cell? ⟨b,i,none⟩=cs[i]?:=by
 obtain⟨t,lo,hi,hh,_⟩:=h;exact cell_of_row w b i cs t (lo,hi) hh
def Zh.lt {s:Nat}{w:World}{b:Nat}{cs:Array Value}(h:Zh s w b cs):b<w.heap.size:=by
 obtain⟨t,lo,hi,hh,_⟩:=h;exact(Qnh.1 hh).1
def Zh.frozen {s:Nat}{w:World}{b:Nat}{cs:Array Value}(h:Zh s w b cs){i:Nat}(kK:i<cs.size):w.frozen? ⟨b,i,none⟩=false:=by
 obtain⟨t,lo,hi,hh,_,hf⟩:=h;have:=hf i kK;simp[World.frozen?,hh];omega
def Zh.of {s:Nat}{w w':World}{b:Nat}{cs:Array Value}(h:Zh s w b cs)(e:w'.heap[b]? = w.heap[b]?):Zh s w' b cs:=by
 obtain⟨t,lo,hi,hh,hf⟩:=h;exact⟨t,lo,hi,e.trans hh,hf⟩
def Zh.uniq {s s':Nat}{w:World}{b:Nat}{cs cK:Array Value}(h:Zh s w b cs)(h':Zh s' w b cK):cs=cK:=by
 obtain⟨t,lo,hi,hh,hf⟩:=h;obtain⟨t',lo',kK,iS,i8⟩:=h';rw[hh]at iS;cases iS;rfl
def Zh.set {s:Nat}{w:World}{b:Nat}{cs:Array Value}(h:Zh s w b cs)(i:Nat)(v:Value):Zh s (w.setCell ⟨b,i,none⟩ v) b (cs.setIfInBounds i v):=by
 obtain⟨t,lo,hi,hh,hf⟩:=h;refine⟨t,lo,hi,?_,by simpa using hf⟩;simp[World.setCell,Array.getElem?_modify,hh]
def Zh.new {s:Nat}(w:World)(cs:Array Value)(t:TypeId)(ht:Zv s t=true):Zh s (w.alloc (.cells cs t)) w.heap.size cs :=
 ⟨t,0,0,heap_alloc_new w _,ht,λ_ _=>ψ⟩
structure RowIs (G:Gh)(s:Nat)(w:World)(b cap sz:Nat)(xs:List AV):Prop where
 cur:∃cur,Zh s w b cur/\cur.size=cap*sz/\RepL G (QU xs) (cur.toList.take (xs.length*sz))
 le:xs.length<=cap
 max:cap<=maxLen
def RowIs.of {G G':Gh}{s:Nat}{w w':World}{b cap sz:Nat}{xs:List AV}(h:RowIs G s w b cap sz xs)(e:w'.heap[b]? = w.heap[b]?)(hr:∀vs,RepL G (QU xs) vs->RepL G' (QU xs) vs):RowIs G' s w' b cap sz xs:=by
 obtain⟨⟨cur,hc,hz,hx⟩,hl,hm⟩:=h;exact⟨⟨cur,hc.of e,hz,hr _ hx⟩,hl,hm⟩
structure Elems (sz:Nat)(xs:List AV):Prop where
 size:∀x∈xs,x.cells.length=sz
 rf:AV.rfL (QU xs)=true
 leaf:(QU xs).all AV.leaf=true
def Ob.isRow:Ob->Bool
 |.vec .. => true
 |_=>false
def Ob.isVar:Ob->Bool
 |.cells _=>true
 |.iter .. => true
 |_=>false
def Ob.scrub_isVar (o:Ob)(s:Nat):(o.scrub s).isVar=o.isVar:=by cases o<;>rfl
def Ge {w:World}{b o:Nat}{v:SV}(h:rd w b o v):b<w.heap.size:=by
 cases v with
 |cell v=>exact World.block_lt_of_cell? w (a:=⟨b,o,none⟩) h
 |mapo es c=>exact(Qnh.1 h).1
 |siz n=>
  obtain⟨_,_,_,h,_⟩:=h;exact(Qnh.1 h).1
def K2 {w w':World}{b o:Nat}{v:SV}(hb:w'.heap[b]? = w.heap[b]?)(h:rd w b o v):rd w' b o v:=by
 cases v with
 |cell v=>exact(World.cell?_of_block (a:=⟨b,o,none⟩) hb).trans h
 |mapo es c=>exact hb.trans h
 |siz n=>
  obtain⟨cs,t,fz,h,h2⟩:=h;exact⟨cs,t,fz,hb.trans h,h2⟩
def C2 {w:World}{b o:Nat}{v:SV}(h:sv w b o=some v):rd w b o v:=by
 have key:∀v,(w.cell? ⟨b,o,none⟩).map SV.cell=some v->rd w b o v:=λv h=>by
  obtain⟨u,hc,rfl⟩:=Qnd.1 h;exact hc
 unfold sv at h;split at h
 ·cases h;assumption
 ·rename_i cs t fz hh;split at h
  ·rename_i ho;cases h;exact⟨cs,t,fz,hh,ho.symm,rfl⟩
  ·exact key v h
 ·exact key v h
def Fg {w:World}{b o:Nat}{u:Value}(h:w.cell? ⟨b,o,none⟩=some u):sv w b o=some (.cell u):=by
 unfold sv;split
 ·rename_i hm;rw[World.cell?]at h;simp only[hm]at h;cases h
 ·rename_i cs t fz hh;rw[Qni,h]
  ·rfl
  ·intro ho;rw[cell_of_row w b o cs t fz hh]at h;have:=(Qnh.1 h).1;omega
 ·rw[h];rfl
def C3 {w:World}{b o:Nat}{v:SV}(h:rd w b o v):sv w b o=some v:=by
 cases v with
 |cell v=>exact Fg h
 |mapo es c=>
  have h:w.heap[b]? = some (.map es c):=h;unfold sv;rw[h]
 |siz n=>
  obtain⟨cs,t,fz,h,h2,h3⟩:=h;unfold sv;rw[h];dsimp only;rw[Qnj ψ,h3]
structure MR (G:Gh)(m:Qk)(w:World):Prop where
 stab:∀b o v,G.stab b o=some v->rd w b o v
 cells:∀l s xs,Qc m l s=.cells xs->∃b cs,G.nm l s=some b/\Zh s w b cs/\RepL (G.dn l) xs cs.toList
 nm:∀l s b,G.nm l s=some b->(Qc m l s).isVar=true/\∀o,G.stab b o=none
 vec:∀l s g sz xs,Qc m l s=.vec g sz xs->G.vg l s=g/\G.vz l s=sz/\Elems sz xs/\((G.vm l s=none/\xs=[])\/∃b,G.vm l s=some b/\RowIs G s w b (G.vc l s) sz xs)
 vm:∀l s b,G.vm l s=some b->(∃g sz xs,Qc m l s=.vec g sz xs)/\∀o,G.stab b o=none
 gone:∀l s,(Qc m l s).isRow=false->G.vg l s=0
 inj1:∀l s l' s' b,G.nm l s=some b->G.nm l' s'=some b->l=l'/\s=s'
 inj2:∀l s l' s' b,G.vm l s=some b->G.vm l' s'=some b->l=l'/\s=s'
 inj3:∀l s l' s' b,G.nm l s=some b->G.vm l' s'≠some b
 iter:∀l s t p,Qc m l s=.iter t p->∃b,G.nm l s=some b/\w.heap[b]? = some (t.obj p)
def MR.mine {G:Gh}{m:Qk}{w:World}(h:MR G m w){b:Nat}(hb:G.mine b):b<w.heap.size/\∀o,G.stab b o=none:=by
 rcases hb with⟨l,s,e⟩|⟨l,s,e⟩
 ·obtain⟨hx,hs⟩:=h.nm l s b e;cases hl:Qc m l s with
  |cells xs=>
   obtain⟨b',cs,e',hc,_⟩:=h.cells l s xs hl;rw[e]at e';cases e';exact⟨hc.lt,hs⟩
  |iter t p=>
   obtain⟨b',e',hh⟩:=h.iter l s t p hl;rw[e]at e';cases e';exact⟨(Qnh.1 hh).1,hs⟩
  |none=>rw[hl]at hx;cases hx
  |vec g z xs=>rw[hl]at hx;cases hx
 ·obtain⟨⟨g,sz,xs,hx⟩,hs⟩:=h.vm l s b e;obtain⟨_,_,_,hv⟩:=h.vec l s g sz xs hx;rcases hv with⟨e',_⟩|⟨b',e',hr⟩
  ·rw[e]at e';cases e'
  ·rw[e]at e';cases e';obtain⟨cur,hc,_⟩:=hr.cur;exact⟨hc.lt,hs⟩
structure Ext (k:Nat)(G:Gh)(w:World)(G':Gh)(w':World):Prop where
 os:w'.os=w.os
 tape:w'.tape=w.tape
 output:w'.output=w.output
 size:w.heap.size<=w'.heap.size
 stab:∀b o v,G.stab b o=some v->G'.stab b o=some v
 nm:∀l s,k<=l->G'.nm l s=G.nm l s
 vg:∀l s,G.vg l s<=G'.vg l s
 vs:∀l s,G'.vg l s=G.vg l s->G'.vm l s=G.vm l s/\G'.vc l s=G.vc l s/\G'.vz l s=G.vz l s
 old:∀b,b<w.heap.size->¬G.mine b->w'.heap[b]? = w.heap[b]?/\∀o,G'.stab b o=G.stab b o
 mine:∀b,G'.mine b->G.mine b\/w.heap.size<=b
 mv:∀l s b,G'.vm l s=some b->(∃i t,i<=l/\G.vm i t=some b)\/w.heap.size<=b
def Ext.refl (k:Nat)(G:Gh)(w:World):Ext k G w G w :=
 ⟨rfl,rfl,rfl,Qm8 _,λ_ _ _ h=>h,λ_ _ _=>rfl,λ_ _=>Qm8 _,λ_ _ _=>⟨rfl,rfl,rfl⟩,λ_ _ _=>⟨rfl,λ_=>rfl⟩,λ_ h=>.inl h,λl s _ h=>.inl ⟨l,s,Qm8 _,h⟩⟩
def Ext.trans {k:Nat}{G G1 G2:Gh}{w w1 w2:World}(h:Ext k G w G1 w1)(j:Ext k G1 w1 G2 w2):Ext k G w G2 w2 where
 os:=j.os.trans h.os
 tape:=j.tape.trans h.tape
 output:=j.output.trans h.output
 size:=Qm9 h.size j.size
 stab _ _ _ e:=j.stab _ _ _ (h.stab _ _ _ e)
 nm l s hl:=(j.nm l s hl).trans (h.nm l s hl)
 vg l s:=Qm9 (h.vg l s) (j.vg l s)
 vs l s e:=by
  have h1:=h.vg l s;have h2:=j.vg l s;obtain⟨a1,a2,a3⟩:=h.vs l s ψ;obtain⟨b1,b2,b3⟩:=j.vs l s ψ;exact⟨b1.trans a1,b2.trans a2,b3.trans a3⟩
 old b hb hm:=by
  obtain⟨a1,a2⟩:=h.old b hb hm;have mf:¬G1.mine b:=λhx=>by
   rcases h.mine b hx with h'|h'
   ·exact hm h'
   ·omega
  obtain⟨b1,b2⟩:=j.old b (Nat.lt_of_lt_of_le hb h.size) mf;exact⟨b1.trans a1,λo=>(b2 o).trans (a2 o)⟩
 mine:=λb hb=>by
  rcases j.mine b hb with h'|h'
  ·exact h.mine b h'
  ·exact .inr (Qm9 h.size h')
 mv:=λl s b hb=>by
  rcases j.mv l s b hb with⟨i,t,hi,h'⟩|h'
  ·rcases h.mv i t b h' with⟨i',t',kK,t8⟩|t8
   ·exact .inl ⟨i',t',Qm9 kK hi,t8⟩
   ·exact .inr t8
  ·exact .inr (Qm9 h.size h')
def Ext.mono {k k':Nat}{G G':Gh}{w w':World}(h:Ext k G w G' w')(hk:k<=k'):Ext k' G w G' w' :=
 { h with nm:=λl s hl=>h.nm l s (Qm9 hk hl) }
def Ext.gle {G G':Gh}{w w':World}(h:Ext 0 G w G' w'):Gle G G' :=
 ⟨h.stab,λl s _ e=>(h.nm l s (Qnk _)).trans e,h.vg,h.vs⟩
inductive RepD (G:Gh):DF->Deferred->Prop
 |mk {fn:Fn} {cap args:List AV} {vc va:List Value} (hc:RepL G cap vc) (ha:RepL G args va):RepD G ⟨fn,cap,args⟩ { target:=.fn fn ⟨vc⟩,args:=⟨va⟩ }
inductive RepDs (G:Gh):List DF->List Deferred->Prop
 |nil:RepDs G [] []
 |cons {d:DF} {v:Deferred} {l:List DF} {vs:List Deferred} (h:RepD G d v) (t:RepDs G l vs):RepDs G (d :: l) (v :: vs)
def RepDs.mono {G G':Gh}(hg:Gle G G'){l:List DF}{vs:List Deferred}(h:RepDs G l vs):RepDs G' l vs:=by
 induction h with
 |nil=>exact .nil
 |cons h _ ih=>cases h with|mk hc ha=>exact .cons (.mk (hc.mono hg) (ha.mono hg)) ih
def RepDs.scrub {G G':Gh}{s:Nat}(hg:Gnew s G G'){l:List DF}{vs:List Deferred}(h:RepDs G l vs):RepDs G' (l.map (DF.scrub s)) vs:=by
 induction h with
 |nil=>exact .nil
 |cons h _ ih=>cases h with|mk hc ha=>exact .cons (.mk (hc.scrub hg) (ha.scrub hg)) ih
structure Rel (G:Gh)(B N:Nat)(st:St)(a:Act)(w:World):Prop where
 mr:MR G st.m w
 size:a.tmps.size=N
 slots:∀i,Rep G (st.f i) (a.tmps.getD i undef)
 ds:RepDs G st.ds a.defers
 base:∀s b,G.nm 0 s=some b\/G.vm 0 s=some b->B<=b
 top:B<=w.heap.size
 ne:st.m≠[]
def MR.drew {G:Gh}{m:Qk}{w:World}(h:MR G m w):MR G m w.drew:=⟨h.stab,h.cells,h.nm,λl s g sz xs e=>by
  obtain⟨a,b,c,d⟩:=h.vec l s g sz xs e;exact⟨a,b,c,d.imp id λ⟨b',e',r⟩=>⟨b',e',r.of rfl λ_ h=>h⟩⟩,h.vm,h.gone,h.inj1,h.inj2,h.inj3,h.iter⟩
def Rel.drew {G:Gh}{B N:Nat}{st:St}{a:Act}{w:World}(h:Rel G B N st a w):Rel G B N st a w.drew :=
 ⟨h.mr.drew,h.size,h.slots,h.ds,h.base,h.top,h.ne⟩
def Ext.drew {k:Nat}(G:Gh)(w:World):Ext k G w G w.drew :=
 ⟨rfl,rfl,rfl,Qm8 _,λ_ _ _ h=>h,λ_ _ _=>rfl,λ_ _=>Qm8 _,λ_ _ _=>⟨rfl,rfl,rfl⟩,λ_ _ _=>⟨rfl,λ_=>rfl⟩,λ_ h=>.inl h,λl s _ h=>.inl ⟨l,s,Qm8 _,h⟩⟩
def Ql (f:Fr)(d:Option Nat)(x:AV):Fr :=
 match d with
 |some d=>QL f d x
 |none=>f
def Act.put_size (a:Act)(d:Option Tmp)(v:Value):(a.put d v).tmps.size=a.tmps.size:=by
 cases d<;>simp[Act.put]
def Act.put_defers' (a:Act)(d:Option Tmp)(v:Value):(a.put d v).defers=a.defers:=by
 cases d<;>rfl
def Er {G:Gh}{f:Fr}{a:Act}(hs:∀i,Rep G (f i) (a.tmps.getD i undef)){d:Option Nat}(hd:∀k,d=some k->k<a.tmps.size){x:AV}{v:Value}(hx:Rep G x v) :
  ∀i,Rep G (Ql f d x i) ((a.put d v).tmps.getD i undef):=by
 intro i;cases d with
 |none=>exact hs i
 |some d=>
  have aa:=hd d rfl;by_cases hi:i=d
  ·subst hi;simp only[Ql,Q6,Act.put,Qnl,Qnm]
   simpa [aa]using hx
  ·simp only[Ql,Xe _ _ hi,Act.put,Qnl];rw[Array.getElem?_setIfInBounds_ne (λe=>hi e.symm)]
   simpa [Qnl]using hs i
def Rel.put {G:Gh}{B N:Nat}{st:St}{a:Act}{w:World}(h:Rel G B N st a w){d:Option Nat}(hd:∀k,d=some k->k<N){x:AV}{v:Value}(hx:Rep G x v) :
  Rel G B N { st with f:=Ql st.f d x } (a.put d v) w :=
 ⟨h.mr,by rw[Act.put_size];exact h.size,Er h.slots (by rw[h.size];exact hd) hx,by rw[Act.put_defers'];exact h.ds,h.base,h.top,h.ne⟩
def Qt {m:Qk}{l s:Nat}{o:Ob}(h:l<m.length):Qc (Am.put m l s o) l s=o:=by
 induction m generalizing l with
 |nil=>simp at h
 |cons fr m ih=>
  cases l with
  |zero=>exact Q6 _ _ _
  |succ l=>exact ih ϡ
def QG {m:Qk}{l s l' s':Nat}{o:Ob}(h:l'≠l\/s'≠s):Qc (Am.put m l s o) l' s'=Qc m l' s':=by
 induction m generalizing l l' with
 |nil=>rfl
 |cons fr m ih=>
  cases l with
  |zero=>
   cases l' with
   |zero=>exact Xe _ _ ϡ
   |succ l'=>rfl
  |succ l=>
   cases l' with
   |zero=>rfl
   |succ l'=>exact ih ϡ
def Xy {m:Qk}{l s:Nat}(h:Qc m l s≠.none):l<m.length:=by
 induction m generalizing l with
 |nil=>exact absurd rfl h
 |cons fr m ih=>
  cases l with
  |zero=>simp
  |succ l=>have:=ih (l:=l) h;simp;omega
def WA {m:Qk}{l s:Nat}{o:Ob}(h:m≠[]):Am.put m l s o≠[]:=by
 cases m with
 |nil=>exact absurd rfl h
 |cons fr m=>cases l<;>simp[Am.put]
def Za (b o i:Nat):(⟨b,o,none⟩:Addr).add i=⟨b,o+i,none⟩:=by
 unfold Addr.add;split
 ·rename_i h;subst h;rfl
 ·rfl
def AV.shNL:Nat->List AV->List AV
 |0,x=>x
 |n+1,x=>AV.shL (AV.shNL n x)
def RepL.shNL (n:Nat):∀ {G:Gh} {x:List AV} {v:List Value},RepL (G.dn n) x v->RepL G (AV.shNL n x) v:=by
 induction n with
 |zero=>intro G x v h;exact h
 |succ n ih=>
  intro G x v h;show RepL G (AV.shL (AV.shNL n x)) v;refine RepL.sh (ih ?_);rw[Gh.dn_dn];exact h
def AV.unNL:Nat->List AV->Option (List AV)
 |0,x=>some x
 |n+1,x=>(AV.unL x).bind (AV.unNL n)
def RepL.unNL (n:Nat):∀ {G:Gh} {x y:List AV} {v:List Value},RepL G x v->AV.unNL n x=some y->RepL (G.dn n) y v:=by
 induction n with
 |zero=>intro G x y v h e;cases e;exact h
 |succ n ih=>
  intro G x y v h e;simp only[AV.unNL,Option.bind_eq_some_iff]at e;obtain⟨z,e1,e2⟩:=e;have:=ih (h.un z e1) e2;rw[Gh.dn_dn]at this;exact this
def Rep.cells_leaf {G:Gh}{x:AV}{v:Value}(h:Rep G x v)(hl:x.leaf=true):v.cells = #[v]:=by
 have:=h.leaf hl;cases v<;>first|rfl|(simp[Value.oneCell']at this)
def Rep.cells {G:Gh}{x:AV}{v:Value}(h:Rep G x v)(hl:x.cells.all AV.leaf=true):RepL G x.cells v.cells.toList:=by
 cases h with
 |agg h=>exact h
 |top=>simp[AV.cells,AV.leaf]at hl
 |tup=>simp[AV.cells,AV.leaf]at hl
 |vec hv hg h=>
  have e:=Rep.cells_leaf (Rep.vec hv hg h) rfl;rw[e];exact .cons (.vec hv hg h) .nil
 |vptr hv hg h=>
  have e:=Rep.cells_leaf (Rep.vptr hv hg h) rfl;rw[e];exact .cons (.vptr hv hg h) .nil
 |int=>exact .cons (.int _ _) .nil
 |bool=>exact .cons (.bool _) .nil
 |str=>exact .cons (.str _) .nil
 |nils=>exact .cons .nils .nil
 |nilp=>exact .cons .nilp .nil
 |nilf=>exact .cons .nilf .nil
 |nili=>exact .cons .nili .nil
 |nilm=>exact .cons .nilm .nil
 |anyp p=>exact .cons (.anyp p) .nil
 |list a b c d e f g i=>exact .cons (.list a b c d e f g i) .nil
 |lcap a b c d e f g=>exact .cons (.lcap a b c d e f g) .nil
 |iface h=>exact .cons (.iface h) .nil
 |fn a b=>exact .cons (.fn a b) .nil
 |ptr h=>exact .cons (.ptr h) .nil
 |mp h=>exact .cons (.mp h) .nil
 |mptr h=>exact .cons (.mptr h) .nil
 |rptr a b c d=>exact .cons (.rptr a b c d) .nil
def RepL.leaves {G:Gh}{l:List AV}{vs:List Value}(h:RepL G l vs)(hl:l.all AV.leaf=true):∀v∈vs,v.oneCell'=true:=by
 intro v hv;obtain⟨i,hi⟩:=Qnn.1 hv;obtain⟨x,hx,r⟩:=h.back hi;exact r.leaf (Qno.1 hl x (Qnp hx))
structure Turned (b:Nat)(w w':World):Prop where
 os:w'.os=w.os
 tape:w'.tape=w.tape
 output:w'.output=w.output
 size:w'.heap.size=w.heap.size
 heap:∀k,k≠b->w'.heap[k]? = w.heap[k]?
def Turned.refl (b:Nat)(w:World):Turned b w w:=⟨rfl,rfl,rfl,rfl,λ_ _=>rfl⟩
def Turned.trans {b:Nat}{w w1 w2:World}(h:Turned b w w1)(j:Turned b w1 w2):Turned b w w2 :=
 ⟨j.os.trans h.os,j.tape.trans h.tape,j.output.trans h.output,j.size.trans h.size,λk hk=>(j.heap k hk).trans (h.heap k hk)⟩
def Turned.set (w:World)(b i:Nat)(v:Value):Turned b w (w.setCell ⟨b,i,none⟩ v) :=
 ⟨rfl,rfl,rfl,ό,λk hk=>by
  simp only[World.setCell,Array.getElem?_modify];rw[Qni (λe=>hk e.symm)]⟩
def ZT (P:Program)(s b off:Nat):∀(vs:List Value) (i:Nat) (w:World) (cur:Array Value),Zh s w b cur->off+i+vs.length<=cur.size->(∀v∈vs,v.oneCell'=true)->
  ∃w',(storeCells ⟨b,off,none⟩ vs i).run P w=.ok () w'/\Zh s w' b (cur.toList.take (off+i)++vs++cur.toList.drop (off+i+vs.length)).toArray/\Turned b w w'
 | [],i,w,cur,hc,hf,h1=>⟨w,rfl,Ņ,Turned.refl b w⟩
 |v :: vs,i,w,cur,hc,hf,h1=>by
  simp only[Qnq]at hf;obtain⟨w',hr,hs,ht⟩:=ZT P s b off vs (i+1) (w.setCell ⟨b,off+i,none⟩ v) (cur.setIfInBounds (off+i) v) (hc.set (off+i) v) Ϗ (λu hu=>h1 u (Qnr _ hu));refine⟨w',?_,?_,(Turned.set w b (off+i) v).trans ht⟩
  ·have aR:w.cell? ⟨b,off+i,none⟩=some (cur[off+i]' ψ):=by rw[hc.cell];exact Qns _
   have nJ:w.frozen? ⟨b,off+i,none⟩=false:=hc.frozen ψ;simp only[storeCells,Za,Sem.run_bind,run_store P w _ v _ (h1 v (Qnt ..)),aR,nJ,Qnu,if_false,Result.andThen_ok];exact hr
  ·have e:((cur.setIfInBounds (off+i) v).toList.take (off+(i+1))++vs++(cur.setIfInBounds (off+i) v).toList.drop (off+(i+1)+vs.length))=cur.toList.take (off+i)++(v :: vs)++cur.toList.drop (off+i+(vs.length+1)):=by
    rw[Array.toList_setIfInBounds];have aa:off+i<cur.toList.length:=Ϗ
    rw[show off+(i+1)=off+i+1 by omega,Qnv ô];rw[List.drop_set_of_lt ψ,List.take_set_of_le (Qm8 _)];simp only[List.getElem_set_self,Qnw,Qnx,Qny];congr 4
    omega
   rw[e]at hs;exact hs
def splice (xs:List AV)(o:Nat)(ys:List AV):List AV:=xs.take o++ys++xs.drop (o+ys.length)
def G9 {xs ys:List AV}{o:Nat}(h:o+ys.length<=xs.length):(splice xs o ys).length=xs.length:=by
 simp[splice];omega
def RepL.splice {G:Gh}{xs ys:List AV}{vs us:List Value}(h:RepL G xs vs)(h':RepL G ys us)(o:Nat):RepL G (splice xs o ys) (vs.take o++us++vs.drop (o+us.length)):=by
 rw[h'.length];exact((h.take o).append h').append (h.drop _)
def MR.stored {G:Gh}{m:Qk}{w w':World}(h:MR G m w){l s b:Nat}{xs:List AV}(hx:Qc m l s=.cells xs)(hb:G.nm l s=some b)(ht:Turned b w w'){ys:List AV}{cs:Array Value}(hs:Zh s w' b cs)(hy:RepL (G.dn l) ys cs.toList) :
  MR G (Am.put m l s (.cells ys)) w' where
 stab k o v e:=by
  exact OB
 cells l' s' zs e:=by
  by_cases hh:l'=l/\s'=s
  ·obtain⟨rfl,rfl⟩:=hh;rw[Qt (Xy Ο)]at e;cases e;exact⟨b,cs,hb,hs,hy⟩
  ·exact S_
 nm l' s' b' e:=by
  obtain⟨hz,h2⟩:=h.nm l' s' b' e;refine⟨?_,h2⟩;by_cases hh:l'=l/\s'=s
  ·obtain⟨rfl,rfl⟩:=hh;rw[Qt (Xy Ο)];rfl
  ·rw[QG ψ];exact hz
 vec l' s' g sz zs e:=by
  exact zI
 vm l' s' b' e:=by
  obtain⟨⟨g,sz,zs,hz⟩,h2⟩:=h.vm l' s' b' e;refine⟨?_,h2⟩;by_cases hh:l'=l/\s'=s
  ·obtain⟨rfl,rfl⟩:=hh;rw[hx]at hz;cases hz
  ·exact⟨g,sz,zs,ë⟩
 gone l' s' e:=by
  exact Oh
 inj1:=h.inj1
 inj2:=h.inj2
 inj3:=h.inj3
 iter l' s' t p e:=by
  by_cases hh:l'=l/\s'=s
  ·obtain⟨rfl,rfl⟩:=hh;rw[Qt (Xy Ο)]at e;cases e
  ·rw[QG ψ]at e;obtain⟨b',e',hc⟩:=h.iter l' s' t p e;exact OO
def Ext.turned {k:Nat}{G:Gh}{w w':World}{b:Nat}(ht:Turned b w w')(hm:G.mine b):Ext k G w G w' :=
 ⟨ht.os,ht.tape,ht.output,by rw[ht.size];exact Qm8 _,λ_ _ _ h=>h,λ_ _ _=>rfl,λ_ _=>Qm8 _,λ_ _ _=>⟨rfl,rfl,rfl⟩,
  λb' _ hn=>⟨ht.heap b' (λe=>hn (e▸hm)),λ_=>rfl⟩,λ_ h=>.inl h,λl s _ h=>.inl ⟨l,s,Qm8 _,h⟩⟩
def BT {m:Qk}{s t:Nat}:Qc (UF s m) 0 t=(Qc m 0 t).scrub s:=by
 cases m<;>rfl
def BU {m:Qk}{s l t:Nat}:Qc (UF s m) (l+1) t=Qc m (l+1) t:=by
 cases m<;>rfl
def V5 {m:Qk}{s:Nat}(h:m≠[]):UF s m≠[]:=by
 cases m with
 |nil=>exact absurd rfl h
 |cons fr m=>simp[UF]
def Ob.scrub_cells {o:Ob}{s:Nat}{xs:List AV}(h:o.scrub s=.cells xs):∃ys,o=.cells ys/\xs=AV.scrubL s ys:=by
 cases o<;>simp[Ob.scrub]at h;exact⟨_,rfl,h.symm⟩
def Ob.scrub_iter {o:Ob}{s p:Nat}{t:IT}(h:o.scrub s=.iter t p):o=.iter t p:=by
 cases o<;>simp[Ob.scrub]at h;obtain⟨rfl,rfl⟩:=h;rfl
def Ob.scrub_vec {o:Ob}{s g sz:Nat}{xs:List AV}(h:o.scrub s=.vec g sz xs):o=.vec g sz xs:=by
 cases o<;>simp[Ob.scrub]at h;obtain⟨rfl,rfl,rfl⟩:=h;rfl
def Gh.fresh (G:Gh)(s b:Nat):Gh :=
 { G with nm:=λl t=>if l=0/\t=s then some b else G.nm l t }
def Gg (m:Qk)(s:Nat):Bool :=
 match Qc m 0 s with
 |.vec .. => false
 |_=>true
inductive RA where
 |t (n:Nat)
 |c (x:AV)
 |f (k:FuncId)
 |g (k:Nat) (l:List AV)
def RA.ev (f:Fr):RA->AV
 |.t n=>f n
 |.c x=>x
 |.f k=>.fn (.func k) [] []
 |.g _ l=>.rptr l
inductive Ty where
 |num|str|bool|ptr|iface|other
 deriving DecidableEq
inductive VO where
 |mov (x:RA)
 |pick (c a b:RA)
 |build (z:List AV) (ps:List (Nat×Nat×RA))
 |load (k:Option Nat) (x:RA)
 |loadv (l s:Nat) (k:Option Nat) (x:RA)
 |loado (k:Option Nat) (x:RA)
 |nilck (x:RA)
 |bin (ty:Ty) (op:BinOp) (x y:RA)
 |eqs (neg:Bool) (ks:List Ty) (x y:RA)
 |un (op:UnOp) (x:RA)
 |cvi (k:IntKind) (x:RA)
 |b2s (x:RA)
 |slc (sz:Option Nat) (x:RA) (lo hi mx:Option RA)
 |slcl (x hi mx:RA)
 |faddr (off:Nat) (x:RA)
 |fld (off:Nat) (k:Option Nat) (x:RA)
 |iaddr (sz:Nat) (len:Option Nat) (x i:RA)
 |idx (x i:RA)
 |ext (x:RA) (i:Nat)
 |len (k:Nat) (x:RA)
 |mnx (mx:Bool) (x y:RA)
 |mkfn (f:Fn) (first cap:List RA)
 |loadr (k:Option Nat) (x:RA)
 |toU (x:RA)
 |ofU (t n:Nat) (x:RA)
 |same (x:RA)
 |mget (t ok:Bool) (z:AV) (x i:RA)
 |mgetp (t ok:Bool) (z:AV) (x i:RA)
 |mki (t:Nat) (x:RA)
 |tas (t:Nat) (ok:Bool) (z:AV) (x:RA)
 |slcp (sz:Option Nat) (x:RA) (lo hi mx:Option RA)
def XE (op:BinOp)(k:IntKind)(a b:Int):Option AV :=
 match op with
 |.add=>some (.int k (k.wrap (a+b)))
 |.sub=>some (.int k (k.wrap (a-b)))
 |.mul=>some (.int k (k.wrap (a*b)))
 |.quo=>if b=0 then none else some (.int k (k.wrap (a.tdiv b)))
 |.rem=>if b=0 then none else some (.int k (a.tmod b))
 |.and=>some (.int k (bits .and k a b))
 |.or=>some (.int k (bits .or k a b))
 |.xor=>some (.int k (bits .xor k a b))
 |.andNot=>some (.int k (bits .andNot k a b))
 |.eql=>some (.bool (a==b))
 |.neq=>some (.bool (a != b))
 |.lss=>some (.bool (a<b))
 |.leq=>some (.bool (a<=b))
 |.gtr=>some (.bool (b<a))
 |.geq=>some (.bool (b<=a))
 |_=>none
def QX (op:BinOp)(a b:List UInt8):Option AV :=
 match op with
 |.add=>if a.length+b.length<=9223372036854775807 then some (.str (a++b))else none
 |.eql=>some (.bool (a==b))
 |.neq=>some (.bool (!(a==b)))
 |.lss=>some (.bool (Op.bytesLess a b))
 |.leq=>some (.bool (Op.bytesLess a b||a==b))
 |.gtr=>some (.bool (!(Op.bytesLess a b||a==b)))
 |.geq=>some (.bool (!Op.bytesLess a b))
 |_=>none
def Xl (ty:Ty)(op:BinOp)(x y:AV):Option AV :=
 match x,y with
 |.int k a,.int k' b=>
  match op with
  |.shl=>if 0<=b then some (.int k (k.wrap (a*2 ^ (min b.toNat k.bits))))else none
  |.shr=>if 0<=b then some (.int k (a.fdiv (2 ^ (min b.toNat k.bits))))else none
  |op=>if k=k' then XE op k a b else none
 |.str a,.str b=>QX op a b
 |.bool a,.bool b=>
  match ty,op with
  |.bool,.eql=>some (.bool (a==b))
  |.bool,.neq=>some (.bool (!(a==b)))
  |_,_=>none
 |.nilp,.nilp=>
  match ty,op with
  |.ptr,.eql=>some (.bool true)
  |.ptr,.neq=>some (.bool false)
  |_,_=>none
 |.ptr _ _ _,.nilp=>
  match ty,op with
  |.ptr,.eql=>some (.bool false)
  |.ptr,.neq=>some (.bool true)
  |_,_=>none
 |.ptr l s o,.ptr l' s' o'=>
  if l=l'/\s=s'/\o=o' then
   match ty,op with
   |.ptr,.eql=>some (.bool true)
   |.ptr,.neq=>some (.bool false)
   |_,_=>none
  else none
 |_,_=>none
def BW:Ty->AV->AV->Option Bool
 |.num,.int k a,.int k' b=>if k=k' then some (a==b)else none
 |.bool,.bool a,.bool b=>some (a==b)
 |.str,.str a,.str b=>some (a==b)
 |_,_,_=>none
def FN:List Ty->List AV->List AV->Option Bool
 | [],[],[]=>some true
 |t :: ts,x :: l,y :: r=>match BW t x y,FN ts l r with
  |some a,some b=>some (a&&b)
  |_,_=>none
 |_,_,_=>none
def Dj (op:UnOp)(x:AV):Option AV :=
 match op,x with
 |.neg,.int k n=>some (.int k (k.wrap (0-n)))
 |.xor,.int k n=>some (.int k (bits .xor k (if k.signed then -1 else k.max) n))
 |.not,.bool b=>some (.bool (!b))
 |_,_=>none
def fill (f:Fr):List (Nat×Nat×RA)->List AV->Option (List AV)
 | [],z=>some z
 |(o,n,x) :: ps,z=>
  if (x.ev f).cells.length=n/\o+n<=z.length/\(x.ev f).cells.all AV.leaf=true then fill f ps (splice z o (x.ev f).cells)else none
def bytesOf:List AV->Option (List UInt8)
 | []=>some []
 |.int .u8 n :: l=>(bytesOf l).map (UInt8.ofNat n.toNat :: ·)
 |_ :: _=>none
def Xc (m:Qk):AV->Option (List AV)
 |.nils=>some []
 |.list l=>some l
 |.vec l s g o n _=>match Qc m l s with
  |.vec g' _ xs=>if g=g'/\o+n<=xs.length then some ((xs.drop o).take n)else none
  |_=>none
 |_=>none
def JR (f:Fr)(d:Nat):Option RA->Option Nat
 |none=>some d
 |some r=>match r.ev f with
  |.int _ n=>if 0<=n then some n.toNat else none
  |_=>none
def Xz (m:Qk)(sz:Option Nat)(x:AV)(lo hi:Nat)(mx:Option Nat):Option AV :=
 match sz with
 |none=>match x with
  |.str s=>match mx with
   |none=>if lo<=hi/\hi<=s.length then some (.str ((s.drop lo).take (hi-lo)))else none
   |some _=>none
  |_=>none
 |some z=>match x with
  |.nils=>if lo=0/\hi=0/\mx.getD 0=0 then some .nils else none
  |.list l=>if lo<=hi/\hi<=mx.getD l.length/\mx.getD l.length<=l.length/\(lo=0\/l.all (λe=>e.cells.length==z)=true)then some (.list ((l.drop lo).take (hi-lo)))else none
  |.vec l s g o n q=>match Qc m l s with
   |.vec g' z' _=>if g=g'/\z=z'/\lo<=hi/\hi<=mx.getD n/\mx.getD n<=n then some (.vec l s g (o+lo) (hi-lo) (q||mx.isSome))else none
   |_=>none
  |_=>none
def Jz:AV->Option Nat
 |.str s=>some s.length
 |.nils|.nilm=>some 0
 |.list l=>some l.length
 |.vec _ _ _ _ n _=>some n
 |_=>none
def part (l:List AV)(o:Nat):Option Nat->Option AV
 |none=>l[o]?
 |some k=>if o+k<=l.length then some (.agg ((l.drop o).take k))else none
def Y8 (m:Qk)(l s:Nat):Option Nat :=
 match Qc m l s with
 |.vec g _ _=>some g
 |_=>none
def XH (m:Qk)(k:Option Nat):AV->Option AV
 |.ptr l s o=>match Qc m l s with
  |.cells xs=>match k with
   |none=>match xs[o]? with
    |some x=>some (x.shN l)
    |none=>none
   |some k=>if o+k<=xs.length then some (.agg (AV.shNL l ((xs.drop o).take k)))else none
  |_=>none
 |.vptr l s g i o=>match Qc m l s with
  |.vec g' _ xs=>if g=g' then match xs[i]? with
    |some e=>part e.cells o k
    |none=>none
   else none
  |_=>none
 |.rptr xs=>part xs 0 k
 |_=>none
def Qg (m:Qk)(sz:Nat)(len:Option Nat)(x:AV)(i:Int):Option AV :=
 if 0<=i then
  match len with
  |none=>match x with
   |.list l=>match l[i.toNat]? with
    |some e=>if e.cells.length=sz then some (.rptr e.cells)else none
    |none=>none
   |.vec l s g o n _=>match Qc m l s with
    |.vec g' eG _=>if g=g'/\sz=eG/\i.toNat<n then some (.vptr l s g (o+i.toNat) 0)else none
    |_=>none
   |_=>none
  |some n=>match x with
   |.ptr l s o=>if i.toNat<n then some (.ptr l s (o+i.toNat*sz))else none
   |.rptr xs=>if i.toNat<n then some (.rptr (xs.drop (i.toNat*sz)))else none
   |_=>none
 else none
def K3 (m:Qk):AV->Option (List MK×List AV)
 |.mp ks vs=>some (ks,vs)
 |.mptr l s=>match Qc m l s with
  |.iter (.mp ks vs) _=>some (ks,vs)
  |_=>none
 |_=>none
def Wk:Bool->AV->Option MK
 |true,.str l=>some (.s l)
 |false,.int .i64 n=>some (.n n)
 |_,_=>none
def keys (t:Bool)(ks:List MK):Bool:=ks.all λk=>k.t==t
def KB (k:MK):List MK->List AV->Option AV
 |k' :: ks,v :: vs=>bif k.eq k' then some v else KB k ks vs
 |_,_=>none
def Zy (k:MK)(x:AV):List MK->List AV->List MK×List AV
 |k' :: ks,v :: vs=>bif k.eq k' then(k' :: ks,x :: vs)else(k' :: (Zy k x ks vs).1,v :: (Zy k x ks vs).2)
 |_,_=>([k],[x])
def Qz (f:Fr)(m:Qk):VO->Option AV
 |.mov x=>some (x.ev f)
 |.pick c a b=>match c.ev f with
  |.bool t=>some (bif t then a.ev f else b.ev f)
  |_=>none
 |.build z ps=>(fill f ps z).map .agg
 |.load k x=>XH m k (x.ev f)
 |.loado k x=>match x.ev f with
  |.ptr (l+1) s o=>XH m k (.ptr (l+1) s o)
  |_=>none
 |.loadv l s k x=>match x.ev f with
  |.ptr l' s' o=>if l'=l/\s'=s then XH m k (.ptr l' s' o)else none
  |_=>none
 |.loadr k x=>match x.ev f with
  |.rptr xs=>XH m k (.rptr xs)
  |.vptr l s g i o=>XH m k (.vptr l s g i o)
  |_=>none
 |.nilck x=>match x.ev f with
  |.ptr l s o=>some (.ptr l s o)
  |.vptr l s g i o=>if Y8 m l s=some g then some (.vptr l s g i o)else none
  |.rptr xs=>some (.rptr xs)
  |.fn (.func k) a b=>some (.fn (.func k) a b)
  |_=>none
 |.bin ty op x y=>Xl ty op (x.ev f) (y.ev f)
 |.eqs neg ks x y=>match x.ev f,y.ev f with
  |.agg a,.agg b=>match FN ks a b with
   |some r=>some (.bool (bif neg then !r else r))
   |none=>none
  |_,_=>none
 |.un op x=>Dj op (x.ev f)
 |.cvi k x=>match x.ev f with
  |.int _ n=>some (.int k (k.wrap n))
  |_=>none
 |.b2s x=>match Xc m (x.ev f)with
  |some l=>(bytesOf l).map .str
  |none=>none
 |.slcl x hi mx=>match x.ev f with
  |.list l=>match hi.ev f with
   |.int _ a=>match mx.ev f with
    |.int _ b=>if a=(l.length:Int)/\b=(l.length:Int)then some (.lcap l)else none
    |_=>none
   |_=>none
  |_=>none
 |.slc sz x lo hi mx=>match Jz (x.ev f),JR f 0 lo with
  |some n,some a=>match JR f n hi with
   |some b=>match mx with
    |none=>Xz m sz (x.ev f) a b none
    |some r=>match JR f 0 (some r)with
     |some c=>Xz m sz (x.ev f) a b (some c)
     |none=>none
   |none=>none
  |_,_=>none
 |.faddr off x=>match x.ev f with
  |.ptr l s o=>some (.ptr l s (o+off))
  |.vptr l s g i o=>if Y8 m l s=some g then some (.vptr l s g i (o+off))else none
  |.rptr xs=>some (.rptr (xs.drop off))
  |_=>none
 |.fld off k x=>match x.ev f with
  |.agg l=>part l off k
  |_=>none
 |.iaddr sz len x i=>match i.ev f with
  |.int _ n=>Qg m sz len (x.ev f) n
  |_=>none
 |.idx x i=>match x.ev f,i.ev f with
  |.str s,.int _ n=>if 0<=n then match s[n.toNat]? with
    |some b=>some (.int .u8 (b.toNat:Int))
    |none=>none
   else none
  |_,_=>none
 |.ext x i=>match x.ev f with
  |.tup l=>l[i]?
  |_=>none
 |.len k x=>match k with
  |0=>match x.ev f with
   |.str s=>some (.int .i64 (s.length:Int))
   |_=>none
  |1=>match x.ev f with
   |.nils=>some (.int .i64 0)
   |.list l=>some (.int .i64 (l.length:Int))
   |.vec l s g _ n _=>if Y8 m l s=some g then some (.int .i64 (n:Int))else none
   |_=>none
  |_=>match x.ev f with
   |.nilm=>some (.int .i64 0)
   |_=>none
 |.mnx mx x y=>match x.ev f,y.ev f with
  |.int k a,.int k' b=>if k=k' then some (.int k (bif mx then(if a<b then b else a)else(if b<a then b else a)))else none
  |_,_=>none
 |.mkfn fn first cap=>some (.fn fn (first.map (RA.ev f)) (cap.map (RA.ev f)))
 |.toU x=>match x.ev f with
  |.ptr l s o=>match Qc m l s with
   |.cells xs=>if o<xs.length then some (.ptr l s o)else none
   |_=>none
  |_=>none
 |.ofU t n x=>match x.ev f with
  |.ptr l s o=>match Qc m l s with
   |.cells xs=>if o=0/\xs.length=n/\s=t+2000 then some (.ptr l s 0)else none
   |_=>none
  |_=>none
 |.same x=>some (x.ev f)
 |.mgetp t ok z x i=>match x.ev f with
  |.mp ks vs=>match Wk t (i.ev f)with
   |some k=>bif keys t ks then(match KB k ks vs with
    |some v=>bif v.gr then some (bif ok then .tup [v,.bool true]else v)else none
    |none=>some (bif ok then .tup [z,.bool false]else z))else none
   |none=>none
  |_=>none
 |.mget t ok z x i=>match K3 m (x.ev f)with
  |some (ks,vs)=>match Wk t (i.ev f)with
   |some k=>bif keys t ks then(match KB k ks vs with
    |some v=>bif v.gr then some (bif ok then .tup [v,.bool true]else v)else none
    |none=>some (bif ok then .tup [z,.bool false]else z))else none
   |none=>none
  |none=>none
 |.mki t x=>some (.iface t (x.ev f))
 |.tas t ok z x=>match x.ev f with
  |.iface t' y=>bif t'==t then some (bif ok then .tup [y,.bool true]else y)else(bif ok then some (.tup [z,.bool false])else none)
  |.nili=>bif ok then some (.tup [z,.bool false])else none
  |_=>none
 |.slcp sz x lo hi mx=>match x.ev f with
  |.list l=>match JR f 0 lo with
   |some a=>match JR f l.length hi with
    |some b=>match mx with
     |none=>Xz [] sz (.list l) a b none
     |some r=>match JR f 0 (some r)with
      |some c=>Xz [] sz (.list l) a b (some c)
      |none=>none
    |none=>none
   |none=>none
  |_=>none
mutual
def AV.isC:AV->Value->Bool
 |.int k' n',v=>match v with|.int k n=>k==k'&&n==n'|_=>false
 |.bool b',v=>match v with|.bool b=>b==b'|_=>false
 |.str l,v=>match v with|.string s=>s.data.toList==l|_=>false
 |.nils,v=>match v with|.slice none 0 0=>true|_=>false
 |.nilp,v=>match v with|.pointer none=>true|_=>false
 |.nilf,v=>match v with|.nilFunc=>true|_=>false
 |.nili,v=>match v with|.nilIface=>true|_=>false
 |.nilm,v=>match v with|.map none=>true|_=>false
 |.agg l,v=>match v with|.agg vs=>AV.isCL l vs.toList|_=>false
 |.tup l,v=>match v with|.tuple vs=>AV.isCL l vs.toList|_=>false
 |_,_=>false
def AV.isCL:List AV->List Value->Bool
 | [],vs=>vs.isEmpty
 |x :: l,vs=>match vs with|v :: vs=>x.isC v&&AV.isCL l vs | []=>false
end
def isC (v:Value)(x:AV):Bool:=x.isC v
def isCL (vs:List Value)(l:List AV):Bool:=AV.isCL l vs
def QO:Operand->RA->Bool
 |.tmp t,.t n=>t==n
 |.const v,.c x=>isC v x
 |.func k,.f k'=>k==k'
 |.global k,.g k' l=>k==k'&&(match Md.lookup k with
  |some vs=>isCL vs l&&AV.rfL l&&l.all AV.leaf
  |none=>false)
 |_,_=>false
def YB:Option Operand->Option RA->Bool
 |none,none=>true
 |some x,some r=>QO x r
 |_,_=>false
def WM:List Operand->List RA->Bool
 | [],[]=>true
 |x :: xs,r :: rs=>QO x r&&WM xs rs
 |_,_=>false
def Jw (P:Program)(t:TypeId):Option (Option Nat) :=
 match P.underlying t,P.info? t with
 |some (.struct _),some i=>some (some i.size)
 |some (.array _ _),some i=>some (some i.size)
 |some _,some _=>some none
 |_,_=>none
def Ui (P:Program)(t:TypeId)(k:IntKind):Bool :=
 match P.underlying t with
 |some (.int k')=>k==k'
 |_=>false
def YQ (P:Program)(t:TypeId):Bool :=
 match P.underlying t with
 |some .string=>true
 |_=>false
def Me (P:Program)(tx:Bool)(t:TypeId):Bool:=bif tx then YQ P t else Ui P t .i64
def W9 (P:Program)(t:TypeId):Ty :=
 match P.underlying t with
 |some (.int _)=>.num
 |some .string=>.str
 |some .bool=>.bool
 |some (.pointer e)=>if (P.info? e).isSome then .ptr else .other
 |some (.interface _)=>.iface
 |_=>.other
def KQ (P:Program):Nat->List Field->List Ty->Bool
 |_,[],[]=>true
 |o, fl :: fs, t :: ts=>fl.offset==o&&fl.name != "_" && W9 P fl.type==t&&KQ P (o+1) fs ts
 |_,_,_=>false
def Mf (P:Program)(fs:Array Field):Option (List (Nat×Nat)) :=
 fs.toList.mapM λfl=>(P.info? fl.type).map λi=>(fl.offset,i.size)
def YC (pl:List (Nat×Nat)):List (Nat×Operand)->List (Nat×Nat×RA)->Bool
 | [],[]=>true
 |(i,x) :: xs,(o,n,r) :: rs=>pl[i]? == some (o,n)&&QO x r&&YC pl xs rs
 |_,_=>false
def W0 (sz:Nat):List (Nat×Operand)->List (Nat×Nat×RA)->Bool
 | [],[]=>true
 |(i,x) :: xs,(o,n,r) :: rs=>(o==i*sz&&n==sz)&&QO x r&&W0 sz xs rs
 |_,_=>false
def UG (P:Program)(t:TypeId):Bool :=
 match P.underlying t with
 |some (.interface _)=>false
 |some _=>true
 |none=>false
def Zo (P:Program)(op:Op)(vo:VO):Bool :=
 match vo with
 |.mov r=>match op with
  |.move x|.assign x=>QO x r
  |_=>false
 |.pick c a b=>match op with
  |.pick x y z=>QO x c&&QO y a&&QO z b
  |_=>false
 |.build z ps=>match op with
  |.build t Qo=>match P.underlying t,P.info? t with
   |some (.struct fs),some i=>match i.zero,Mf P fs with
    |some zv,some pl=>isCL zv.cells.toList z&&YC pl Qo.toList ps
    |_,_=>false
   |some (.array _ e),some i=>match i.zero,P.info? e with
    |some zv,some ie=>isCL zv.cells.toList z&&W0 ie.size Qo.toList ps
    |_,_=>false
   |_,_=>false
  |_=>false
 |.load k r=>match op with
  |.load t x=>Jw P t==some k&&QO x r
  |_=>false
 |.loado k r=>match op with
  |.load t x=>Jw P t==some k&&QO x r
  |_=>false
 |.loadv _ _ k r=>match op with
  |.load t x=>Jw P t==some k&&QO x r
  |_=>false
 |.loadr k r=>match op with
  |.load t x=>Jw P t==some k&&QO x r
  |_=>false
 |.nilck r=>match op with
  |.nilCheck x=>QO x r
  |_=>false
 |.bin ty o r s=>match op with
  |.binOp o' t x y _=>o==o'&&W9 P t==ty&&QO x r&&QO y s
  |_=>false
 |.eqs neg ks r s=>match op with
  |.binOp o t x y _=>(o==(if neg then .neq else .eql))&&(match P.underlying t with|some (.struct fs)=>KQ P 0 fs.toList ks|_=>false) && !P.stoodInHeld t && !P.eqGuardType P.depth t&&QO x r&&QO y s
  |_=>false
 |.un o r=>match op with
  |.unOp o' _ x=>o==o'&&QO x r
  |_=>false
 |.cvi k r=>match op with
  |.convert src dst x=>Ui P dst k&&(P.underlying src).isSome&&QO x r
  |_=>false
 |.b2s r=>match op with
  |.convert src dst x=>YQ P dst&&(match P.underlying src with|some (.slice e)=>Ui P e .u8&&(P.info? e).any (λi=>i.size==1)|_=>false)&&QO x r
  |_=>false
 |.slcl r hi mx=>match op with
  |.slice t x none (some y) (some z)=>(match P.underlying t with
   |some (.slice e)=>(P.info? e).isSome
   |_=>false)&&QO x r&&QO y hi&&QO z mx
  |_=>false
 |.slc sz r lo hi mx=>match op with
  |.slice t x l h m=>(match sz with|none=>YQ P t|some z=>(match P.underlying t with|some (.slice e)=>(P.info? e).any (λi=>i.size==z)|_=>false))&&QO x r&&YB l lo&&YB h hi&&YB m mx&&(m.isNone||h.isSome)
  |_=>false
 |.faddr off r=>match op with
  |.fieldAddr t x k=>(match P.underlying t with
   |some (.struct fs)=>match fs[k]? with
    |some fl=>fl.offset==off&&(P.info? fl.type).any (λi=>i.size != 0)
    |none=>false
   |_=>false)&&QO x r
  |_=>false
 |.fld off k r=>match op with
  |.field t x i=>(match P.underlying t with
   |some (.struct fs)=>match fs[i]? with
    |some fl=>fl.offset==off&&Jw P fl.type==some k
    |none=>false
   |_=>false)&&QO x r
  |_=>false
 |.iaddr sz len r i=>match op with
  |.indexAddr t x y=>(match P.underlying t with
   |some (.slice e)=>len==none&&(P.info? e).any (λj=>j.size==sz)&&sz != 0
   |some (.array n e)=>len==some n&&(P.info? e).any (λj=>j.size==sz)&&sz != 0
   |_=>false)&&QO x r&&QO y i
  |_=>false
 |.idx r i=>match op with
  |.index t x y=>YQ P t&&QO x r&&QO y i
  |_=>false
 |.ext r i=>match op with
  |.extract x k=>k==i&&QO x r
  |_=>false
 |.len k r=>match op with
  |.call { callee:=.builtin .len,args:=⟨[x]⟩,argTypes:=⟨[t]⟩ }=>(match P.underlying t with|some .string=>k==0|some (.slice _)=>k==1|some (.map _ _)=>k==2|_=>false)&&QO x r
  |_=>false
 |.mnx mx r s=>match op with
  |.call { callee:=.builtin b,args:=⟨[x,y]⟩,argTypes:=_ }=>(match b with|.max=>mx|.min=>!mx|_=>false)&&QO x r&&QO y s
  |_=>false
 |.mkfn fn a b=>match op with
  |.makeFunc vt xs ys=>fn==vt&&WM xs.toList a&&WM ys.toList b
  |_=>false
 |.toU r=>match op with
  |.convert src dst x=>(match P.underlying src with|some (.pointer t)=>(P.info? t).any (λi=>i.size != 0)|_=>false)&&(match P.underlying dst with|some .unsafePointer=>true|_=>false)&&QO x r
  |_=>false
 |.ofU t n r=>match op with
  |.convert src dst x=>(match P.underlying src with|some .unsafePointer=>true|_=>false)&&(match P.underlying dst with|some (.pointer u)=>u==t&&(P.info? u).isSome&&liesAt P P.depth t (n / P.cellsOf t) 0 t 1|_=>false)&&QO x r
  |_=>false
 |.same r=>match op with
  |.call { callee := .value (.func k), args := ⟨[x]⟩, argTypes := _ }=>(match P.funcs[k]? with|some fn=>fn.name == "internal/abi.NoEscape" && fn.body.isNone&&(Extern.allNextRows.lookup fn.origin).isNone|_=>false)&&QO x r
  |_=>false
 |.mgetp tx ok z r i=>match op with
  |.lookup t x y l_=>(match P.underlying t with
   |some (.map kt et)=>Me P tx kt&&(match P.info? et with
    |some inf=>match inf.zero with
     |some zv=>isC zv z
     |none=>false
    |none=>false)
   |_=>false)&&ok==l_&&QO x r&&QO y i
  |_=>false
 |.mget tx ok z r i=>match op with
  |.lookup t x y l_=>(match P.underlying t with
   |some (.map kt et)=>Me P tx kt&&(match P.info? et with
    |some inf=>match inf.zero with
     |some zv=>isC zv z
     |none=>false
    |none=>false)
   |_=>false)&&ok==l_&&QO x r&&QO y i
  |_=>false
 |.mki t r=>match op with
  |.makeInterface t' x=>t==t'&&UG P t&&QO x r
  |_=>false
 |.tas t ok z r=>match op with
  |.typeAssert x _ t' l_=>t==t'&&UG P t&&(match P.info? t with
   |some inf=>match inf.zero with
    |some zv=>isC zv z
    |none=>false
   |none=>false)&&ok==l_&&QO x r
  |_=>false
 |.slcp sz r lo hi mx=>match op with
  |.slice t x l h m=>(match sz with|none=>YQ P t|some z=>(match P.underlying t with|some (.slice e)=>(P.info? e).any (λi=>i.size==z)|_=>false))&&QO x r&&YB l lo&&YB h hi&&YB m mx&&(m.isNone||h.isSome)
  |_=>false
mutual
theorem AV.isC_ok {G:Gh}:∀(x:AV) (v:Value),x.isC v=true->Rep G x v
 |.int k n,v,h=>by
   cases v<;>simp[AV.isC]at h;obtain⟨rfl,rfl⟩:=h;exact .int _ _
 |.bool b,v,h=>by
   cases v<;>simp[AV.isC]at h;subst h;exact .bool _
 |.str s,v,h=>by
   cases v<;>simp[AV.isC]at h;subst h;exact .str _
 |.nils,v,h=>by
   simp only[AV.isC]at h;split at h
   ·exact .nils
   ·cases h
 |.nilp,v,h=>by
   simp only[AV.isC]at h;split at h
   ·exact .nilp
   ·cases h
 |.nilf,v,h=>by
   simp only[AV.isC]at h;split at h
   ·exact .nilf
   ·cases h
 |.nili,v,h=>by
   simp only[AV.isC]at h;split at h
   ·exact .nili
   ·cases h
 |.nilm,v,h=>by
   simp only[AV.isC]at h;split at h
   ·exact .nilm
   ·cases h
 |.agg l,v,h=>by
   simp only[AV.isC]at h;split at h
   ·exact .agg (AV.isCL_ok l _ h)
   ·cases h
 |.tup l,v,h=>by
   simp only[AV.isC]at h;split at h
   ·exact .tup (AV.isCL_ok l _ h)
   ·cases h
 |.top,v,h=>Ã
 |.list l,v,h=>Ã
 |.lcap l,v,h=>Ã
 |.iface t x,v,h=>Ã
 |.fn f a b,v,h=>Ã
 |.ptr l s o,v,h=>Ã
 |.vec l s g o n q,v,h=>Ã
 |.vptr l s g i o,v,h=>Ã
 |.rptr l,v,h=>Ã
theorem AV.isCL_ok {G:Gh}:∀(l:List AV) (vs:List Value),AV.isCL l vs=true->RepL G l vs
 | [],vs,h=>by
   cases vs with
   |nil=>exact .nil
   |cons v vs=>simp[AV.isCL]at h
 |x :: l,vs,h=>by
   cases vs with
   |nil=>simp[AV.isCL]at h
   |cons v vs=>
    simp only[AV.isCL,Qnz]at h;exact .cons (AV.isC_ok x v h.1) (AV.isCL_ok l vs h.2)
end
def isC_ok {G:Gh}{v:Value}{x:AV}(h:isC v x=true):Rep G x v:=AV.isC_ok x v h
def isCL_ok {G:Gh}{v:List Value}{x:List AV}(h:isCL v x=true):RepL G x v:=AV.isCL_ok x v h
section
variable {P:Program}{G:Gh}{B N:Nat}{st:St}{a:Act}{w:World}
theorem Qx (h:Rel G B N st a w){x:Operand}{r:RA}(hc:QO x r=true):Rep G (r.ev st.f) (a.eval x):=by
 cases x with
 |tmp t=>
  cases r<;>simp[QO]at hc;subst hc;exact h.slots t
 |const v=>
  cases r<;>simp[QO]at hc;exact isC_ok hc
 |global g=>
  cases r<;>simp only[QO,Qnu]at hc;rename_i k l;rw[Qnz,Qng]at hc;obtain⟨rfl,hc⟩:=hc;cases hl:Md.lookup g with
  |none=>rw[hl]at hc;cases hc
  |some vs=>
   rw[hl]at hc;simp only[Qnz]at hc;obtain⟨⟨h1,h2⟩,h3⟩:=hc;refine .rptr (b:=g) (o:=0) (isCL_ok h1) h2 h3 λj u hj=>G.tab _ _ _ ?_
   have ql:=(Qna.1 hj).1;simp only[J9,hl,QnA,hj,QnB];rw[Qni ψ]
 |func k=>
  cases r<;>simp[QO]at hc;subst hc;exact .fn .nil .nil
theorem Gi (h:Rel G B N st a w):∀ {xs:List Operand} {rs:List RA},WM xs rs=true->RepL G (rs.map (RA.ev st.f)) (xs.map a.eval)
 | [],[],_=>.nil
 |x :: xs,r :: rs,hc=>by
   simp only[WM,Qnz]at hc;exact .cons (Qx h hc.1) (Gi h hc.2)
 | [],_ :: _,hc=>by simp[WM]at hc
 |_ :: _,[],hc=>by simp[WM]at hc
theorem Qdd {op:BinOp}{k:IntKind}{m n:Int}{x:AV}(hx:XE op k m n=some x)(h1:op≠.shl)(h2:op≠.shr)(t:TypeId) :
    ∃v,(binOp op t (.int k m) (.int k n)).run P w=.ok v w/\Rep G x v:=by
  cases op<;>first
    |exact absurd rfl h1
    |exact absurd rfl h2
    | (simp only[XE]at hx;split at hx
       · cases hx
       · rename_i hn;cases hx;exact⟨_,by simp[binOp,Op.intDiv,hn],.int _ _⟩)
    |(simp only[XE,QnC]at hx;subst hx;exact⟨_,by simp[binOp,Op.intArith]<;>rfl,.int _ _⟩)
    |(simp only[XE,QnC]at hx;subst hx;exact⟨_,by simp[binOp]<;>rfl,.int _ _⟩)
    |(simp only[XE,QnC]at hx;subst hx;exact⟨_,by simp[binOp,Op.intCmp]<;>rfl,.bool _⟩)
theorem Qde {op:BinOp}{s u:List UInt8}{x:AV}(hx:QX op s u=some x)(t:TypeId) :
  ∃v,(binOp op t (.string ⟨⟨s⟩⟩) (.string ⟨⟨u⟩⟩)).run P w=.ok v w/\Rep G x v:=by
 have hs:(⟨⟨s⟩⟩:ByteArray).toList=s:=by rw[ByteArray.toList_eq]
 have hu:(⟨⟨u⟩⟩:ByteArray).toList=u:=by rw[ByteArray.toList_eq]
 cases op with
 |add=>
  simp only[QX]at hx;split at hx
  ·rename_i hl;cases hx;refine⟨.string ⟨⟨s++u⟩⟩,?_,.str _⟩;have hlen:((ByteArray.size ⟨⟨s⟩⟩+ByteArray.size ⟨⟨u⟩⟩:Nat):Int)<=IntKind.i64.max:=by
    show((s.length+u.length:Nat):Int)<=9223372036854775807;omega
   have qn:(⟨⟨s⟩⟩:ByteArray)++⟨⟨u⟩⟩=⟨⟨s++u⟩⟩:=by
    apply ByteArray.ext
    simp
   simp only[binOp,Op.stringOp,qn];rw[Qni ψ];rfl
  ·cases hx
 |eql=>simp only[QX,QnC]at hx;subst hx;exact⟨_,Ϲ,.bool _⟩
 |neq=>simp only[QX,QnC]at hx;subst hx;exact⟨_,Ϲ,.bool _⟩
 |lss=>simp only[QX,QnC]at hx;subst hx;exact⟨_,Ϲ,.bool _⟩
 |leq=>simp only[QX,QnC]at hx;subst hx;exact⟨_,Ϲ,.bool _⟩
 |gtr=>simp only[QX,QnC]at hx;subst hx;exact⟨_,Ϲ,.bool _⟩
 |geq=>simp only[QX,QnC]at hx;subst hx;exact⟨_,Ϲ,.bool _⟩
 |_=>simp[QX]at hx
theorem Bb {t:TypeId}(h:W9 P t=.ptr):∃e j,P.underlying t=some (.pointer e)/\P.info? e=some j:=by
  unfold W9 at h;split at h<;>first
    |(cases h;done)
    | (rename_i e hu
       split at h
       · rename_i hi;obtain⟨j,hj⟩:=QnD.1 hi;exact⟨e,j,hu,hj⟩
       · cases h)
theorem Dk {t e:TypeId}(hp:P.underlying t=some (.pointer e)):(binOp .eql t (.pointer none) (.pointer none)).run P w=.ok (.bool true) w/\(binOp .neq t (.pointer none) (.pointer none)).run P w=.ok (.bool false) w:=by
 have h:∀d:Nat,(Op.equalIn (d+1) t (.pointer none) (.pointer none)).run P w=.ok true w:=λd=>by
  simp[Op.equalIn,run_underlying hp]
 exact Oo
theorem FO {t e:TypeId}(hp:P.underlying t=some (.pointer e))(a:Addr):(binOp .eql t (.pointer (some a)) (.pointer none)).run P w=.ok (.bool false) w/\(binOp .neq t (.pointer (some a)) (.pointer none)).run P w=.ok (.bool true) w:=by
 have h:∀d:Nat,(Op.equalIn (d+1) t (.pointer (some a)) (.pointer none)).run P w=.ok false w:=λd=>by
  simp[Op.equalIn,run_underlying hp]
 exact Oo
theorem Qdf {ty:Ty}{op:BinOp}{p q x:AV}(hx:Xl ty op p q=some x){v u:Value}(hp:Rep G p v)(hq:Rep G q u){t:TypeId}(ht:W9 P t=ty)(o1 o2:Operand) :
    ∃r,(do eqGuard op t o1 o2 v u;binOp op t v u).run P w=.ok r w/\Rep G x r:=by
  cases p<;>cases q<;>first
    |(simp[Xl]at hx;done)
    |skip
  case int.int k m k' n=>
    cases hp;cases hq;have hg:(eqGuard op t o1 o2 (.int k m) (.int k' n)).run P w=.ok () w:=by
      exact OD
    rw[Sem.run_bind,hg,Result.andThen_ok];by_cases h1:op=.shl
    · subst h1;exact Oa
    · by_cases h2:op=.shr
      · subst h2;exact Oa
      · have dG:(if k=k' then XE op k m n else none)=some x:=by
          cases op<;>first|exact absurd rfl h1|exact absurd rfl h2|exact hx
        split at dG
        · rename_i hk;subst hk;exact Qdd dG h1 h2 t
        · cases dG
  case str.str s u=>
    cases hp;cases hq;have hg:(eqGuard op t o1 o2 (.string ⟨⟨s⟩⟩) (.string ⟨⟨u⟩⟩)).run P w=.ok () w:=by
      exact OD
    rw[Sem.run_bind,hg,Result.andThen_ok];exact Qde hx t
  case bool.bool b c=>
    cases hp;cases hq;have hg:(eqGuard op t o1 o2 (.bool b) (.bool c)).run P w=.ok () w:=by
      exact OD
    rw[Sem.run_bind,hg,Result.andThen_ok];have hb:ty=.bool->P.underlying t=some .bool:=by
      intro e;rw[e]at ht;unfold W9 at ht;split at ht<;>first|(cases ht;done)|(split at ht<;>cases ht;done)|assumption
    cases ty<;>cases op<;>first
      |(simp[Xl]at hx;done)
      | (simp only[Xl,QnC]at hx;subst hx
         exact⟨_,by simp[binOp,Op.equal,Op.maxDepth,run_equalIn_bool' w 9999 t b c (hb rfl)]<;>rfl,.bool _⟩)
  case nilp.nilp=>
    cases hp;cases hq;have hg:(eqGuard op t o1 o2 (.pointer none) (.pointer none)).run P w=.ok () w:=by
      exact OD
    rw[Sem.run_bind,hg,Result.andThen_ok];cases ty<;>cases op<;>first
      |(simp[Xl]at hx;done)
      | (simp only[Xl,QnC]at hx;subst hx
         obtain⟨e,j,hu,hj⟩:=Bb ht
         first|exact⟨_,(Dk hu).1,.bool _⟩|exact⟨_,(Dk hu).2,.bool _⟩)
  case ptr.nilp l s o=>
    cases hp;cases hq;rename_i b hb;have hg:(eqGuard op t o1 o2 (.pointer (some ⟨b,o,none⟩)) (.pointer none)).run P w=.ok () w:=by
      exact OD
    rw[Sem.run_bind,hg,Result.andThen_ok];cases ty<;>cases op<;>first
      |(simp[Xl]at hx;done)
      | (simp only[Xl,QnC]at hx;subst hx
         obtain⟨e,j,hu,hj⟩:=Bb ht
         first|exact⟨_,(FO hu _).1,.bool _⟩|exact⟨_,(FO hu _).2,.bool _⟩)
  case ptr.ptr l s o l' s' o'=>
    cases hp;cases hq;rename_i b hb b' eN;simp only[Xl]at hx;split at hx
    · rename_i hh;obtain⟨rfl,rfl,rfl⟩:=hh;rw[hb]at eN;cases eN;have hg:(eqGuard op t o1 o2 (.pointer (some ⟨b,o,none⟩)) (.pointer (some ⟨b,o,none⟩))).run P w=.ok () w:=by
        exact OD
      rw[Sem.run_bind,hg,Result.andThen_ok];cases ty<;>cases op<;>first
        |(cases hx;done)
        | (simp only[QnC]at hx;subst hx
           obtain⟨e,j,hu,hj⟩:=Bb ht
           first|exact⟨_,run_eql_ptr_same w _ hu hj,.bool _⟩|exact⟨_,Lib.run_neq_ptr_same w _ hu hj,.bool _⟩)
    · cases hx
end
section
variable {P:Program}{G:Gh}{B N:Nat}{st:St}{a:Act}{w:World}
theorem Mg {t:TypeId}(h:W9 P t=.num):∃k,P.underlying t=some (.int k):=by
 unfold W9 at h;split at h<;>first|(cases h;done)|(split at h<;>cases h;done)|exact⟨_,by assumption⟩
theorem Mh {t:TypeId}(h:W9 P t=.str):P.underlying t=some .string:=by
 exact OW
theorem V6 {t:TypeId}(h:W9 P t=.bool):P.underlying t=some .bool:=by
 exact OW
theorem Ya {t:TypeId}{d:TypeDesc}(h:P.underlying t=some d)(hs:∀fs,d≠.struct fs)(ha:∀n e,d≠.array n e):(isAgg t).run P w=.ok false w:=by
 simp only[isAgg,Sem.run_bind,run_underlying h,Result.andThen_ok];cases d<;>first|rfl|(exact absurd rfl (hs _))|(exact absurd rfl (ha _ _))
theorem Da {t:TypeId}{d:TypeDesc}(h:P.underlying t=some d)(hs:(∃fs,d=.struct fs)\/∃n e,d=.array n e):(isAgg t).run P w=.ok true w:=by
 simp only[isAgg,Sem.run_bind,run_underlying h,Result.andThen_ok];rcases hs with⟨fs,rfl⟩|⟨n,e,rfl⟩<;>rfl
theorem X7 {t:TypeId}{i:TypeInfo}(h:P.info? t=some i):(sizeOf t).run P w=.ok i.size w:=by
 simp[sizeOf,typeInfo,h]
theorem BX {t:TypeId}(h:Jw P t=some none):(isAgg t).run P w=.ok false w:=by
 unfold Jw at h;split at h
 ·cases h
 ·cases h
 ·rename_i d i h1 h2 hd hi;exact Ya hd (λfs e=>h1 fs e) (λn e' e=>h2 n e' e)
 ·cases h
theorem BY {t:TypeId}{k:Nat}(h:Jw P t=some (some k)):(isAgg t).run P w=.ok true w/\(sizeOf t).run P w=.ok k w:=by
 unfold Jw at h;split at h
 ·rename_i fs i hd hi;cases h;exact⟨Da hd (.inl ⟨fs,rfl⟩),X7 hi⟩
 ·rename_i n e i hd hi;cases h;exact⟨Da hd (.inr ⟨n,e,rfl⟩),X7 hi⟩
 ·cases h
 ·cases h
theorem Qdg {G:Gh}{l:List AV}{vs:List Value}(h:RepL G l vs){o:Nat}{k:Option Nat}{x:AV}(hx:part l o k=some x){t:TypeId}(ht:Jw P t=some k) :
  ∃v,(Go.part t ⟨vs⟩ o).run P w=.ok v w/\Rep G x v:=by
 cases k with
 |none=>
  obtain⟨v,hv,r⟩:=h.at_ hx;refine⟨v,?_,r⟩;simp only[Go.part,Sem.run_bind,BX ht,Result.andThen_ok];simp[hv]
 |some k=>
  simp only[part]at hx;split at hx
  ·rename_i hk;cases hx;obtain⟨h1,h2⟩:=BY (w:=w) ht;refine⟨.agg ⟨(vs.drop o).take k⟩,?_,.agg ((h.drop o).take k)⟩;simp only[Go.part,Sem.run_bind,h1,Result.andThen_ok,if_true,h2,Sem.run_pure];simp[List.extract_eq_take_drop]
  ·cases hx
theorem QeT {ty:Ty}{x y:AV}{b:Bool}(h:BW ty x y=some b){v u:Value}(hv:Rep G x v)(hu:Rep G y u){t:TypeId}(ht:W9 P t=ty)(d:Nat):(Op.equalIn (d+1) t v u).run P w=.ok b w:=by
 unfold BW at h;split at h
 ·cases hv;cases hu;split at h
  ·rename_i hk;subst hk;cases h;obtain⟨k',pW⟩:=Mg ht;exact run_equalIn_int w d t _ k' _ _ pW
  ·cases h
 ·cases hv;cases hu;cases h;exact run_equalIn_bool' w d t _ _ (V6 ht)
 ·cases hv;cases hu;cases h;rw[run_equalIn_string w d t _ _ (Mh ht)];simp[ByteArray.toList_eq]
 ·cases h
theorem Qdh {t:TypeId}{ty:Ty}(ht:W9 P t=ty)(h:ty=.num\/ty=.bool\/ty=.str):(isAgg t).run P w=.ok false w:=by
 rcases h with rfl|rfl|rfl
 ·obtain⟨k,hk⟩:=Mg ht;exact Ya hk ό ό
 ·exact Ya (V6 ht) ό ό
 ·exact Ya (Mh ht) ό ό
theorem QeU {ty:Ty}{x y:AV}{b:Bool}(h:BW ty x y=some b):ty=.num\/ty=.bool\/ty=.str:=by
 unfold BW at h;split at h<;>simp at h |-
theorem FP (d:Nat)(xs ys:Array Value):∀(fs:List Field) (ks:List Ty) (o:Nat) (l r:List AV) (b:Bool),KQ P o fs ks=true->RepL G l (xs.toList.drop o)->RepL G r (ys.toList.drop o)->FN ks l r=some b->
  (Op.eqFields (d+1) xs ys fs).run P w=.ok b w
 | [],ks,o,l,r,b,hp,hl,hr,he=>by
   cases ks<;>simp[KQ]at hp;unfold FN at he;split at he
   ·cases he;rfl
   ·rename_i h;cases h
   ·cases he
 |fl :: fs,ks,o,l,r,b,hp,hl,hr,he=>by
   cases ks with
   |nil=>simp[KQ]at hp
   |cons k ks=>
    simp only[KQ,Qnz,Qng,QnE]at hp;obtain⟨⟨⟨ho,hn⟩,aD⟩,aZ⟩:=hp;cases l with
    |nil=>simp[FN]at he
    |cons x l=>
     cases r with
     |nil=>simp[FN]at he
     |cons y r=>
      simp only[FN]at he;split at he
      ·rename_i b1 b2 e1 e2;cases he;cases hx:xs.toList.drop o with
       |nil=>rw[hx]at hl;cases hl
       |cons v vs=>
        cases hy:ys.toList.drop o with
        |nil=>rw[hy]at hr;cases hr
        |cons u us=>
         rw[hx]at hl;rw[hy]at hr;cases hl with
         |cons hv hl=>
          cases hr with
          |cons hu hr=>
           have xO:xs[o]? = some v:=by rw[<-QnF,<-List.head?_drop,hx];rfl
           have yE:ys[o]? = some u:=by rw[<-QnF,<-List.head?_drop,hy];rfl
           have gO:xs.toList.drop (o+1)=vs:=by rw[<-QnG,hx];rfl
           have wK:ys.toList.drop (o+1)=us:=by rw[<-QnG,hy];rfl
           have td:=Qdh (P:=P) (w:=w) aD (QeU e1);have hq:=QeT (P:=P) (w:=w) e1 hv hu aD d;have ih:=FP d xs ys fs ks (o+1) l r b2 aZ (by rw[gO];exact hl) (by rw[wK];exact hr) e2;simp only[Op.eqFields,Qnj hn,Sem.run_bind,Go.part,td,Result.andThen_ok,ho,xO,yE,Qnu,if_false,Sem.run_pure,hq];cases b1 with
           |false=>simp
           |true=>simpa using ih
      ·cases he
theorem QeV {op:UnOp}{p x:AV}(hx:Dj op p=some x){v:Value}(hp:Rep G p v):∃r,(Op.unary op v).run P w=.ok r w/\Rep G x r:=by
 unfold Dj at hx;split at hx
 ·cases hp;cases hx;exact⟨_,by simp[Op.unary,Op.intArith]<;>rfl,.int _ _⟩
 ·cases hp;cases hx;exact⟨_,by simp[Op.unary]<;>rfl,.int _ _⟩
 ·cases hp;cases hx;exact⟨_,by simp[Op.unary]<;>rfl,.bool _⟩
 ·cases hx
theorem Yb (off:Nat):∀(us:List Value) (j:Nat) (cs:Array Value),off+j+us.length<=cs.size->
  ((us.zipIdx j).foldl (λcs (c,j)=>cs.setIfInBounds (off+j) c) cs).toList=cs.toList.take (off+j)++us++cs.toList.drop (off+j+us.length)
 | [],j,cs,h=>ό
 |u :: us,j,cs,h=>by
  simp only[Qnq]at h;have ih:=Yb off us (j+1) (cs.setIfInBounds (off+j) u) Ϗ;simp only[List.zipIdx_cons,List.foldl_cons];rw[ih,Array.toList_setIfInBounds];have aa:off+j<cs.toList.length:=Ϗ
  rw[show off+(j+1)=off+j+1 by omega,Qnv ô,List.drop_set_of_lt ψ,List.take_set_of_le (Qm8 _)];simp only[List.getElem_set_self,Qnw,Qnx,Qny,Qnq];congr 4
  omega
theorem Sj (h:Rel G B N st a w){pl:List (Nat×Nat)}:∀ {xs:List (Nat×Operand)} {rs:List (Nat×Nat×RA)} {z y:List AV} {cs:Array Value},YC pl xs rs=true->RepL G z cs.toList->fill st.f rs z=some y->
  ∃cK,Instr.fill (pl[·]?) cs (xs.map λ(i,x)=>(i,a.eval x))=some cK/\RepL G y cK.toList
 | [],[],z,y,cs,_,hz,hf=>by cases hf;exact⟨cs,rfl,hz⟩
 |(i,x) :: xs,(o,n,r) :: rs,z,y,cs,hc,hz,hf=>by
  simp only[YC,Qnz,Qng]at hc;simp only[fill]at hf;split at hf
  ·rename_i hh;obtain⟨h1,h2,h3⟩:=hh;have hr:=(Qx h hc.1.2).cells h3;have hl:=hr.length;have fO:=hz.length;simp only[QnH]at hl fO;have dU:=Yb o (a.eval x).cells.toList 0 cs Λ;simp only[QnI]at dU;have aX:((a.eval x).cells.zipIdx.foldl (λcs (c,j)=>cs.setIfInBounds (o+j) c) cs).toList=cs.toList.take o++(a.eval x).cells.toList++cs.toList.drop (o+(a.eval x).cells.toList.length):=by
    exact OQ
   obtain⟨cK,h4,h5⟩:=Sj h (cs:=(a.eval x).cells.zipIdx.foldl (λcs (c,j)=>cs.setIfInBounds (o+j) c) cs) hc.2 (by rw[aX];exact hz.splice hr o) hf;refine⟨cK,?_,h5⟩;simp only[QnJ,Instr.fill,hc.1.1];rw[Qni Ϗ];exact h4
  ·cases hf
 | [],_ :: _,_,_,_,hc,_,_=>by simp[YC]at hc
 |_ :: _,[],_,_,_,hc,_,_=>by simp[YC]at hc
theorem Mi (h:Rel G B N st a w){sz:Nat}:∀ {xs:List (Nat×Operand)} {rs:List (Nat×Nat×RA)} {z y:List AV} {cs:Array Value},W0 sz xs rs=true->RepL G z cs.toList->fill st.f rs z=some y->
  ∃cK,Instr.fill (λi=>some (i*sz,sz)) cs (xs.map λ(i,x)=>(i,a.eval x))=some cK/\RepL G y cK.toList
 | [],[],z,y,cs,_,hz,hf=>by cases hf;exact⟨cs,rfl,hz⟩
 |(i,x) :: xs,(o,n,r) :: rs,z,y,cs,hc,hz,hf=>by
  simp only[W0,Qnz,Qng]at hc;obtain⟨⟨⟨rfl,rfl⟩,ao⟩,gZ⟩:=hc;simp only[fill]at hf;split at hf
  ·rename_i hh;obtain⟨h1,h2,h3⟩:=hh;have hr:=(Qx h ao).cells h3;have hl:=hr.length;have fO:=hz.length;simp only[QnH]at hl fO;have dU:=Yb (i*n) (a.eval x).cells.toList 0 cs Λ;simp only[QnI]at dU;have aX:((a.eval x).cells.zipIdx.foldl (λcs (c,j)=>cs.setIfInBounds (i*n+j) c) cs).toList=cs.toList.take (i*n)++(a.eval x).cells.toList++cs.toList.drop (i*n+(a.eval x).cells.toList.length):=by
    exact OQ
   obtain⟨cK,h4,h5⟩:=Mi h (cs:=(a.eval x).cells.zipIdx.foldl (λcs (c,j)=>cs.setIfInBounds (i*n+j) c) cs) gZ (by rw[aX];exact hz.splice hr (i*n)) hf;refine⟨cK,?_,h5⟩;simp only[QnJ,Instr.fill];rw[Qni Ϗ];exact h4
  ·cases hf
 | [],_ :: _,_,_,_,hc,_,_=>by simp[W0]at hc
 |_ :: _,[],_,_,_,hc,_,_=>by simp[W0]at hc
theorem RepL.takeDrop {G:Gh}{l:List AV}{vs:List Value}(h:RepL G l vs)(o k:Nat):RepL G ((l.drop o).take k) ((vs.drop o).take k):=(h.drop o).take k
theorem Zq (x:AV)(l:List AV):QU (x :: l)=x.cells++QU l:=rfl
theorem Js (l r:List AV):QU (l++r)=QU l++QU r:=by simp[QU]
theorem Kn {sz:Nat}:∀ {l:List AV} (_:∀x∈l,x.cells.length=sz) (k:Nat),(QU l).take (k*sz)=QU (l.take k)
 | [],_,k=>by simp[QU]
 |x :: l,h,k=>by
  cases k with
  |zero=>simp[QU]
  |succ k=>
   have hx:=h x (Qnt ..);rw[Zq,QnK,Zq,List.take_append,hx];rw[QnL (by rw[hx,QnM];omega),show(k+1)*sz-sz=k*sz by rw[QnM];omega,Kn (λy hy=>h y (Qnr _ hy))]
theorem JS {sz:Nat}:∀ {l:List AV} (_:∀x∈l,x.cells.length=sz) (k:Nat),(QU l).drop (k*sz)=QU (l.drop k)
 | [],_,k=>by simp[QU]
 |x :: l,h,k=>by
  cases k with
  |zero=>simp
  |succ k=>
   have hx:=h x (Qnt ..);rw[Zq,QnN,List.drop_append,hx];rw[QnO (by rw[hx,QnM];omega),show(k+1)*sz-sz=k*sz by rw[QnM];omega,JS (λy hy=>h y (Qnr _ hy))];rfl
theorem WB {sz:Nat}:∀ {l:List AV} (_:∀x∈l,x.cells.length=sz),(QU l).length=l.length*sz
 | [],_=>by simp[QU]
 |x :: l,h=>by
  rw[Zq,QnP,h x (Qnt ..),WB (λy hy=>h y (Qnr _ hy)),Qnq,QnM];omega
theorem UH (h:Rel G B N st a w){k:Option Nat}{p x:AV}(hx:XH st.m k p=some x){v:Value}(hp:Rep G p v){t:TypeId}(ht:Jw P t=some k) :
  ∃r,(Instr.loadAt t v).run P w=.ok r w/\Rep G x r:=by
 -- cells in a row at a known place
 have key:∀(b o:Nat) (vs:List Value) (y:List AV),RepL G y vs->(∀j u,vs[j]? = some u->w.cell? ⟨b,o+j,none⟩=some u)->part y 0 k=some x->
   ∃r,(Instr.loadAt t (.pointer (some ⟨b,o,none⟩))).run P w=.ok r w/\Rep G x r:=by
  intro b o vs y hy aR gi;cases k with
  |none=>
   obtain⟨u,hu,r⟩:=hy.at_ gi;refine⟨u,?_,r⟩;have hc:=aR 0 u hu;simp only[Instr.loadAt,Instr.sureAddr,Sem.run_bind,Sem.run_pure,Result.andThen_ok,loadVar,BX ht,Qnu,if_false,run_load];simp only[QnI]at hc;rw[hc]
  |some k=>
   simp only[part]at gi;split at gi
   ·rename_i hk;cases gi;obtain⟨h1,h2⟩:=BY (w:=w) ht;have hl:=hy.length;have hlen:(vs.take k).length=k:=Ϗ
    have af:=run_loadCells_list (P:=P) w ⟨b,o,none⟩ (vs.take k) (λj u hu=>by
     rw[Za];refine aR j u ?_;rw[QnQ]at hu;split at hu
     ·exact hu
     ·cases hu)
    rw[hlen]at af;refine⟨.agg ⟨vs.take k⟩,?_,?_⟩
    ·simp only[Instr.loadAt,Instr.sureAddr,Sem.run_bind,Sem.run_pure,Result.andThen_ok,loadVar,h1,if_true,h2,af]
    ·have:=hy.take k
     simpa using Rep.agg this
   ·cases gi
 cases p with
 |ptr l s o=>
  cases hp with
  |ptr hb=>
   rename_i b;simp only[XH]at hx;split at hx
   ·rename_i xs ar;obtain⟨b',cs,eN,aE,hr⟩:=h.mr.cells l s xs ar;rw[hb]at eN;cases eN;have aH:=hr.shNL l;refine key b o (cs.toList.drop o) ((AV.shNL l xs).drop o) (aH.drop o) (λj u hu=>?_) ?_
    ·rw[aE.cell,<-hu];simp
    ·cases k with
     |none=>
      simp only at hx;split at hx
      ·rename_i y hy;cases hx;have:∀(n:Nat) (xs:List AV) (i:Nat) (y:AV),xs[i]? = some y->(AV.shNL n xs)[i]? = some (y.shN n):=by
        intro n
        induction n with
        |zero=>intro xs i y h;exact h
        |succ n ih=>
         intro xs i y h;have h':=ih xs i y h;have aux:∀(l:List AV) (i:Nat) (y:AV),l[i]? = some y->(AV.shL l)[i]? = some y.sh:=by
          intro l
          induction l with
          |nil=>intro i y h;simp at h
          |cons z l ih=>
           intro i y h;cases i with
           |zero=>simp at h;subst h;rfl
           |succ i=>simp at h;simpa [AV.shL]using ih i y h
         exact aux _ _ _ h'
       simp only[part,QnR,QnI];exact this l xs o y hy
      ·cases hx
     |some k=>
      simp only at hx;split at hx
      ·rename_i hk;cases hx;have hlen:∀(n:Nat) (xs:List AV),(AV.shNL n xs).length=xs.length:=by
        intro n
        induction n with
        |zero=>intro xs;rfl
        |succ n ih=>
         intro xs;have aux:∀l:List AV,(AV.shL l).length=l.length:=by
          intro l
          induction l with
          |nil=>rfl
          |cons z l ih=>simp[AV.shL,ih]
         rw[AV.shNL,aux,ih]
       have tG:∀(n:Nat) (xs:List AV) (i j:Nat),((AV.shNL n xs).drop i).take j=AV.shNL n ((xs.drop i).take j):=by
        intro n
        induction n with
        |zero=>intro xs i j;rfl
        |succ n ih=>
         intro xs i j;have aux:∀l:List AV,AV.shL l=l.map AV.sh:=by
          intro l
          induction l with
          |nil=>rfl
          |cons z l ih=>simp[AV.shL,ih]
         rw[AV.shNL,AV.shNL,<-ih,aux,aux,List.map_take,List.map_drop]
       simp only[part,QnS,hlen,QnA,QnT];rw[Qnj ψ,tG]
      ·cases hx
   ·cases hx
 |vptr l s g i o=>
  cases hp with
  |vptr hv hg hh=>
   simp only[XH]at hx;split at hx
   ·rename_i g' sz xs ar;split at hx
    ·rename_i rK;split at hx
     ·rename_i e he;obtain⟨e1,e2,e3,e4⟩:=h.mr.vec l s g' sz xs ar;obtain⟨b,hb,rfl⟩:=hh (by rw[e1];exact rK);rcases e4 with⟨e4,_⟩|⟨b',e4,ae⟩
      ·rw[hb]at e4;cases e4
      ·rw[hb]at e4;cases e4;obtain⟨cur,aE,fg,aj⟩:=ae.cur;have aa:=(Qna.1 he).1;have aX:=e3.size e (Qnp he);have jF:((QU xs).drop (i*sz)).take sz=e.cells:=by
        have h1:=JS e3.size i;rw[h1];have h2:xs.drop i=e :: xs.drop (i+1):=by
         rw[QnU aa];congr 1
         exact(Qna.1 he).2
        rw[h2,Zq,List.take_append,aX];simp[QnL (QnV aX)]
       have ej:RepL G e.cells (((cur.toList.take (xs.length*sz)).drop (i*sz)).take sz):=by
        rw[<-jF];exact(aj.drop _).take _
       rw[e2];refine key b (i*sz+o) _ _ (ej.drop o) (λj u hu=>?_) ?_
       ·rw[aE.cell];rw[QnR,QnQ]at hu;split at hu
        ·rw[QnR,QnQ]at hu;split at hu
         ·rw[Qm7];simpa using hu
         ·cases hu
        ·cases hu
       ·cases k with
        |none=>simpa [part]using hx
        |some k=>
         simp only[part]at hx |-;split at hx
         ·rename_i hk;cases hx;simp only[QnS,QnT];rw[Qnj ψ]
         ·cases hx
     ·cases hx
    ·cases hx
   ·cases hx
 |rptr xs=>
  cases hp with
  |rptr hc hf hl hs=>
   exact key _ _ _ xs hc (λj u hu=>h.mr.stab _ _ _ (hs j u hu)) hx
 |_=>simp[XH]at hx
end
section
variable {P:Program}{G:Gh}{B N:Nat}{st:St}{a:Act}{w:World}
def BV (v:Option Value)(d n:Nat):Prop:=(v=none/\n=d)\/∃k i,v=some (.int k i)/\0<=i/\n=i.toNat
theorem WC (h:Rel G B N st a w){x:Option Operand}{r:Option RA}(hc:YB x r=true){d n:Nat}(hb:JR st.f d r=some n):BV (x.map a.eval) d n:=by
 cases x with
 |none=>
  cases r with
  |none=>simp only[JR,QnC]at hb;exact .inl ⟨rfl,hb.symm⟩
  |some r=>simp[YB]at hc
 |some x=>
  cases r with
  |none=>simp[YB]at hc
  |some r=>
   have hr:=Qx h (x:=x) (r:=r) hc;simp only[JR]at hb;split at hb
   ·rename_i k i e;split at hb
    ·rename_i h0;cases hb;rw[e]at hr;have hv:a.eval x=.int k i:=by
      revert hr
      generalize a.eval x=v;intro hr;cases hr;rfl
     exact .inr ⟨k,i,by simp[hv],h0,rfl⟩
    ·cases hb
   ·cases hb
theorem Jx {k:IntKind}{i:Int}{y:Nat}(h0:0<=i)(hy:i.toNat<=y)(c:BoundsCode):(Instr.sliceBound (.int k i) y c).run P w=.ok i.toNat w:=by
 simp only[Instr.sliceBound,asIntOf,Sem.run_bind,Sem.run_pure,Result.andThen_ok];rw[Qnj ψ];rfl
theorem Gj (isSlice:Bool)(len cap:Nat){lo hi mx:Option Value}{l h m:Nat}(hl:BV lo 0 l)(hh:BV hi len h)(hm:BV mx cap m)(hs:mx.isSome=true->hi.isSome=true)(h1:l<=h)(h2:h<=m)(h3:m<=cap) :
  (Instr.sliceBounds isSlice len cap lo hi mx).run P w=.ok (l,h,m) w:=by
 rcases hm with⟨rfl,rfl⟩|⟨km,im,rfl,nD,rfl⟩
 ·rcases hh with⟨rfl,rfl⟩|⟨kh,ih,rfl,tp,rfl⟩
  ·rcases hl with⟨rfl,rfl⟩|⟨kl,il,rfl,fF,rfl⟩
   ·rfl
   ·simp only[Instr.sliceBounds,Sem.run_bind,Sem.run_pure,Result.andThen_ok,Jx (P:=P) (w:=w) fF h1]
  ·have e:=λc=>Jx (P:=P) (w:=w) (k:=kh) tp h2 c
   rcases hl with⟨rfl,rfl⟩|⟨kl,il,rfl,fF,rfl⟩
   ·simp only[Instr.sliceBounds,Sem.run_bind,Sem.run_pure,Result.andThen_ok,e]
   ·simp only[Instr.sliceBounds,Sem.run_bind,Sem.run_pure,Result.andThen_ok,e,Jx (P:=P) (w:=w) fF h1]
 ·have em:=λc=>Jx (P:=P) (w:=w) (k:=km) nD h3 c
  rcases hh with⟨rfl,rfl⟩|⟨kh,ih,rfl,tp,rfl⟩
  ·simp at hs
  ·have e:=λc=>Jx (P:=P) (w:=w) (k:=kh) tp h2 c
   rcases hl with⟨rfl,rfl⟩|⟨kl,il,rfl,fF,rfl⟩
   ·simp only[Instr.sliceBounds,Sem.run_bind,Sem.run_pure,Result.andThen_ok,e,em]
   ·simp only[Instr.sliceBounds,Sem.run_bind,Sem.run_pure,Result.andThen_ok,e,em,Jx (P:=P) (w:=w) fF h1]
theorem Wl (l r:List AV):AV.rfL (l++r)=(AV.rfL l&&AV.rfL r):=by
 induction l with
 |nil=>rfl
 |cons x l ih=>simp[AV.rfL,ih,QnW]
theorem Sk (l:List AV):AV.rfL l=l.all AV.rf:=by
 induction l with
 |nil=>rfl
 |cons x l ih=>simp[AV.rfL,ih]
theorem JO {l r:List AV}(h:AV.rfL r=true)(hs:∀x∈l,x∈r):AV.rfL l=true:=by
 rw[Sk,Qno]at *;exactλx hx=>h x (hs x hx)
theorem ZA {l r:List AV}(h:r.all AV.leaf=true)(hs:∀x∈l,x∈r):l.all AV.leaf=true:=by
 rw[Qno]at *;exactλx hx=>h x (hs x hx)
theorem J1 {l r:List AV}(hs:∀x∈l,x∈r):∀x∈QU l,x∈QU r:=by
 intro x hx;simp only[QU,QnX]at *;obtain⟨y,hy,hx⟩:=hx;exact⟨y,hs y hy,hx⟩
theorem Rep.sub {l:List AV}{cs:List Value}{A:Option Addr}{sz:Nat}(hc:RepL G (QU l) cs)(hz:∀x∈l,x.cells.length=sz)(hf:AV.rfL (QU l)=true)(hl:(QU l).all AV.leaf=true)
  (hs:∀j u,cs[j]? = some u->∃b o,A=some ⟨b,o,none⟩/\G.stab b (o+j)=some (.cell u)) (i k c:Nat) (hik:i+k<=l.length) (i6:k<=c) (hm:k<=maxLen) {A':Option Addr} (hA:∀b o,0<k->A=some ⟨b,o,none⟩->A'=some ⟨b,o+i*sz,none⟩) :
  Rep G (.list ((l.drop i).take k)) (.slice A' k c):=by
 have aN:∀x∈(l.drop i).take k,x∈l:=λx hx=>QnY (QnZ hx)
 have xr:∀x∈l.drop i,x.cells.length=sz:=λx hx=>hz x (QnY hx)
 have e:QU ((l.drop i).take k)=((QU l).drop (i*sz)).take (k*sz):=by
  rw[JS hz,Kn xr]
 refine .list (cs:=(cs.drop (i*sz)).take (k*sz)) (sz:=sz) ?_ (λx hx=>hz x (aN x hx)) (JO hf (J1 aN)) (ZA hl (J1 aN)) ?_ Ϗ i6 hm
 ·rw[e];exact hc.takeDrop _ _
 ·intro j u hu;rw[QnQ]at hu;split at hu
  ·rename_i hj;rw[QnR]at hu;obtain⟨b,o,wP,ay⟩:=hs _ u hu;have hk:0<k:=by
    rcases Qn0 k with h0|h0
    ·subst h0;simp at hj
    ·exact h0
   exact⟨b,o+i*sz,hA b o hk wP,by rw[Qm7];exact ay⟩
  ·cases hu
theorem K4 {t:TypeId}(h:YQ P t=true):P.underlying t=some .string:=by
 unfold YQ at h;split at h
 ·assumption
 ·cases h
def TT (P:Program)(t:TypeId):Option Nat->Prop
 |none=>P.underlying t=some .string
 |some z=>∃e i,P.underlying t=some (.slice e)/\P.info? e=some i/\i.size=z
def MxV (m:Option Value):Option Nat->Prop
 |none=>m=none
 |some k=>m.isSome=true/\BV m 0 k
theorem U9 (h:Rel G B N st a w){x:AV}{n l hh:Nat}{sz mx:Option Nat}(hn:Jz x=some n){y:AV}(hx:Xz st.m sz x l hh mx=some y){v:Value}(hv:Rep G x v){t:TypeId}
  (ht:TT P t sz) {lo hi m:Option Value} (i5:BV lo 0 l) (oB:BV hi n hh) (hm:MxV m mx) (hs:m.isSome=true->hi.isSome=true) :
  ∃r,(Instr.sliceAt t v lo hi m).run P w=.ok r w/\Rep G y r:=by
 cases sz with
 |none=>
  simp only[Xz]at hx;cases x with
  |str s=>
   simp only at hx;cases mx with
   |some k=>simp at hx
   |none=>
    simp only at hx;have kW:m=none:=hm;subst kW;split at hx
    ·rename_i iV;cases hx;cases hv;simp only[Jz,QnC]at hn;have hb:=Gj (P:=P) (w:=w) false s.length s.length i5 (by rw[hn];exact oB) (mx:=none) (.inl ⟨rfl,rfl⟩) (λe=>by cases e) iV.1 iV.2 (Qm8 _);refine⟨.string ⟨⟨(s.drop l).take (hh-l)⟩⟩,?_,.str _⟩;simp only[Instr.sliceAt,Sem.run_bind,run_underlying (show P.underlying t=some .string from ht),Result.andThen_ok,Instr.slice,Qn1,Qnu,if_false];have e:(ByteArray.size ⟨⟨s⟩⟩)=s.length:=rfl;rw[e,hb];simp only[Result.andThen_ok,Sem.run_pure,ByteArray.extract_mk]
    ·cases hx
  |_=>simp at hx
 |some z=>
  obtain⟨e,i,dY,pM,vh⟩:=ht;simp only[Xz]at hx
  -- the run at a slice
  have run:∀(A:Option Addr) (k cap m':Nat),v=.slice A k cap->BV hi k hh->BV m cap m'->l<=hh->hh<=m'->m'<=cap->
    (Instr.sliceAt t v lo hi m).run P w=.ok (.slice (if m'=l then A else A.map (·.add (l*i.size))) (hh-l) (m'-l)) w:=by
   intro A k cap m' sW sA kW h1 h2 h3;subst sW;have hb:=Gj (P:=P) (w:=w) true k cap i5 sA kW hs h1 h2 h3;simp only[Instr.sliceAt,Sem.run_bind,run_underlying dY,Result.andThen_ok,Instr.slice,hb,X7 pM,Sem.run_pure]
  cases x with
  |nils=>
   simp only at hx;split at hx
   ·rename_i iV;cases hx;cases hv;obtain⟨rfl,rfl,nD⟩:=iV;simp only[Jz,QnC]at hn;have mF:BV m 0 0:=by
     cases mx with
     |none=>exact .inl ⟨hm,rfl⟩
     |some k=>simp at nD;subst nD;exact hm.2
    exact⟨.slice none 0 0,run none 0 0 0 rfl (by subst hn;exact oB) mF (Qm8 _) (Qm8 _) (Qm8 _),.nils⟩
   ·cases hx
  |list xs=>
   simp only at hx;split at hx
   ·rename_i iV;cases hx;obtain⟨h1,h2,h3,h4⟩:=iV;simp only[Jz,QnC]at hn;cases hv with
    |list hc hz hf hl ay eO bm bP=>
     rename_i cs A k cap eG;subst eO;have mF:∃m',BV m cap m'/\hh<=m'/\m'<=cap:=by
      cases mx with
      |none=>exact⟨cap,.inl ⟨hm,rfl⟩,by simp at h2;omega,Qm8 _⟩
      |some k=>
       obtain⟨mf,iU⟩:=hm;rcases iU with⟨e0,_⟩|iU
       ·rw[e0]at mf;cases mf
       ·exact⟨k,.inr iU,by simpa using h2,by simp at h3;omega⟩
     obtain⟨m',kW,h5,h6⟩:=mF;refine⟨_,run A xs.length cap m' rfl (by rw[hn];exact oB) kW h1 h5 h6,?_⟩;refine Rep.sub hc hz hf hl ay l (hh-l) (m'-l) (by omega) (by omega) (by omega) (λb o gW hA=>?_);rw[Qni (by omega),hA];simp only[QnB,Za,QnC,Addr.mk.injEq,and_true,Qn2];rcases Qn0 l with h0|h0
     ·subst h0;simp
     ·have bB:=h4.resolve_left (by omega);have uV:0<xs.length:=by omega
      have e1:=hz (xs[0]'uV) (Qn3 _);have e2:=Qno.1 bB (xs[0]'uV) (Qn3 _);simp only[Qng]at e2;rw[vh,<-e2,e1]
   ·cases hx
  |vec lv s g o k q=>
   simp only at hx;split at hx
   ·rename_i g' z' xs ar;split at hx
    ·rename_i iV;cases hx;obtain⟨rfl,rfl,h1,h2,h3⟩:=iV;simp only[Jz,QnC]at hn;subst hn;obtain⟨e1,e2,e3,e4⟩:=h.mr.vec lv s g z xs ar;cases hv with
     |vec dv hg iS=>
      rcases iS e1.symm with⟨ap,rfl,rfl,A0,rfl,gh⟩|⟨b,A,c,ap,bz,rfl,i6,dI,hq,hA⟩
      ·have fF:l=0/\hh=0:=by
        cases mx with
        |none=>simp at h2;omega
        |some k'=>simp at h2 h3;omega
       obtain⟨rfl,rfl⟩:=fF;have mF:BV m 0 0:=by
        cases mx with
        |none=>exact .inl ⟨hm,rfl⟩
        |some k'=>simp at h3;subst h3;exact hm.2
       refine⟨.slice A0 0 0,run A0 0 0 0 rfl oB mF (Qm8 _) (Qm8 _) (Qm8 _),.vec rfl (QnV e1.symm) λ_=>.inl ⟨ap,rfl,rfl,A0,rfl,gh⟩⟩
      ·have mF:∃m',BV m c m'/\hh<=m'/\m'<=c/\(mx=none->m'=c):=by
        cases mx with
        |none=>exact⟨c,.inl ⟨hm,rfl⟩,by simp at h2;omega,Qm8 _,λ_=>rfl⟩
        |some k'=>
         obtain⟨mf,iU⟩:=hm;rcases iU with⟨e0,_⟩|iU
         ·rw[e0]at mf;cases mf
         ·exact⟨k',.inr iU,by simpa using h2,by simp at h3;omega,λe=>by cases e⟩
       obtain⟨m',kW,h5,h6,h7⟩:=mF;have hhk:hh<=k:=by
        cases mx with
        |none=>simpa using h2
        |some k'=>simp at h2 h3;omega
       refine⟨_,run (some A) k c m' rfl oB kW h1 h5 h6,?_⟩;refine .vec rfl (QnV e1.symm) λ_=>.inr ⟨b,if m'=l then A else A.add (l*i.size),m'-l,ap,by omega,by split<;>rfl,by omega,by omega,?_,?_⟩
       ·intro s7;simp only[Qn4]at s7;have ou:mx=none:=by cases mx<;>simp at s7 |-
        rw[h7 ou,hq s7.1];omega
       ·rintro⟨aa,ke⟩;by_cases kJ:m'=l
        ·rw[Qnj kJ];have ue:q=false/\mx=none:=by
          rcases ke with ke|ke
          ·simp only[Qn4]at ke;exact⟨ke.1,by cases mx<;>simp at ke |-⟩
          ·omega
         have lB:=hq ue.1;have wV:=h7 ue.2;have:l=0:=by omega
         subst this;have ff:=hA ⟨by omega,.inl ue.1⟩;rw[ff];simp
        ·rw[Qni kJ,hA ⟨by omega,?_⟩,Za,vh,e2,QnM];rcases ke with ke|ke
         ·simp only[Qn4]at ke;exact .inl ke.1
         ·exact .inr (by omega)
    ·cases hx
   ·cases hx
  |_=>simp at hx
end
mutual
theorem QbN {G:Gh}:∀ {x:AV} {v:Value},x.gr=true->Rep G x v->v=x.gv
 |.int k n,_,_,h=>by cases h;rfl
 |.bool b,_,_,h=>by cases h;rfl
 |.str s,_,_,h=>by cases h;rfl
 |.agg l,_,hg,h=>by
   cases h with
   |agg h=>rw[AV.gv,Es hg h]
 |.fn _ a b,_,hg,h=>by
   have h2:=Qnc.1 hg;cases a with
   |cons _ _=>cases h2.1
   |nil=>
   cases b with
   |cons _ _=>cases h2.2
   |nil=>
   cases h with
   |fn ha hb=>cases ha;cases hb;rfl
theorem Es {G:Gh}:∀ {l:List AV} {vs:List Value},AV.grL l=true->RepL G l vs->vs=AV.gvL l
 | [],_,_,h=>by cases h;rfl
 |x :: l,_,hg,h=>by
   have h2:=Qnc.1 hg;cases h with
   |cons h t=>rw[AV.gvL,<-QbN h2.1 h,<-Es h2.2 t]
end
mutual
theorem Dl {G:Gh}:∀ {x:AV},x.gr=true->Rep G x x.gv
 |.int k n,_=>.int k n
 |.bool b,_=>.bool b
 |.str s,_=>.str s
 |.agg _,hg=>.agg (Sl hg)
 |.fn _ a b,hg=>by
   have h2:=Qnc.1 hg;cases a with
   |cons _ _=>cases h2.1
   |nil=>
   cases b with
   |cons _ _=>cases h2.2
   |nil=>exact .fn .nil .nil
theorem Sl {G:Gh}:∀ {l:List AV},AV.grL l=true->RepL G l (AV.gvL l)
 | [],_=>.nil
 |x :: _,hg=>by
   have h2:=Qnc.1 hg;exact .cons (Dl h2.1) (Sl h2.2)
end
def UI (k:MK):List MK->List AV->Option (Nat×AV)
 |k' :: ks,v :: vs=>bif k.eq k' then some (0,v)else(UI k ks vs).map λp=>(p.1+1,p.2)
 |_,_=>none
def V7 (k:MK):∀(ks:List MK) (vs:List AV),KB k ks vs=(UI k ks vs).map (·.2)
 | [],vs=>by cases vs<;>rfl
 |k' :: ks,[]=>rfl
 |k' :: ks,v :: vs=>by
  simp only[KB,UI];cases k.eq k' with
  |true=>rfl
  |false=>
   simp only[cond_false,V7 k ks vs,Option.map_map];rfl
def TU (a b:List UInt8):((⟨⟨a⟩⟩:ByteArray)==⟨⟨b⟩⟩)=(a==b):=by
 rw[Qn5,MapKept.bytes_beq]
 constructor
 ·intro h;cases h;simp
 ·intro h;rw[eq_of_beq h]
def kd:Bool->TypeDesc
 |true=>.string
 |false=>.int .i64
def Vm {P:Program}{tx:Bool}{t:TypeId}(h:Me P tx t=true):P.underlying t=some (kd tx):=by
 cases tx with
 |true=>exact K4 h
 |false=>
  have h:Ui P t .i64=true:=h;unfold Ui at h;split at h
  ·rename_i k hk;rw[hk,<-eq_of_beq h];rfl
  ·cases h
def Bc {G:Gh}{t:Bool}{x:AV}{k:MK}{v:Value}(h:Wk t x=some k)(hv:Rep G x v):k.t=t/\v=k.v:=by
 unfold Wk at h;split at h<;>cases h<;>cases hv<;>exact⟨rfl,rfl⟩
def Sm {k:MK}{t:Bool}(h:k.t=t):MapKept.IsKey (kd t) k.v:=by
 subst h;cases k<;>simp[MapKept.IsKey,kd,MK.t,MK.v]
def Qdi {k k':MK}{t:Bool}(h:k.t=t)(h':k'.t=t):Instr.sameNow (kd t) k.v k'.v=some (k.eq k'):=by
 subst h;cases k<;>cases k'<;>simp_all[MK.t,MK.v,MK.eq,kd,Instr.sameNow,TU]
def MK.eq_of {a b:MK}(h:a.eq b=true):a=b:=by
 cases a<;>cases b<;>simp_all[MK.eq]
def Gk {k:MK}{t:Bool}(hk:k.t=t):∀(ks:List MK) (vs:List AV) (i n:Nat),keys t ks=true->Instr.findNow (kd t) k.v (JN ks vs i) n=some ((UI k ks vs).map λp=>(n+p.1,p.2.gv))
 | [],vs,i,n,_=>by cases vs<;>rfl
 |k' :: ks,[],i,n,_=>rfl
 |k' :: ks,v :: vs,i,n,h=>by
  have h2:(k'.t==t&&keys t ks)=true:=h;rw[Qnz,Qng]at h2;simp only[JN,Instr.findNow,Qdi hk h2.1,UI];cases k.eq k' with
  |true=>rfl
  |false=>
   simp only[cond_false,Gk hk ks vs (i+1) (n+1) h2.2,Option.map_map];congr 2
   funext p;simp only[Function.comp];congr 1
   omega
def Db {P:Program}{w:World}{t kt et:TypeId}{b:Nat}{ks:List MK}{vs:List AV}{k:MK}{z:Value}{tx:Bool}(iH:k.t=tx)(iR:keys tx ks=true)(ok:Bool)(ht:P.underlying t=some (.map kt et))(hk:P.underlying kt=some (kd tx))
  (hb:w.heap[b]? = some (IT.obj (.mp ks vs) 0)) (hz:(zeroValue et).run P w=.ok z w) :
  (Instr.lookup t (.map (some b)) k.v ok).run P w=.ok (if ok then .tuple #[((KB k ks vs).map AV.gv).getD z,.bool (KB k ks vs).isSome]else((KB k ks vs).map AV.gv).getD z) w:=by
 have hc:∀e,(Instr.checkKey e 10000 kt k.v).run P w=.ok () w:=λe=>MapKept.run_checkKey (k:=k.v) hk (Sm iH) e 9999
 have hb:w.heap[b]? = some (.map ⟨JN ks vs 0⟩ (JN ks vs 0).length):=hb;have hf:=MapKept.run_findKey (w:=w) hk (Gk iH ks vs 0 0 iR);rw[V7];cases hm:UI k ks vs with
 |none=>
  rw[hm]at hf;cases ok<;>simp[Instr.lookup,run_underlying ht,MapKept.run_getObj_map hb,hc,hf,hz,Result.andThen]
 |some p=>
  rw[hm]at hf;cases ok<;>simp[Instr.lookup,run_underlying ht,MapKept.run_getObj_map hb,hc,hf,Result.andThen]
def BZ (k:MK)(x:AV):∀(ks:List MK) (vs:List AV) (i:Nat),ks.length=vs.length->UI k ks vs=none->
  JN (Zy k x ks vs).1 (Zy k x ks vs).2 i=JN ks vs i++[{ key:=k.v,val:=x.gv,born:=i+(JN ks vs i).length }]
 | [],[],i,_,_=>rfl
 | [],v :: vs,i,h,_=>by cases h
 |k' :: ks,[],i,h,_=>by cases h
 |k' :: ks,v :: vs,i,hl,h=>by
  simp only[UI]at h;simp only[Zy];cases hk:k.eq k' with
  |true=>rw[hk]at h;cases h
  |false=>
   rw[hk]at h;simp only[cond_false,Option.map_eq_none_iff]at h;simp only[cond_false,JN,BZ k x ks vs (i+1) Ä h,Qnx,Qnq];congr 4
   omega
def B0 (k:MK)(x:AV):∀(ks:List MK) (vs:List AV) (i j:Nat) (v:AV),UI k ks vs=some (j,v)->
  JN (Zy k x ks vs).1 (Zy k x ks vs).2 i=(JN ks vs i).modify j (λe=>{ e with key:=k.v,val:=x.gv })/\(JN ks vs i)[j]?.map (·.key)=some k.v
 | [],vs,i,j,v,h=>by cases vs<;>cases h
 |k' :: ks,[],i,j,v,h=>by cases h
 |k' :: ks,u :: vs,i,j,v,h=>by
  simp only[UI]at h;simp only[Zy];cases hk:k.eq k' with
  |true=>
   rw[hk]at h;cases h;have e:=MK.eq_of hk;subst e;exact⟨rfl,rfl⟩
  |false=>
   rw[hk]at h;simp only[cond_false,Qnd]at h;obtain⟨p,h,e⟩:=h;cases e;obtain⟨h1,h2⟩:=B0 k x ks vs (i+1) p.1 p.2 h;simp only[cond_false,JN,h1];exact⟨rfl,ϭ⟩
def Bd {P:Program}{w:World}{t kt et:TypeId}{b p:Nat}{ks:List MK}{vs:List AV}{k:MK}{x:AV}{tx:Bool}(iH:k.t=tx)(iR:keys tx ks=true)(hl:ks.length=vs.length)(ht:P.underlying t=some (.map kt et))(hk:P.underlying kt=some (kd tx))
  (hb:w.heap[b]? = some (IT.obj (.mp ks vs) p)) :
  (Instr.mapUpdate t (.map (some b)) k.v x.gv).run P w=.ok () { w with heap:=w.heap.setIfInBounds b (IT.obj (.mp (Zy k x ks vs).1 (Zy k x ks vs).2) p) }:=by
 have q7:MapKept.IsKey (kd tx) k.v:=Sm iH;have hc:∀e,(Instr.checkKey e 10000 kt k.v).run P w=.ok () w:=λe=>MapKept.run_checkKey (k:=k.v) hk q7 e 9999
 have hb:w.heap[b]? = some (.map ⟨JN ks vs 0⟩ (JN ks vs 0).length):=hb;have hf:=MapKept.run_findKey (w:=w) hk (Gk iH ks vs 0 0 iR);cases hm:UI k ks vs with
 |none=>
  rw[hm]at hf;have he:=BZ k x ks vs 0 hl hm;simp only[IT.obj,he];simp[Instr.mapUpdate,run_underlying ht,MapKept.run_getObj_map hb,hc,hf,MapKept.run_setObj_map _ hb,Result.andThen]
 |some q=>
  rw[hm]at hf;obtain⟨he,hj⟩:=B0 k x ks vs 0 q.1 q.2 hm;simp only[IT.obj,he];have ql:∃e,(JN ks vs 0)[q.1]? = some e/\e.key=k.v:=by
   cases hq:(JN ks vs 0)[q.1]? with
   |none=>rw[hq]at hj;cases hj
   |some e=>rw[hq]at hj;exact⟨e,rfl,by simpa using hj⟩
  obtain⟨e,hq,wm⟩:=ql;have qV:(⟨JN ks vs 0⟩:Array MapEntry)[q.1]? = some e:=by simpa using hq
  simp[Instr.mapUpdate,run_underlying ht,MapKept.run_getObj_map hb,hc,hf,hq,wm,MapKept.run_keyThatStays q7,MapKept.run_setObj_map _ hb,Result.andThen]
section
variable {P:Program}{G:Gh}{B N:Nat}{st:St}{a:Act}{w:World}
theorem Yc (h:Rel G B N st a w){x:AV}{l:List AV}(hx:Xc st.m x=some l){v:Value}(hv:Rep G x v) :
  ∃A c,v=.slice A l.length c/\∃sz cs,RepL G (QU l) cs/\Elems sz l/\∀j u,cs[j]? = some u->∃b o,A=some ⟨b,o,none⟩/\w.cell? ⟨b,o+j,none⟩=some u:=by
 cases x with
 |nils=>
  simp only[Xc,QnC]at hx;subst hx;cases hv;exact⟨none,0,rfl,0,[],.nil,⟨ό,rfl,rfl⟩,ό⟩
 |list l'=>
  simp only[Xc,QnC]at hx;subst hx;cases hv with
  |list hc hz hf hl hs hn bm hm=>
   subst hn;exact⟨_,_,rfl,_,_,hc,⟨hz,hf,hl⟩,λj u hu=>by
    obtain⟨b,o,e,ay⟩:=hs j u hu;exact⟨b,o,e,h.mr.stab _ _ _ ay⟩⟩
 |vec lv s g o k q=>
  simp only[Xc]at hx;split at hx
  ·rename_i g' z xs ar;split at hx
   ·rename_i hh;cases hx;obtain⟨e1,e2,e3,e4⟩:=h.mr.vec lv s g' z xs ar;have hlen:((xs.drop o).take k).length=k:=Ϗ
    rw[hlen];have aN:∀x∈(xs.drop o).take k,x∈xs:=λx hx=>QnY (QnZ hx)
    have aJ:Elems z ((xs.drop o).take k):=⟨λx hx=>e3.size x (aN x hx),JO e3.rf (J1 aN),ZA e3.leaf (J1 aN)⟩;cases hv with
    |vec dv hg iS=>
     rcases iS (by rw[e1];exact hh.1)with⟨ap,rfl,rfl,A0,rfl,gh⟩|⟨b,A,c,ap,bz,rfl,i6,dI,hq,hA⟩
     ·exact⟨A0,0,rfl,z,[],by simp;exact .nil,aJ,ό⟩
     ·rcases e4 with⟨e,_⟩|⟨b',e,ae⟩
      ·rw[ap]at e;cases e
      ·rw[ap]at e;cases e;obtain⟨cur,aE,fg,aj⟩:=ae.cur;have hr:=aj.takeDrop (o*z) (k*z);rw[JS e3.size,Kn (λx hx=>e3.size x (QnY hx))]at hr;refine⟨some A,c,rfl,z,_,hr,aJ,λj u hu=>?_⟩;rw[QnQ]at hu;split at hu
       ·rename_i hj;rw[QnR,QnQ]at hu;split at hu
        ·have hk:0<k:=by
          rcases Qn0 k with h0|h0
          ·subst h0;simp at hj
          ·exact h0
         have ff:=hA ⟨by have:=ae.le;omega,.inr hk⟩;rw[e2]at ff;refine⟨b,o*z,by rw[ff],?_⟩;rw[aE.cell]
         simpa using hu
        ·cases hu
       ·cases hu
   ·cases hx
  ·cases hx
 |_=>simp[Xc]at hx
theorem B1:∀ {l:List AV} {s:List UInt8} {vs:List Value},bytesOf l=some s->RepL G l vs->∃ns:List Int,vs=ns.map (Value.int .u8)/\s=ns.map λn=>UInt8.ofNat n.toNat
 | [],s,vs,hb,hr=>by
   cases hb;cases hr;exact⟨[],rfl,rfl⟩
 |x :: l,s,vs,hb,hr=>by
   unfold bytesOf at hb;split at hb
   ·rename_i h;cases h
   ·rename_i n l' h;cases h;simp only[Qnd]at hb;obtain⟨s',hb,rfl⟩:=hb;cases hr with
    |cons h t=>
     obtain⟨ns,rfl,rfl⟩:=B1 hb t;cases h;exact⟨n :: ns,rfl,rfl⟩
   ·cases hb
theorem Mj {l:List AV}{s:List UInt8}(h:bytesOf l=some s):QU l=l:=by
 induction l generalizing s with
 |nil=>rfl
 |cons x l ih=>
  unfold bytesOf at h;split at h
  ·rename_i e;cases e
  ·rename_i n l' e;cases e;simp only[Qnd]at h;obtain⟨s',h,rfl⟩:=h;rw[Zq,ih h];rfl
  ·cases h
theorem QeX (h:Rel G B N st a w){x:AV}{l:List AV}(hx:Xc st.m x=some l){s:List UInt8}(hs:bytesOf l=some s){v:Value}(hv:Rep G x v):(Conv.bytesToString v).run P w=.ok (.string ⟨⟨s⟩⟩) w:=by
 obtain⟨A,c,rfl,sz,cs,hr,aJ,aR⟩:=Yc h hx hv;rw[Mj hs]at hr;obtain⟨ns,rfl,rfl⟩:=B1 hs hr;have hlen:=hr.length;simp only[Qn6]at hlen;cases ns with
 |nil=>
  simp only[Qn7]at hlen;rw[<-hlen];cases A<;>rfl
 |cons n ns=>
  obtain⟨b,o,rfl,_⟩:=aR 0 _ rfl;have hl:=run_loadCells_list (P:=P) w ⟨b,o,none⟩ ((n :: ns).map (Value.int .u8)) (λj u hu=>by
   obtain⟨b',o',e,hc⟩:=aR j u hu;cases e;rw[Za];exact hc)
  simp only[Qn6]at hl;rw[<-hlen,run_bytesToString w _ _ c (n :: ns) hl];congr 2
  have aux:∀(l:List Int) (r:List UInt8),l.foldl (λr n=>r.push (UInt8.ofNat n.toNat)) (⟨⟨r⟩⟩:ByteArray)=⟨⟨r++l.map λn=>UInt8.ofNat n.toNat⟩⟩:=by
   intro l
   induction l with
   |nil=>intro r;simp
   |cons k l ih=>
    intro r;have e:(⟨⟨r⟩⟩:ByteArray).push (UInt8.ofNat k.toNat)=⟨⟨r++[UInt8.ofNat k.toNat]⟩⟩:=by
     simp[ByteArray.push]
    rw[List.foldl_cons,e,ih];simp
  exact aux (n :: ns) []
def QeY (P:Program)(t:TypeId)(sz:Nat):Option Nat->Prop
 |none=>∃e j,P.underlying t=some (.slice e)/\P.info? e=some j/\j.size=sz
 |some n=>∃e j,P.underlying t=some (.array n e)/\P.info? e=some j/\j.size=sz
theorem Et (h:Rel G B N st a w){sz:Nat}(e_:sz≠0){len:Option Nat}{x:AV}{i:Int}{y:AV}(hx:Qg st.m sz len x i=some y){v:Value}(hv:Rep G x v){t:TypeId}{k:IntKind}
  (ht:QeY P t sz len) :
  ∃r,(Instr.indexAt t v (.int k i)).run P w=.ok r w/\Rep G y r:=by
 unfold Qg at hx;split at hx
 case isFalse=>cases hx
 rename_i h0;cases len with
 |none=>
  obtain⟨yJ,j,hu,hi,hj⟩:=ht;have pY:∀(b o n c:Nat),v=.slice (some ⟨b,o,none⟩) n c->i.toNat<n->(Instr.indexAt t v (.int k i)).run P w=.ok (.pointer (some ⟨b,o+i.toNat*sz,none⟩)) w:=by
   intro b o n c bQ aa;subst bQ;simp only[Instr.indexAt,asIntOf,Sem.run_bind,Sem.run_pure,Result.andThen_ok,run_underlying hu];exact M_
  simp only at hx;cases x with
  |list l=>
   simp only at hx;split at hx
   ·rename_i e he;split at hx
    ·rename_i aX;cases hx;cases hv with
     |list hc hz hf hl ay hn bm bP=>
      rename_i cs A n cap eG;have aa:=(Qna.1 he).1;have aN:=Qnp he;have mA:=hz e aN;have jY:eG=sz:=by rw[<-mA,aX]
      subst jY;have jF:((QU l).drop (i.toNat*eG)).take eG=e.cells:=by
       have h1:=JS hz i.toNat;rw[h1];have h2:l.drop i.toNat=e :: l.drop (i.toNat+1):=by
        rw[QnU aa];congr 1
        exact(Qna.1 he).2
       rw[h2,Zq,List.take_append,mA];simp[QnL (QnV mA)]
      have gG:RepL G e.cells ((cs.drop (i.toNat*eG)).take eG):=by
       rw[<-jF];exact hc.takeDrop _ _
      have mb:∀x∈e.cells,x∈QU l:=λx hx=>QnX.2 ⟨e,aN,hx⟩
      have aM:0<((cs.drop (i.toNat*eG)).take eG).length:=by rw[gG.length,aX];omega
      obtain⟨u0,uw⟩:∃u,(cs.drop (i.toNat*eG))[0]? = some u:=by
       rw[Qn8]at aM;exact⟨_,Qnb ψ⟩
      rw[QnR]at uw;obtain⟨b,o,hA,_⟩:=ay _ u0 uw;refine⟨_,pY b o n cap (by rw[hA]) ψ,?_⟩;refine .rptr gG (JO hf mb) (ZA hl mb) (λq u hq=>?_);rw[QnQ]at hq;split at hq
      ·rw[QnR]at hq;obtain⟨b',o',ff,sy⟩:=ay _ u hq;rw[hA]at ff;cases ff;rw[Qm7];exact sy
      ·cases hq
    ·cases hx
   ·cases hx
  |vec lv s g o n q=>
   simp only at hx;split at hx
   ·rename_i g' z xs ar;split at hx
    ·rename_i hh;obtain⟨rfl,rfl,aa⟩:=hh;cases hx;obtain⟨e1,e2,e3,e4⟩:=h.mr.vec lv s g sz xs ar;cases hv with
     |vec dv hg iS=>
      rcases iS e1.symm with⟨ap,rfl,rfl,A0,rfl,gh⟩|⟨b,A,c,ap,bz,rfl,i6,dI,hq,hA⟩
      ·omega
      ·have j7:o<G.vc lv s:=Nat.lt_of_lt_of_le (Nat.lt_of_le_of_lt (Nat.le_add_right o i.toNat) (Nat.add_lt_add_left aa o)) bz;have ff:=hA ⟨.inl j7,.inr (Nat.lt_of_le_of_lt (Qnk _) aa)⟩;rw[e2]at ff;refine⟨_,pY b (o*sz) n c (by rw[ff]) aa,.vptr rfl (QnV e1.symm) λ_=>⟨b,ap,?_⟩⟩;rw[e2,QnI,QnM]
    ·cases hx
   ·cases hx
  |_=>simp at hx
 |some n=>
  obtain⟨yJ,j,hu,hi,hj⟩:=ht;have qm:∀(b o:Nat),v=.pointer (some ⟨b,o,none⟩)->i.toNat<n->(Instr.indexAt t v (.int k i)).run P w=.ok (.pointer (some ⟨b,o+i.toNat*sz,none⟩)) w:=by
   intro b o bQ aa;subst bQ;simp only[Instr.indexAt,asIntOf,Sem.run_bind,Sem.run_pure,Result.andThen_ok,run_underlying hu,Instr.sureAddr];exact M_
  simp only at hx;cases x with
  |ptr lv s o=>
   simp only at hx;split at hx
   ·rename_i aa;cases hx;cases hv with
    |ptr hb=>exact⟨_,qm _ o rfl aa,.ptr hb⟩
   ·cases hx
  |rptr xs=>
   simp only at hx;split at hx
   ·rename_i aa;cases hx;cases hv with
    |rptr hc hf hl hs=>
     exact⟨_,qm _ _ rfl aa,.rptr (hc.drop _) (JO hf λx hx=>QnY hx) (ZA hl λx hx=>QnY hx) (λq u hq=>by
      rw[QnR]at hq;rw[Qm7];exact hs _ u hq)⟩
   ·cases hx
  |_=>simp at hx
theorem Mk (h:Rel G B N st a w){l s g:Nat}(hg:Y8 st.m l s=some g):g=G.vg l s:=by
 unfold Y8 at hg;split at hg
 ·rename_i g' z xs ar;cases hg;exact(h.mr.vec l s g z xs ar).1.symm
 ·cases hg
theorem B4 (h:Rel G B N st a w){x:AV}{ks:List MK}{vs:List AV}(hx:K3 st.m x=some (ks,vs)){v:Value}(hv:Rep G x v):∃b,v=.map (some b)/\w.heap[b]? = some (IT.obj (.mp ks vs) 0):=by
 cases x with
 |mp ks' rD=>
  cases hx;cases hv with
  |mp hb=>exact⟨_,rfl,h.mr.stab _ _ _ hb⟩
 |mptr l s=>
  simp only[K3]at hx;split at hx
  ·rename_i hl;cases hx;cases hv with
   |mptr hb=>
    obtain⟨b',e',hh⟩:=h.mr.iter l s _ _ hl;rw[hb]at e';cases e';exact⟨_,rfl,hh⟩
  ·cases hx
 |_=>cases hx
theorem FQ {t:TypeId}(h:UG P t=true):∃d,P.underlying t=some d/\∀m,d≠.interface m:=by
 cases hu:P.underlying t with
 |none=>simp[UG,hu]at h
 |some d=>
  refine⟨d,rfl,λm e=>?_⟩;subst e;simp[UG,hu]at h
theorem Qae {f:Fr}{m:Qk}{sz:Option Nat}{r:RA}{lo hi mx:Option RA}{x:AV}(hx:Qz f m (.slcp sz r lo hi mx)=some x):Qz f m (.slc sz r lo hi mx)=some x:=by
 have key:∀(l:List AV) (sz:Option Nat) (a b:Nat) (c:Option Nat),Xz [] sz (.list l) a b c=Xz m sz (.list l) a b c:=by
  intro l sz a b c;cases sz<;>rfl
 simp only[Qz]at hx |-;split at hx
 ·rename_i l e;rw[e];simp only[Jz];cases ha:JR f 0 lo with
  |none=>
   rw[ha]at hx;cases hx
  |some a=>
   rw[ha]at hx;simp only at hx |-;cases hb:JR f l.length hi with
   |none=>
    rw[hb]at hx;cases hx
   |some b=>
    rw[hb]at hx;simp only at hx |-;cases mx with
    |none=>
     simp only at hx |-;rw[<-key];exact hx
    |some r=>
     simp only at hx |-;cases hc:JR f 0 (some r)with
     |none=>
      rw[hc]at hx;cases hx
     |some c=>
      rw[hc]at hx;simp only at hx |-;rw[<-key];exact hx
 ·cases hx
theorem QeZ (h:Rel G B N st a w){vo:VO}{x:AV}(hx:Qz st.f st.m vo=some x){o:Oper}(hc:Zo P o.op vo=true):∃v,(execOp a.eval o).run P w=.ok (.value v) w/\Rep G x v:=by
 obtain⟨dst,op,ty,pos,after,guard⟩:=o;simp only at hc;cases vo with
 |mov r=>
  simp only[Qz,QnC]at hx;subst hx;cases op<;>simp only[Zo,Qnu]at hc<;>exact⟨_,rfl,Qx h hc⟩
 |pick c p q=>
  cases op<;>simp only[Zo,Qnu,Qnz]at hc;rename_i oc wv oq;obtain⟨⟨h1,h2⟩,h3⟩:=hc;have r1:=Qx h h1;simp only[Qz]at hx;split at hx
  ·rename_i b e;cases hx;rw[e]at r1;have hv:a.eval oc=.bool b:=by
    revert r1
    generalize a.eval oc=v;intro r1;cases r1;rfl
   refine⟨if b then a.eval wv else a.eval oq,by simp[execOp,hv,asBool],?_⟩;cases b
   ·exact Qx h h3
   ·exact Qx h h2
  ·cases hx
 |build z ps=>
  cases op<;>simp only[Zo,Qnu]at hc;rename_i t Qo;split at hc
  ·rename_i fs i hu hi;split at hc
   ·rename_i zv pl hz dT;simp only[Qnz]at hc;simp only[Qz,Qnd]at hx;obtain⟨y,hy,rfl⟩:=hx;obtain⟨cs,h1,h2⟩:=Sj h hc.2 (isCL_ok hc.1) hy;refine⟨.agg cs,?_,.agg h2⟩;have sI:(fs.mapM λf=>(do pure (f.offset,<-sizeOf f.type):Sem (Nat×Nat))).run P w=.ok pl.toArray w:=by
     unfold Mf at dT;rw[Array.mapM_eq_mapM_toList];simp only[Sem.run_map];have aux:∀(l:List Field) (pl:List (Nat×Nat)),(l.mapM λfl=>(P.info? fl.type).map λi=>(fl.offset,i.size))=some pl->
       (l.mapM λf=>(do pure (f.offset,<-sizeOf f.type):Sem (Nat×Nat))).run P w=.ok pl w:=by
      intro l
      induction l with
      |nil=>intro pl e;simp at e;subst e;rfl
      |cons f l ih=>
       intro pl e;simp only[List.mapM_cons,Option.bind_eq_bind,Option.bind_eq_some_iff,Qnd,Option.pure_def,QnC]at e;obtain⟨p,⟨i,hi,rfl⟩,yb,e,rfl⟩:=e;simp only[List.mapM_cons,Sem.run_bind,X7 hi,Result.andThen_ok,Sem.run_pure,ih yb e]
     rw[aux _ pl dT];rfl
    simp only[execOp,Instr.build,zeroValue,typeInfo,Sem.run_bind,run_program,Result.andThen_ok,hi,Sem.run_pure,hz,run_underlying hu,sI];have e:(λ(x:Nat)=>(pl.toArray)[x]?)=(λ(x:Nat)=>pl[x]?):=by funext x;simp
    have e2:(Qo.map λ(x:Nat×Operand)=>(x.1,a.eval x.2)).toList=Qo.toList.map λx=>(x.1,a.eval x.2):=ό
    rw[e,e2,h1];rfl
   ·cases hc
  ·rename_i k e i hu hi;split at hc
   ·rename_i zv ie hz pM;simp only[Qnz]at hc;simp only[Qz,Qnd]at hx;obtain⟨y,hy,rfl⟩:=hx;obtain⟨cs,h1,h2⟩:=Mi h hc.2 (isCL_ok hc.1) hy;refine⟨.agg cs,?_,.agg h2⟩;simp only[execOp,Instr.build,zeroValue,typeInfo,Sem.run_bind,run_program,Result.andThen_ok,hi,Sem.run_pure,hz,run_underlying hu,X7 pM];have e2:(Qo.map λ(x:Nat×Operand)=>(x.1,a.eval x.2)).toList=Qo.toList.map λx=>(x.1,a.eval x.2):=ό
    rw[e2,h1];rfl
   ·cases hc
  ·cases hc
 |load k r=>
  cases op<;>simp only[Zo,Qnu,Qnz,Qng]at hc;rename_i t y;obtain⟨v,h1,h2⟩:=UH (P:=P) h hx (Qx h hc.2) hc.1;exact⟨v,by simp[execOp,h1],h2⟩
 |loado k r=>
  have dG:XH st.m k (r.ev st.f)=some x:=by
   simp only[Qz]at hx;split at hx
   ·rename_i e;rw[e];exact hx
   ·cases hx
  exact zJ
 |loadv l s k r=>
  have dG:XH st.m k (r.ev st.f)=some x:=by
   simp only[Qz]at hx;split at hx
   ·rename_i e;split at hx
    ·rw[e];exact hx
    ·cases hx
   ·cases hx
  exact zJ
 |loadr k r=>
  have dG:XH st.m k (r.ev st.f)=some x:=by
   simp only[Qz]at hx;split at hx
   ·rename_i e;rw[e];exact hx
   ·rename_i e;rw[e];exact hx
   ·cases hx
  exact zJ
 |nilck r=>
  cases op<;>simp only[Zo,Qnu]at hc;rename_i y;have r1:=Qx h hc;simp only[Qz]at hx;split at hx
  ·rename_i e;cases hx;rw[e]at r1;simp only[execOp];generalize a.eval y=v at r1 |-;cases r1 with
   |ptr hb=>exact⟨_,rfl,.ptr hb⟩
  ·rename_i e;split at hx
   ·rename_i hg;cases hx;rw[e]at r1;simp only[execOp];generalize a.eval y=v at r1 |-;cases r1 with
    |vptr h1 h2 h3=>
     obtain⟨b,hb,rfl⟩:=h3 (Mk h hg);exact⟨_,rfl,.vptr h1 h2 λ_=>⟨b,hb,rfl⟩⟩
   ·cases hx
  ·rename_i e;cases hx;rw[e]at r1;simp only[execOp];generalize a.eval y=v at r1 |-;cases r1 with
   |rptr h1 h2 h3 h4=>exact⟨_,rfl,.rptr h1 h2 h3 h4⟩
  ·rename_i e;cases hx;rw[e]at r1;simp only[execOp];generalize a.eval y=v at r1 |-;cases r1 with
   |fn h1 h2=>exact⟨_,rfl,.fn h1 h2⟩
  ·cases hx
 |bin ty o r s=>
  cases op<;>simp only[Zo,Qnu,Qnz,Qng]at hc;rename_i o' t y z yt;obtain⟨⟨⟨rfl,h1⟩,h2⟩,h3⟩:=hc;obtain⟨v,h4,h5⟩:=Qdf (P:=P) (w:=w) hx (Qx h h2) (Qx h h3) h1 y z;exact⟨v,by simp only[execOp,Sem.run_bind]at h4 |-;rw[h4];rfl,h5⟩
 |eqs neg ks r s=>
  cases op<;>simp only[Zo,Qnu,Qnz,Qng,Qn9]at hc;rename_i o' t y z yt;obtain⟨⟨⟨⟨⟨ho,h1⟩,ay⟩,fU⟩,h2⟩,h3⟩:=hc;simp only[Qz]at hx;split at hx
  ·rename_i l1 l2 e1 e2;split at hx
   ·rename_i b hb;cases hx;have r1:=Qx h h2;have r2:=Qx h h3;rw[e1]at r1;rw[e2]at r2;simp only[execOp];generalize a.eval y=v at r1 |-;generalize a.eval z=u at r2 |-;cases r1 with
    |agg r1=>
     cases r2 with
     |agg r2=>
      rename_i vs us;split at h1
      ·rename_i fs hu;have hf:P.fieldsOf t=fs:=by simp[Program.fieldsOf,hu]
       have heq:=run_equalIn_struct (P:=P) w 9999 t ⟨vs⟩ ⟨us⟩ (by rw[hf];exact hu) ay;rw[hf,FP (P:=P) (w:=w) 9998 ⟨vs⟩ ⟨us⟩ fs.toList ks 0 l1 l2 b h1 (by simpa using r1) (by simpa using r2) hb]at heq;simp only[Sem.run_bind,run_eqGuard_agg w o' t y z ⟨vs⟩ ⟨us⟩ fU,Result.andThen_ok];cases neg with
       |false=>
        simp only[Qnu,if_false]at ho;subst ho;exact⟨_,by rw[run_eql_struct,heq];rfl,.bool _⟩
       |true=>
        simp only[if_true]at ho;subst ho;exact⟨_,by rw[run_neq_struct,heq];rfl,.bool _⟩
      ·cases h1
   ·cases hx
  ·cases hx
 |un o r=>
  cases op<;>simp only[Zo,Qnu,Qnz,Qng]at hc;obtain⟨rfl,h1⟩:=hc;obtain⟨v,h4,h5⟩:=QeV (P:=P) (w:=w) hx (Qx h h1);exact⟨v,by simp[execOp,h4],h5⟩
 |cvi k r=>
  cases op<;>simp only[Zo,Qnu,Qnz]at hc;rename_i src nF y;obtain⟨⟨h1,h2⟩,h3⟩:=hc;have r1:=Qx h h3;simp only[Qz]at hx;split at hx
  ·rename_i k' n e;cases hx;rw[e]at r1;have hd:P.underlying nF=some (.int k):=by
    unfold Ui at h1;split at h1
    ·rename_i y6 hk;simp only[Qng]at h1;subst h1;exact hk
    ·cases h1
   obtain⟨ds,hs⟩:=QnD.1 h2;simp only[execOp];generalize a.eval y=v at r1 |-;cases r1;refine⟨.int k (k.wrap n),?_,.int _ _⟩;simp only[convert,Sem.run_bind,run_underlying hs,run_underlying hd,Result.andThen_ok,Conv.intToInt];rfl
  ·cases hx
 |b2s r=>
  cases op<;>simp only[Zo,Qnu,Qnz]at hc;rename_i src nF y;obtain⟨⟨h1,h2⟩,h3⟩:=hc;have r1:=Qx h h3;simp only[Qz]at hx;split at hx
  ·rename_i l e;simp only[Qnd]at hx;obtain⟨s,hs,rfl⟩:=hx;split at h2
   ·rename_i e' bD;simp only[Qnz]at h2;have he:P.underlying e'=some (.int .u8):=by
     have:=h2.1;unfold Ui at this;split at this
     ·rename_i y6 hk;simp only[Qng]at this;subst this;exact hk
     ·cases this
    obtain⟨A,c,hv,_⟩:=Yc h e r1;have af:=QeX (P:=P) h e hs r1;simp only[execOp];rw[hv]at af |-;refine⟨.string ⟨⟨s⟩⟩,?_,.str _⟩;simp only[Sem.run_bind,run_convert_bytes_string w src nF e' A _ c bD he (K4 h1),af];rfl
   ·cases h2
  ·cases hx
 |slcl r hi mx=>
  cases op<;>simp only[Zo,Qnu]at hc;rename_i t x xi xh yO;cases xi with
  |some _=>simp at hc
  |none=>
  cases xh with
  |none=>simp at hc
  |some y=>
  cases yO with
  |none=>simp at hc
  |some z=>
  simp only[Qnz]at hc;obtain⟨⟨⟨aD,dg⟩,t9⟩,aB⟩:=hc;have rx:=Qx h dg;have ry:=Qx h t9;have rz:=Qx h aB;simp only[Qz]at hx;split at hx
  ·rename_i l hl;split at hx
   ·rename_i ka a hy;split at hx
    ·rename_i kb b hz;split at hx
     ·rename_i dE;cases hx;obtain⟨rfl,rfl⟩:=dE;rw[hl]at rx;rw[hy]at ry;rw[hz]at rz;cases hu:P.underlying t with
      |none=>simp[hu]at aD
      |some dd=>
       cases dd with
       |slice e=>
        simp only[hu,QnD]at aD;obtain⟨i,hi⟩:=aD;have ey:a.eval y=.int ka (l.length:Int):=by
         revert ry;generalize a.eval y=u;intro ry;cases ry;rfl
        have ez:a.eval z=.int kb (l.length:Int):=by
         revert rz;generalize a.eval z=u;intro rz;cases rz;rfl
        revert rx
        generalize iD:a.eval x=v;intro rx;cases rx with
        |list hc ri hf c_ ay eO bm bP=>
         rename_i cs A n cap eG;subst eO;have hb:=Gj (P:=P) (w:=w) true l.length cap (lo:=none) (hi:=some (.int ka (l.length:Int))) (mx:=some (.int kb (l.length:Int))) (l:=0) (h:=l.length) (m:=l.length) (.inl ⟨rfl,rfl⟩) (.inr ⟨ka,_,rfl,ψ,ό⟩) (.inr ⟨kb,_,rfl,ψ,ό⟩) (λ_=>rfl) (Qnk _) (Qm8 _) bm;refine⟨.slice (if l.length=0 then A else A.map (·.add (0*i.size))) l.length l.length,?_,Rep.tolcap ?_⟩
         ·simp only[execOp,iD,Sem.run_bind,Option.map_none,QnB,ey,ez,Instr.sliceAt,run_underlying hu,Result.andThen_ok,Instr.slice,hb,X7 hi,Sem.run_pure,Qoa]
          try rfl
         ·have:=Rep.sub hc ri hf c_ ay 0 l.length l.length ψ (Qm8 _) bP (A':=if l.length=0 then A else A.map (·.add (0*i.size))) (λb o gW hA=>by
           rw[Qni ψ,hA];simp only[QnB,Za,Nat.zero_mul])
          simpa using this
       |_=>simp[hu]at aD
     ·cases hx
    ·cases hx
   ·cases hx
  ·cases hx
 |slc sz r lo hi mx=>
  exact za
 |slcp sz r lo hi mx=>
  replace hx:=Qae hx;exact za
 |mget tx ok z r i=>
  cases op<;>simp only[Zo,Qnu,Qnz,Qng]at hc;rename_i t y yi l_;obtain⟨⟨⟨h1,rfl⟩,h2⟩,h3⟩:=hc;have r1:=Qx h h2;have r2:=Qx h h3;split at h1
  case h_2=>cases h1
  rename_i kt et hu;simp only[Qnz]at h1;obtain⟨iR,h1⟩:=h1;split at h1
  case h_2=>cases h1
  rename_i inf hi;split at h1
  case h_2=>cases h1
  rename_i zv cm;simp only[Qz]at hx;split at hx
  case h_2=>cases hx
  rename_i ks vs he;split at hx
  case h_2=>cases hx
  rename_i k fv;obtain⟨iH,ey⟩:=Bc fv r2;cases gM:keys tx ks with
  |false=>rw[gM]at hx;cases hx
  |true=>
  rw[gM,cond_true]at hx;obtain⟨b,eb,hb⟩:=B4 h he r1;have hz:(zeroValue et).run P w=.ok zv w:=Ϯ
  have af:=Db (k:=k) iH gM ok hu (Vm iR) hb hz;refine⟨_,Þ,?_⟩;cases hm:KB k ks vs with
  |none=>
   exact OE
  |some v=>
   rw[hm]at hx;simp only at hx;cases hg:v.gr with
   |false=>rw[hg]at hx;cases hx
   |true=>
    exact OM
 |mgetp tx ok z r i=>
  cases op<;>simp only[Zo,Qnu,Qnz,Qng]at hc;rename_i t y yi l_;obtain⟨⟨⟨h1,rfl⟩,h2⟩,h3⟩:=hc;have r1:=Qx h h2;have r2:=Qx h h3;split at h1
  case h_2=>cases h1
  rename_i kt et hu;simp only[Qnz]at h1;obtain⟨iR,h1⟩:=h1;split at h1
  case h_2=>cases h1
  rename_i inf hi;split at h1
  case h_2=>cases h1
  rename_i zv cm;simp only[Qz]at hx;split at hx
  case h_2=>cases hx
  rename_i ks vs he;rw[he]at r1;split at hx
  case h_2=>cases hx
  rename_i k fv;obtain⟨iH,ey⟩:=Bc fv r2;cases gM:keys tx ks with
  |false=>rw[gM]at hx;cases hx
  |true=>
  rw[gM,cond_true]at hx;obtain⟨b,eb,hb⟩:=B4 (x:=.mp ks vs) h rfl r1;have hz:(zeroValue et).run P w=.ok zv w:=Ϯ
  have af:=Db (k:=k) iH gM ok hu (Vm iR) hb hz;refine⟨_,Þ,?_⟩;cases hm:KB k ks vs with
  |none=>
   exact OE
  |some v=>
   rw[hm]at hx;simp only at hx;cases hg:v.gr with
   |false=>rw[hg]at hx;cases hx
   |true=>
    exact OM
 |mki t r=>
  cases op<;>simp only[Zo,Qnu,Qnz,Qng]at hc;rename_i t' y;obtain⟨⟨rfl,h1⟩,h2⟩:=hc;have r1:=Qx h h2;simp only[Qz,QnC]at hx;subst hx;refine⟨.iface t (a.eval y),?_,.iface r1⟩;obtain⟨d,hu,hd⟩:=FQ h1;simp only[execOp,Sem.run_bind,Instr.makeInterface,run_underlying hu,Result.andThen_ok];cases d<;>first|rfl|exact absurd rfl (hd _)
 |tas t ok z r=>
  cases op<;>simp only[Zo,Qnu,Qnz,Qng]at hc;rename_i y xt t' l_;obtain⟨⟨⟨⟨rfl,h1⟩,hz⟩,rfl⟩,h2⟩:=hc;have r1:=Qx h h2;split at hz
  case h_2=>cases hz
  rename_i inf hi;split at hz
  case h_2=>cases hz
  rename_i zv cm;have ri:(zeroValue t).run P w=.ok zv w:=Ϯ
  obtain⟨d,hu,hd⟩:=FQ h1;simp only[Qz]at hx;split at hx
  ·rename_i t' y' e;rw[e]at r1;generalize hv:a.eval y=v at r1;cases r1 with
   |iface r1=>
    cases ht:t'==t with
    |true=>
     rw[ht]at hx;have tR:t'=t:=ā
     subst tR;cases hx;rename_i v';refine⟨if ok then .tuple #[v',.bool true]else v',?_,?_⟩
     ·simp only[execOp,hv,Sem.run_bind,Instr.typeAssert,run_underlying hu,Result.andThen_ok];cases d<;>first|exact absurd rfl (hd _)|simp
     ·cases ok
      ·exact r1
      ·exact .tup (.cons r1 (.cons (.bool _) .nil))
    |false=>
     rw[ht]at hx;have tR:¬t'=t:=ā
     cases ok with
     |false=>cases hx
     |true=>
      cases hx;refine⟨.tuple #[zv,.bool false],?_,.tup (.cons (isC_ok hz) (.cons (.bool _) .nil))⟩;simp only[execOp,hv,Sem.run_bind,Instr.typeAssert,run_underlying hu,Result.andThen_ok];cases d<;>first|exact absurd rfl (hd _)|simp[tR,ri]
  ·rename_i e;rw[e]at r1;generalize hv:a.eval y=v at r1;cases r1;cases ok with
   |false=>cases hx
   |true=>
    cases hx;refine⟨.tuple #[zv,.bool false],?_,.tup (.cons (isC_ok hz) (.cons (.bool _) .nil))⟩;simp only[execOp,hv,Sem.run_bind,Instr.typeAssert,run_underlying hu,Result.andThen_ok];cases d<;>first|exact absurd rfl (hd _)|simp[ri]
  ·cases hx
 |faddr off r=>
  cases op<;>simp only[Zo,Qnu,Qnz]at hc;rename_i t y k;obtain⟨h1,h2⟩:=hc;have r1:=Qx h h2;split at h1
  ·rename_i fs hu;split at h1
   ·rename_i fl dR;simp only[Qnz,Qng,Qob,QnE]at h1;obtain⟨rT,i,hi,aq⟩:=h1;have run:∀b o,a.eval y=.pointer (some ⟨b,o,none⟩)->(Instr.fieldAt t (a.eval y) k).run P w=.ok (.pointer (some ⟨b,o+off,none⟩)) w:=by
     intro b o e;rw[e];simp only[Instr.fieldAt,Sem.run_bind,run_underlying hu,Result.andThen_ok,dR,Instr.sureAddr,Sem.run_pure,fieldPlace,X7 hi,Qni aq,Za,rT]
    simp only[execOp,Sem.run_bind];simp only[Qz]at hx;split at hx
    ·rename_i e;cases hx;rw[e]at r1;generalize hv:a.eval y=v at r1 run |-;cases r1 with
     |ptr hb=>exact⟨_,by rw[run _ _ rfl];rfl,.ptr hb⟩
    ·rename_i e;split at hx
     ·rename_i hg;cases hx;rw[e]at r1;generalize hv:a.eval y=v at r1 run |-;cases r1 with
      |vptr g1 g2 g3=>
       obtain⟨b,hb,rfl⟩:=g3 (Mk h hg);exact⟨_,by rw[run _ _ rfl];rfl,.vptr rfl g2 λ_=>⟨b,hb,by rw[Qm7]⟩⟩
     ·cases hx
    ·rename_i xs e;cases hx;rw[e]at r1;generalize hv:a.eval y=v at r1 run |-;cases r1 with
     |rptr g1 g2 g3 g4=>
      exact⟨_,by rw[run _ _ rfl];rfl,.rptr (g1.drop off) (JO g2 λx hx=>QnY hx) (ZA g3 λx hx=>QnY hx) (λq u hq=>by
       rw[QnR]at hq;rw[Qm7];exact g4 _ u hq)⟩
    ·cases hx
   ·cases h1
  ·cases h1
 |fld off k r=>
  cases op<;>simp only[Zo,Qnu,Qnz]at hc;rename_i t y q;obtain⟨h1,h2⟩:=hc;have r1:=Qx h h2;split at h1
  ·rename_i fs hu;split at h1
   ·rename_i fl dR;simp only[Qnz,Qng]at h1;simp only[Qz]at hx;split at hx
    ·rename_i l e;rw[e]at r1;simp only[execOp,Sem.run_bind];generalize a.eval y=v at r1 |-;cases r1 with
     |agg r1=>
      obtain⟨v,h3,h4⟩:=Qdg (P:=P) (w:=w) r1 hx h1.2;refine⟨v,?_,h4⟩;simp only[Instr.field,Sem.run_bind,run_underlying hu,Result.andThen_ok,dR,asAgg,Sem.run_pure,h1.1,h3]
    ·cases hx
   ·cases h1
  ·cases h1
 |iaddr sz len r i=>
  cases op<;>simp only[Zo,Qnu,Qnz]at hc;rename_i t y z;obtain⟨⟨h1,h2⟩,h3⟩:=hc;have r1:=Qx h h2;have r2:=Qx h h3;have ht:sz≠0/\QeY P t sz len:=by
   cases hu:P.underlying t with
   |none=>simp[hu]at h1
   |some d=>
    cases d with
    |slice e=>
     exact OI
    |array n e=>
     exact OI
    |_=>simp[hu]at h1
  simp only[Qz]at hx;split at hx
  ·rename_i k n e;rw[e]at r2;simp only[execOp,Sem.run_bind];generalize a.eval z=u at r2 |-;cases r2;obtain⟨v,h4,h5⟩:=Et (P:=P) h ht.1 hx r1 (k:=k) ht.2;exact⟨v,by rw[h4];rfl,h5⟩
  ·cases hx
 |idx r i=>
  cases op<;>simp only[Zo,Qnu,Qnz]at hc;rename_i t y z;obtain⟨⟨h1,h2⟩,h3⟩:=hc;have r1:=Qx h h2;have r2:=Qx h h3;simp only[Qz]at hx;split at hx
  ·rename_i s k n e1 e2;split at hx
   ·rename_i h0;split at hx
    ·rename_i b hb;cases hx;rw[e1]at r1;rw[e2]at r2;simp only[execOp,Sem.run_bind];generalize a.eval y=v at r1 |-;generalize a.eval z=u at r2 |-;cases r1;cases r2;refine⟨.int .u8 (b.toNat:Int),?_,.int _ _⟩;have tK:(⟨⟨s⟩⟩:ByteArray)[n.toNat]? = some b:=by
      have aa:=(Qna.1 hb).1;rw[ByteArray.getElem?_lt' _ _ (by exact aa)];rw[Qnb aa]at hb;exact hb
     simp only[Instr.index,asIntOf,Sem.run_bind,Sem.run_pure,Result.andThen_ok,run_underlying (K4 h1),Qnj h0,tK]
    ·cases hx
   ·cases hx
  ·cases hx
 |ext r i=>
  cases op<;>simp only[Zo,Qnu,Qnz,Qng]at hc;rename_i y k;obtain⟨rfl,h2⟩:=hc;have r1:=Qx h h2;simp only[Qz]at hx;split at hx
  ·rename_i l e;rw[e]at r1;simp only[execOp,Sem.run_bind];generalize a.eval y=v at r1 |-;cases r1 with
   |tup r1=>
    obtain⟨v,h3,h4⟩:=r1.at_ hx;exact⟨v,by simp[Instr.extract,h3],h4⟩
  ·cases hx
 |len k r=>
  cases op<;>simp only[Zo,Qnu]at hc;rename_i cl;split at hc
  ·rename_i o1 y t o2;cases o2;simp only[Qnz]at hc;obtain⟨h1,h2⟩:=hc;have r1:=Qx h h2;simp only[execOp,resolve,invoke,builtin,Sem.run_bind,Sem.run_pure,Result.andThen_ok,Qoc,QnJ,Qod,Builtin.len_,List.getElem?_toArray,Qoe];simp only[Qz]at hx;split at h1
   ·rename_i hu;simp only[Qng]at h1;subst h1;simp only at hx;split at hx
    ·rename_i s e;cases hx;rw[e]at r1;generalize a.eval y=v at r1 |-;cases r1;exact zB
    ·cases hx
   ·rename_i el hu;simp only[Qng]at h1;subst h1;simp only at hx;split at hx
    ·rename_i e;cases hx;rw[e]at r1;generalize a.eval y=v at r1 |-;cases r1;exact zB
    ·rename_i l e;cases hx;rw[e]at r1;generalize a.eval y=v at r1 |-;cases r1 with
     |list a1 a2 a3 a4 a5 a6 a7 a8=>
      subst a6;exact zB
    ·rename_i l s g o n q e;split at hx
     ·rename_i hg;cases hx;rw[e]at r1;generalize a.eval y=v at r1 |-;cases r1 with
      |vec g1 g2 g3=>
       rcases g3 (Mk h hg)with⟨_,_,rfl,A0,rfl,_⟩|⟨b,A,c,_,_,rfl,_⟩
       ·exact zB
       ·exact zB
     ·cases hx
    ·cases hx
   ·rename_i ky el hu;simp only[Qng]at h1;subst h1;simp only at hx;split at hx
    ·rename_i e;cases hx;rw[e]at r1;generalize a.eval y=v at r1 |-;cases r1;exact zB
    ·cases hx
   ·cases h1
  ·cases hc
 |mnx mx r s=>
  cases op<;>simp only[Zo,Qnu]at hc;rename_i cl;split at hc
  ·rename_i o1 b y z ts o2;cases o2;simp only[Qnz]at hc;obtain⟨⟨h1,h2⟩,h3⟩:=hc;have r1:=Qx h h2;have r2:=Qx h h3;simp only[Qz]at hx;split at hx
   ·rename_i k m k' n e1 e2;split at hx
    ·rename_i hk;subst hk;cases hx;rw[e1]at r1;rw[e2]at r2;simp only[execOp,resolve,invoke,Sem.run_bind,Sem.run_pure,Result.andThen_ok,Qoc,QnJ,Qod];generalize a.eval y=v at r1 |-;generalize a.eval z=u at r2 |-;cases r1;cases r2;split at h1
     ·subst h1;exact⟨_,rfl,.int _ _⟩
     ·simp only[Qn9]at h1;subst h1;exact⟨_,rfl,.int _ _⟩
     ·cases h1
    ·cases hx
   ·cases hx
  ·cases hc
 |mkfn fn xs ys=>
  cases op<;>simp only[Zo,Qnu,Qnz,Qng]at hc;rename_i vt p q;obtain⟨⟨rfl,h1⟩,h2⟩:=hc;simp only[Qz,QnC]at hx;subst hx;have r1:=Gi h h1;have r2:=Gi h h2;refine⟨.func _ ⟨p.toList.map a.eval⟩ ⟨q.toList.map a.eval⟩,?_,.fn r1 r2⟩;have e1:Array.map a.eval p=⟨p.toList.map a.eval⟩:=ļ
  have e2:Array.map a.eval q=⟨q.toList.map a.eval⟩:=ļ
  simp only[execOp,Instr.makeFunc,e1,e2];rfl
 |toU r=>
  cases op<;>simp only[Zo,Qnu,Qnz]at hc;rename_i src dst y;obtain⟨⟨h1,h2⟩,h3⟩:=hc;have r1:=Qx h h3;simp only[Qz]at hx;split at hx
  ·rename_i l s o e;split at hx
   ·rename_i xs ar;split at hx
    ·rename_i ho;cases hx;rw[e]at r1;simp only[execOp];generalize a.eval y=v at r1 |-;cases r1 with
     |ptr hb=>
      rename_i b;split at h1
      ·rename_i t hs;split at h2
       ·rename_i hd;cases hi:P.info? t with
        |none=>rw[hi]at h1;simp at h1
        |some j=>
         rw[hi]at h1;obtain⟨b',cs,e',⟨qH,lo,kK,dX,_,_⟩,hr⟩:=h.mr.cells l s xs ar;rw[hb]at e';cases e';have hl:=hr.length;have ko:w.shape? b=some (qH,cs.size):=by unfold World.shape?;rw[dX]
         have af:=Lib.run_to_unsafe (P:=P) w ⟨b,o,none⟩ hs hd hi Ϭ ko (by simp at hl;show o<cs.size;omega);exact⟨_,by rw[Sem.run_bind,af];rfl,.ptr hb⟩
       ·cases h2
      ·cases h1
    ·cases hx
   ·cases hx
  ·cases hx
 |ofU t n r=>
  cases op<;>simp only[Zo,Qnu,Qnz]at hc;rename_i src dst y;obtain⟨⟨h1,h2⟩,h3⟩:=hc;have r1:=Qx h h3;simp only[Qz]at hx;split at hx
  ·rename_i l s o e;split at hx
   ·rename_i xs ar;split at hx
    ·rename_i ho;obtain⟨rfl,rfl,rfl⟩:=ho;cases hx;rw[e]at r1;simp only[execOp];generalize a.eval y=v at r1 |-;cases r1 with
     |ptr hb=>
      rename_i b;split at h1
      ·rename_i hs;split at h2
       ·rename_i u hd;simp only[Qnz,Qng]at h2;obtain⟨⟨rfl,hi⟩,qz⟩:=h2;obtain⟨j,hj⟩:=QnD.1 hi;obtain⟨b',cs,e',⟨qH,lo,kK,dX,aD,_⟩,hr⟩:=h.mr.cells l (u+2000) xs ar;rw[hb]at e';cases e';have hl:=hr.length;have ht:qH=u:=Si (s:=u+2000) aD (by simp[Zv]) ψ;subst ht;have ko:w.shape? b=some (qH,xs.length):=by unfold World.shape?;rw[dX];simp at hl;simp[hl]
        have af:=Lib.run_from_unsafe (P:=P) w ⟨b,0,none⟩ hs hd hj ko qz;exact⟨_,by rw[Sem.run_bind,af];rfl,.ptr hb⟩
       ·cases h2
      ·cases h1
    ·cases hx
   ·cases hx
  ·cases hx
 |same r=>
  simp only[Qz,QnC]at hx;subst hx;cases op<;>simp only[Zo,Qnu]at hc;rename_i cl;split at hc<;>first|(cases hc;done)|skip
  rename_i o1 k y ts o2;cases o2;simp only[Qnz]at hc;obtain⟨h1,h2⟩:=hc;split at h1
  ·rename_i fn hf;simp only[Qnz,Qng]at h1;obtain⟨⟨hn,hb⟩,ho⟩:=h1;refine⟨_,?_,Qx h h2⟩;have kg:Extern.findNext fn=none:=by
    have e1:Extern.allNextRows.lookup "internal/abi.NoEscape" = none := by kernel_rfl
    have e2:Extern.allNextRows.lookup fn.origin=none:=by
     cases hh:Extern.allNextRows.lookup fn.origin with
     |none=>rfl
     |some _=>rw[hh]at ho;cases ho
    simp[Extern.findNext,hn,e1,e2]
   have bu:Extern.find fn=some Extern.AbiNoEscape.same:=by
    have e1:(Extern.allGenericRows.lookup "internal/abi.NoEscape").isNone=true := by kernel_rfl
    have e2:(Extern.allTypedRows.lookup "internal/abi.NoEscape").isNone=true := by kernel_rfl
    have e3:Extern.allRows.lookup "internal/abi.NoEscape" = some Extern.AbiNoEscape.same := by kernel_rfl
    rw[Option.isNone_iff_eq_none]at e1 e2;simp[Extern.find,hn,e1,e2,e3]
   have af:=run_callFunc_extern (P:=P) (f:=k) (fn:=fn) hf (by rw[hn];decide) hb kg bu #[a.eval y] w;show(do let d <-resolve a.eval _ ty;invoke d.target d.args).run P w=_;simp only[resolve,Deferred.ofValue,Act.eval,Sem.run_bind,Sem.run_pure,Result.andThen_ok,invoke,Qoc,QnJ,Qod,List.append_toArray,Qof];exact af
  ·cases h1
end
def Gh.row (G:Gh)(l s:Nat)(b:Option Nat)(cap g sz:Nat):Gh :=
  { G with vm:=λi t => if i = l /\ t = s then b else G.vm i t,vc:=λi t => if i = l /\ t = s then cap else G.vc i t,
           vg:=λi t=>if i=l/\t=s then g else G.vg i t,vz:=λi t=>if i=l/\t=s then sz else G.vz i t }
def Gh.row_gle {G:Gh}{l s cap g sz:Nat}{b:Option Nat}(hg:G.vg l s<g):Gle G (G.row l s b cap g sz) where
 stab _ _ _ h:=h
 nm _ _ _ h:=h
 vg i t:=by
  show G.vg i t<=if i=l/\t=s then g else G.vg i t
  split
  ·rename_i h;obtain⟨rfl,rfl⟩:=h;omega
  ·exact Qm8 _
 vs i t e:=by
  by_cases h:i=l/\t=s
  ·obtain⟨rfl,rfl⟩:=h;simp only[Gh.row,and_self,if_true]at e;omega
  ·simp only[Gh.row,Qni h,and_self]
def Qn (o:Ob):Bool :=
 match o with
 |.cells _=>false
 |.iter .. => false
 |_=>true
def CW {o:Ob}(h:Qn o=true)(h':o.isVar=true):False:=by
 cases o<;>simp[Qn,Ob.isVar]at h h'
def MR.vecput' {G:Gh}{m:Qk}{w w':World}(h:MR G m w){l s g sz cap:Nat}{b:Option Nat}{ys:List AV}(hl:l<m.length)(ho:Qn (Qc m l s)=true)(hg:G.vg l s<g)
  (cj:∀k,k<w.heap.size->some k≠G.vm l s->w'.heap[k]? = w.heap[k]?) (hb:∀k,b=some k->G.vm l s=some k\/(¬G.mine k/\∀o,G.stab k o=none)) (aJ:Elems sz ys)
  (ae:(b=none/\ys=[])\/∃k,b=some k/\RowIs G s w' k cap sz ys):MR (G.row l s b cap g sz) (Am.put m l s (.vec g sz ys)) w':=by
 have cY:=Gh.row_gle (b:=b) (cap:=cap) (sz:=sz) hg;have ay:∀k o v,G.stab k o=some v->k<w.heap.size/\some k≠G.vm l s:=by
  intro k o v e;refine⟨Ge (h.stab k o v e),λe'=>?_⟩;rw[(h.vm l s k e'.symm).2 o]at e;cases e
 have bO:∀k o,b=some k->G.stab k o=none:=by
  intro k o e;rcases hb k e with e'|e'
  ·exact(h.vm l s k e').2 o
  ·exact e'.2 o
 have cr:∀l' s' k,G.nm l' s'=some k->k<w.heap.size/\some k≠G.vm l s:=by
  intro l' s' k e;exact⟨(h.mine (.inl ⟨_,_,e⟩)).1,λe'=>h.inj3 _ _ _ _ _ e e'.symm⟩
 have ap:∀l' s' k,¬(l'=l/\s'=s)->G.vm l' s'=some k->k<w.heap.size/\some k≠G.vm l s:=by
  intro l' s' k hh e;exact⟨(h.mine (.inr ⟨_,_,e⟩)).1,λe'=>hh (h.inj2 _ _ _ _ _ e e'.symm)⟩
 refine⟨λk o v e=>?_,λl' s' zs e=>?_,λl' s' k e=>?_,λl' s' g' z zs e=>?_,λl' s' k e=>?_,λl' s' e=>?_,h.inj1,λl1 s1 l2 s2 k e1 e2=>?_,λl1 s1 l2 s2 k e1 e2=>?_,λl' s' t p e=>?_⟩
 ·obtain⟨h1,h2⟩:=ay k o v e;exact K2 (cj k h1 h2) (h.stab k o v e)
 ·by_cases hh:l'=l/\s'=s
  ·obtain⟨rfl,rfl⟩:=hh;rw[Qt hl]at e;cases e
  ·rw[QG ψ]at e;obtain⟨k,cs,e',hc,hr⟩:=h.cells l' s' zs e;obtain⟨h1,h2⟩:=cr _ _ _ e';exact⟨k,cs,e',hc.of (cj k h1 h2),hr.mono (cY.dn l')⟩
 ·obtain⟨hz,h2⟩:=h.nm l' s' k e;refine⟨?_,h2⟩;rw[QG ?_]
  ·exact hz
  ·by_cases hh:l'=l/\s'=s
   ·obtain⟨rfl,rfl⟩:=hh;exact(CW ho hz).elim
   ·omega
 ·by_cases hh:l'=l/\s'=s
  ·obtain⟨rfl,rfl⟩:=hh;rw[Qt hl]at e;cases e;simp only[Gh.row,and_self,if_true];refine⟨trivial,trivial,aJ,ae.imp id λ⟨k,e,r⟩=>⟨k,e,r.of rfl λvs hv=>RepL.rfd (G:=G) (G':=G.row l' s' b cap g sz) (λ_ _ _ h=>h) aJ.rf hv⟩⟩
  ·rw[QG ψ]at e;obtain⟨a1,a2,a3,a4⟩:=h.vec l' s' g' z zs e;simp only[Gh.row,Qni hh];refine⟨a1,a2,a3,a4.imp id λ⟨k,e',r⟩=>⟨k,e',r.of (cj k ?_ ?_) λvs hv=>RepL.rfd (G:=G) (G':=G.row l s b cap g sz) (λ_ _ _ h=>h) a3.rf hv⟩⟩
   ·exact(ap _ _ _ hh e').1
   ·exact(ap _ _ _ hh e').2
 ·by_cases hh:l'=l/\s'=s
  ·obtain⟨rfl,rfl⟩:=hh;simp only[Gh.row,and_self,if_true]at e;exact⟨⟨g,sz,ys,Qt hl⟩,λo=>bO k o e⟩
  ·simp only[Gh.row,Qni hh]at e;obtain⟨⟨g',z,zs,hz⟩,h2⟩:=h.vm l' s' k e;exact⟨⟨g',z,zs,ë⟩,h2⟩
 ·by_cases hh:l'=l/\s'=s
  ·obtain⟨rfl,rfl⟩:=hh;rw[Qt hl]at e;cases e
  ·rw[QG ψ]at e;simp only[Gh.row,Qni hh];exact h.gone l' s' e
 ·simp only[Gh.row]at e1 e2;split at e1<;>split at e2
  ·rename_i h1 h2;exact⟨h1.1.trans h2.1.symm,h1.2.trans h2.2.symm⟩
  ·rename_i h1 h2;obtain⟨h3,h4⟩:=ap _ _ _ h2 e2;rcases hb k e1 with e'|e'
   ·exact absurd e'.symm h4
   ·exact absurd (.inr ⟨_,_,e2⟩) e'.1
  ·rename_i h1 h2;obtain⟨h3,h4⟩:=ap _ _ _ h1 e1;rcases hb k e2 with e'|e'
   ·exact absurd e'.symm h4
   ·exact absurd (.inr ⟨_,_,e1⟩) e'.1
  ·exact h.inj2 _ _ _ _ _ e1 e2
 ·simp only[Gh.row]at e2;obtain⟨h3,h4⟩:=cr _ _ _ e1;split at e2
  ·rcases hb k e2 with e'|e'
   ·exact h4 e'.symm
   ·exact e'.1 (.inl ⟨_,_,e1⟩)
  ·exact h.inj3 _ _ _ _ _ e1 e2
 ·by_cases hh:l'=l/\s'=s
  ·obtain⟨rfl,rfl⟩:=hh;rw[Qt hl]at e;cases e
  ·rw[QG ψ]at e;obtain⟨k,e',hc⟩:=h.iter l' s' t p e;obtain⟨h1,h2⟩:=cr _ _ _ e';exact⟨k,e',(cj k h1 h2).trans hc⟩
def MR.free {G:Gh}{m:Qk}{w:World}(h:MR G m w){k:Nat}(hk:w.heap.size<=k):¬G.mine k/\∀o,G.stab k o=none:=by
 refine⟨λe=>by have:=(h.mine e).1;omega,λo=>?_⟩;cases hs:G.stab k o with
 |none=>rfl
 |some v=>exact absurd (Ge (h.stab k o v hs)) (Nat.not_lt.2 hk)
def MR.vecput {G:Gh}{m:Qk}{w w':World}(h:MR G m w){l s g sz cap:Nat}{b:Option Nat}{ys:List AV}(hl:l<m.length)(ho:Qn (Qc m l s)=true)(hg:G.vg l s<g)
  (cj:∀k,k<w.heap.size->some k≠G.vm l s->w'.heap[k]? = w.heap[k]?) (hb:∀k,b=some k->G.vm l s=some k\/w.heap.size<=k) (aJ:Elems sz ys)
  (ae:(b=none/\ys=[])\/∃k,b=some k/\RowIs G s w' k cap sz ys):MR (G.row l s b cap g sz) (Am.put m l s (.vec g sz ys)) w' :=
 h.vecput' hl ho hg cj (λk e=>(hb k e).imp id h.free) aJ ae
def Rel.vecput {G:Gh}{B N:Nat}{st:St}{a:Act}{w w':World}(h:Rel G B N st a w){l s g sz cap:Nat}{b:Option Nat}{ys:List AV}(hl:l<st.m.length)(ho:Qn (Qc st.m l s)=true)(hg:G.vg l s<g)
  (oS:w'.os=w.os) (jI:w'.tape=w.tape) (gP:w'.output=w.output) (dk:w.heap.size<=w'.heap.size)
  (cj:∀k,k<w.heap.size->some k≠G.vm l s->w'.heap[k]? = w.heap[k]?) (hb:∀k,b=some k->G.vm l s=some k\/w.heap.size<=k) (aJ:Elems sz ys)
  (ae:(b=none/\ys=[])\/∃k,b=some k/\RowIs G s w' k cap sz ys) :
  Rel (G.row l s b cap g sz) B N { st with m:=Am.put st.m l s (.vec g sz ys) } a w'/\Ext 1 G w (G.row l s b cap g sz) w':=by
 have cY:=Gh.row_gle (b:=b) (cap:=cap) (sz:=sz) hg;refine⟨⟨h.mr.vecput hl ho hg cj hb aJ ae,h.size,λi=>(h.slots i).mono cY,h.ds.mono cY,λs' k e=>?_,Qm9 h.top dk,WA h.ne⟩,⟨oS,jI,gP,dk,λ_ _ _ h=>h,λ_ _ _=>rfl,cY.vg,cY.vs,λk hk hm=>⟨cj k hk λe=>hm (.inr ⟨l,s,e.symm⟩),λ_=>rfl⟩,λk hk=>?_,λi t k e=>?_⟩⟩
 ·rcases e with e|e
  ·exact h.base s' k (.inl e)
  ·simp only[Gh.row]at e;split at e
   ·rename_i hh;rcases hb k e with e'|e'
    ·exact h.base s k (.inr (by rw[hh.1];exact e'))
    ·exact Qm9 h.top e'
   ·exact h.base s' k (.inr e)
 ·rcases hk with⟨i,t,e⟩|⟨i,t,e⟩
  ·exact .inl (.inl ⟨i,t,e⟩)
  ·simp only[Gh.row]at e;split at e
   ·rcases hb k e with e'|e'
    ·exact .inl (.inr ⟨_,_,e'⟩)
    ·exact .inr e'
   ·exact .inl (.inr ⟨i,t,e⟩)
 ·simp only[Gh.row]at e;split at e
  ·rename_i hh;rcases hb k e with e'|e'
   ·exact .inl ⟨l,s,by rw[hh.1];exact Qm8 _,e'⟩
   ·exact .inr e'
  ·exact .inl ⟨i,t,Qm8 _,e⟩
def QB (m:Qk)(l s:Nat):Nat :=
 match Qc m l s with
 |.vec g _ _=>g+1
 |_=>1
def Ko {G:Gh}{m:Qk}{w:World}(h:MR G m w){l s:Nat}(ho:Qn (Qc m l s)=true):G.vg l s<QB m l s:=by
 unfold QB;split
 ·rename_i g z xs e;rw[(h.vec l s g z xs e).1];omega
 ·rename_i hn;have:Qc m l s=.none:=by
   cases ar:Qc m l s with
   |none=>rfl
   |cells xs=>rw[ar]at ho;cases ho
   |iter t p=>rw[ar]at ho;cases ho
   |vec g z xs=>exact absurd ar (hn g z xs)
  rw[h.gone l s (by rw[this];rfl)];omega
def B5 {P:Program}{s:Nat}{w:World}{t tx ty e:TypeId}(aD:Zv s e=true){i:TypeInfo}{z:Value}(ht:P.underlying t=some (.slice e))(hi:P.info? e=some i)(hz:i.zero=some z)(rW:z.cells.size=i.size)
    {v:Value} {n cap:Nat} {xs:List Value} {own:Option Nat} (hv:((∃A,v=.slice A 0 0)/\own=none/\n=0/\xs=[])\/∃b cur,v=.slice (some ⟨b,0,none⟩) n cap/\own=some b/\Zh s w b cur/\cur.size=cap*i.size/\n<=cap/\cap<=maxLen/\cur.toList.take (n*i.size)=xs) (iE:xs.length=n*i.size)
    {x:Value} {m:Nat} {news:List Value} (bD:Src P i.size tx x m news w)
    (bP:n+m<=maxLen) (jx:(n+m)*i.bytes<=140737488355328) :
    ∃v' w',(Builtin.append_ #[t,tx] ty #[v,x]).run P w=.ok v' w'/\w'.os=w.os/\w'.tape=w.tape/\w'.output=w.output/\w.heap.size<=w'.heap.size/\(∀k,k<w.heap.size->own≠some k->w'.heap[k]? = w.heap[k]?)/\
      ((v'=v/\own=none/\m=0/\w'=w)\/∃b' eg fJ,v'=.slice (some ⟨b',0,none⟩) (n+m) eg/\(own=some b'\/w.heap.size<=b')/\Zh s w' b' fJ/\fJ.size=eg*i.size/\n+m<=eg/\eg<=maxLen/\fJ.toList.take ((n+m)*i.size)=xs++news):=by
  have xP:(n+m:Nat)<=9223372036854775807:=by simp only[maxLen]at bP;omega
  have hl:=bD.newsLen;have hlen:(xs++news).length=(n+m)*i.size:=by rw[QnP,iE,hl,QnM]
  -- the growing arm
  have grown:∀(old:Nat),old<n+m->∃b' eg fJ,Value.slice (some ⟨w.heap.size,0,none⟩) (n+m) (grownCap w (n+m) old e)=.slice (some ⟨b',0,none⟩) (n+m) eg/\(own=some b'\/w.heap.size<=b')/\
      Zh s (w.drew.alloc (.cells ((xs++news).toArray++Builtin.zeroCells z.cells (grownCap w (n+m) old e-(n+m))) e)) b' fJ/\fJ.size=eg*i.size/\n+m<=eg/\eg<=maxLen/\fJ.toList.take ((n+m)*i.size)=xs++news:=by
    intro old ho;have fU:=grownCap_ge w (n+m) old e;have dI:=grownCap_le_maxLen w (n+m) old e bP;refine⟨w.heap.size,grownCap w (n+m) old e,_,rfl,.inr (Qm8 _),Zh.new w.drew _ e aD,?_,fU,dI,?_⟩
    · simp only[Array.size_append,Qog,size_zeroCells,rW,hlen,<-QnM];congr 1
      omega
    · simp only[Array.toList_append];rw[<-hlen];exact List.take_left
  have jJ:∀o k,k<w.heap.size->(w.drew.alloc o).heap[k]? = w.heap[k]?:=λo k hk=>RowKit.Below.heap_alloc w.drew o k hk
  rcases hv with⟨⟨A0,rfl⟩,rfl,rfl,rfl⟩|⟨b,cur,rfl,rfl,aE,fg,rn,dI,bZ⟩
  · by_cases hm:m=0
    · subst hm;have hn:news=[]:=Qoh Ä;subst hn;refine⟨.slice A0 0 0,w,?_,rfl,rfl,rfl,Qm8 _,λ_ _ _=>rfl,.inl ⟨rfl,rfl,rfl,rfl⟩⟩;have h1:=bD.cells;have h2:=bD.len;rcases bD.kind with⟨e',hk⟩|hk<;>cases A0<;>simp[Builtin.append_,run_underlying ht,run_underlying hk,sizeOf,typeInfo,hi,h2,h1,storeCells]
    · have hr:=run_append_grow_src (P:=P) w t tx ty e i z ht hi hz A0 0 0 [] (by cases A0 with|none=>exact run_firstCells_none w.drew i.size 0 0 0|some a=>exact run_firstCells_some w.drew i.size 0 a 0 0 [] ό ό) x m news bD ψ ψ (growslice_fits ψ (by have hb:=jx;simp only[QnA]at hb |-;exact hb));have y7:=grown 0 ψ;exact⟨_,_,hr,rfl,rfl,rfl,ό,λk hk _=>jJ _ k hk,.inr y7⟩
  · by_cases jG:n+m<=cap
    · have cq:0+n*i.size+news.length<=cur.size:=by
        rw[hl,fg,QnA,<-QnM];exact Qoi _ jG
      obtain⟨w',ay,dz,eD⟩:=ZT P s b (n*i.size) news 0 w cur aE ψ bD.one;refine⟨.slice (some ⟨b,0,none⟩) (n+m) cap,w',?_,eD.os,eD.tape,eD.output,by rw[eD.size];exact Qm8 _,λk hk aq=>eD.heap k λe=>aq Å,.inr ⟨b,cap,_,rfl,.inl rfl,dz,?_,jG,dI,?_⟩⟩
      · have h1:=bD.cells;have h2:=bD.len w;rcases bD.kind with⟨e',hk⟩|hk <;>
          (simp only[Builtin.append_,List.getElem?_toArray,Qoe,Qoj,Sem.run_bind,run_underlying ht,run_underlying hk,Result.andThen_ok,X7 hi,Sem.run_pure,Qnu,if_false,h2,Qnj jG,Qok,if_true,h1,Za,QnA]
           rw[ay];rfl)
      · simp only[Qog,QnP,Qn8,QnS,QnH,QnI];omega
      · simp only[QnI];rw[bZ,<-hlen];exact List.take_left
    · have gI:∀j u,xs[j]? = some u->w.drew.cell? ((⟨b,0,none⟩:Addr).add j)=some u:=by
        intro j u hu;show w.cell? _=_;rw[Za,QnA,aE.cell,<-QnF];rw[<-bZ,QnQ]at hu;split at hu
        · exact hu
        · cases hu
      have hr:=run_append_grow_src (P:=P) w t tx ty e i z ht hi hz (some ⟨b,0,none⟩) n cap xs (run_firstCells_some w.drew i.size n ⟨b,0,none⟩ n cap xs iE gI) x m news bD ψ ψ (growslice_fits ψ jx);exact⟨_,_,hr,rfl,rfl,rfl,ό,λk hk _=>jJ _ k hk,.inr (grown cap ψ)⟩
noncomputable def Gh.pub (G:Gh)(w:World)(S:Nat->Prop):Gh :=
 { G with
  stab:=λb o=>@ite _ (S b/\∀o,J9 b o=none) (Classical.propDecidable _) (sv w b o) (G.stab b o)
  tab:=λb o v e=>by
   show @ite _ (S b/\∀o,J9 b o=none) (Classical.propDecidable _) (sv w b o) (G.stab b o)=some v;rw[Qni (λh=>by rw[h.2 o]at e;cases e)];exact G.tab b o v e }
def Gh.notab {G:Gh}{b:Nat}(h:∀o,G.stab b o=none):∀o,J9 b o=none:=λo=>by
 cases e:J9 b o with
 |none=>rfl
 |some v=>have:=G.tab b o v e;rw[h o]at this;cases this
def Gh.pub_c {G:Gh}{w:World}{S:Nat->Prop}{b o:Nat}(h:S b/\∀o,J9 b o=none):(G.pub w S).stab b o=sv w b o:=Qnj h
def Gh.pub_n {G:Gh}{w:World}{S:Nat->Prop}{b o:Nat}(h:¬(S b/\∀o,J9 b o=none)):(G.pub w S).stab b o=G.stab b o:=Qni h
def Gh.pub_in {G:Gh}{w:World}{S:Nat->Prop}{b o:Nat}(h:S b)(hn:∀o,J9 b o=none):(G.pub w S).stab b o=sv w b o:=Qnj ⟨h,hn⟩
def Gh.pub_out {G:Gh}{w:World}{S:Nat->Prop}{b o:Nat}(h:¬S b):(G.pub w S).stab b o=G.stab b o:=Qni λx=>h x.1
def Gh.pub_gle {G:Gh}{w:World}{S:Nat->Prop}(h:∀b o v,G.stab b o=some v->rd w b o v):Gle G (G.pub w S) where
 stab b o v e:=by
  by_cases hS:S b/\∀o,J9 b o=none
  ·rw[Gh.pub_c hS];exact C3 (h b o v e)
  ·rw[Gh.pub_n hS];exact e
 nm _ _ _ h:=h
 vg _ _:=Qm8 _
 vs _ _ _:=⟨rfl,rfl,rfl⟩
mutual
theorem Be {G:Gh}{m:Qk}{w:World}(h:MR G m w){own:Bool}{S:Nat->Prop}(hS:∀l s b,(own&&l != 0)=false->G.vm l s=some b->S b)(hM:own=true->∀s b ks vs p,G.nm 0 s=some b->Qc m 0 s=.iter (.mp ks vs) p->S b):∀ {x:AV} {v:Value},Rep G x v->∀y,x.still own m=some y->Rep (G.pub w S) y v
 |.top,v,hr,y,e=>by cases e;exact .top v
 |.int _ _,_,hr,y,e=>by cases e;exact hr.mono (Gh.pub_gle h.stab)
 |.bool _,_,hr,y,e=>by cases e;exact hr.mono (Gh.pub_gle h.stab)
 |.str _,_,hr,y,e=>by cases e;exact hr.mono (Gh.pub_gle h.stab)
 |.nilp,_,hr,y,e=>by cases e;exact hr.mono (Gh.pub_gle h.stab)
 |.nilf,_,hr,y,e=>by cases e;exact hr.mono (Gh.pub_gle h.stab)
 |.nili,_,hr,y,e=>by cases e;exact hr.mono (Gh.pub_gle h.stab)
 |.nilm,_,hr,y,e=>by cases e;exact hr.mono (Gh.pub_gle h.stab)
 |.anyp,_,hr,y,e=>by cases e;exact hr.mono (Gh.pub_gle h.stab)
 |.list _,_,hr,y,e=>by cases e;exact hr.mono (Gh.pub_gle h.stab)
 |.lcap _,_,hr,y,e=>by cases e;exact hr.unlcap.mono (Gh.pub_gle h.stab)
 |.fn _ _ _,_,hr,y,e=>by cases e;exact hr.mono (Gh.pub_gle h.stab)
 |.ptr _ _ _,_,hr,y,e=>by cases e;exact hr.mono (Gh.pub_gle h.stab)
 |.mp _ _,_,hr,y,e=>by cases e;exact hr.mono (Gh.pub_gle h.stab)
 |.vptr _ _ _ _ _,_,hr,y,e=>by cases e;exact hr.mono (Gh.pub_gle h.stab)
 |.rptr _,_,hr,y,e=>by cases e;exact hr.mono (Gh.pub_gle h.stab)
 |.nils,_,hr,y,e=>by
   cases e;cases hr;exact zF
 |.agg l,_,hr,y,e=>by
   simp only[AV.still,Qnd]at e;obtain⟨l',e,rfl⟩:=e;cases hr with
   |agg hr=>exact .agg (Ha h hS hM hr l' e)
 |.tup l,_,hr,y,e=>by
   simp only[AV.still,Qnd]at e;obtain⟨l',e,rfl⟩:=e;cases hr with
   |tup hr=>exact .tup (Ha h hS hM hr l' e)
 |.iface t x,_,hr,y,e=>by
   simp only[AV.still,Qnd]at e;obtain⟨l',e,rfl⟩:=e;cases hr with
   |iface hr=>exact .iface (Be h hS hM hr l' e)
 |.vec l s g o n q,v,hr,y,e=>by
   simp only[AV.still]at e;split at e
   ·cases e;exact hr.mono (Gh.pub_gle h.stab)
   ·rename_i mY;split at e
    ·rename_i g' sz xs ar;split at e
     ·rename_i hh;cases e;obtain⟨e1,e2,e3,e4⟩:=h.vec l s g' sz xs ar;have aN:∀x∈(xs.drop o).take n,x∈xs:=λx hx=>QnY (QnZ hx)
      cases hr with
      |vec dv hg iS=>
       rcases iS (by rw[e1];exact hh.1)with⟨ap,rfl,rfl,A0,rfl,gh⟩|⟨b,A,c,ap,bz,rfl,i6,dI,hq,hA⟩
       ·simp only[Qol];exact zF
       ·rcases e4 with⟨e,_⟩|⟨b',e,ae⟩
        ·rw[ap]at e;cases e
        ·rw[ap]at e;cases e;obtain⟨cur,aE,fg,aj⟩:=ae.cur;have hr:=(aj.mono (Gh.pub_gle (S:=S) h.stab)).takeDrop (o*sz) (n*sz);rw[JS e3.size,Kn (λx hx=>e3.size x (QnY hx))]at hr;refine .list (sz:=sz) hr (λx hx=>e3.size x (aN x hx)) (JO e3.rf (J1 aN)) (ZA e3.leaf (J1 aN)) (λj u hu=>?_) Ϗ i6 ψ;rw[QnQ]at hu;split at hu
         ·rename_i hj;rw[QnR,QnQ]at hu;split at hu
          ·have hk:0<n:=by
            rcases Qn0 n with h0|h0
            ·subst h0;simp at hj
            ·exact h0
           have j7:o<G.vc l s:=Nat.lt_of_lt_of_le (Nat.lt_add_of_pos_right hk) bz;have ff:=hA ⟨.inl j7,.inr hk⟩;rw[e2]at ff;refine⟨b,o*sz,by rw[ff],?_⟩;rw[Gh.pub_in (hS l s b (by simpa using mY) ap) (Gh.notab (h.vm l s b ap).2)];refine Fg ?_;rw[aE.cell]
           simpa using hu
          ·cases hu
         ·cases hu
     ·cases e
    ·cases e
 |.mptr l s,v,hr,y,e=>by
   simp only[AV.still]at e;split at e
   ·cases e;exact hr.mono (Gh.pub_gle h.stab)
   ·rename_i mY;split at e
    ·rename_i ho;have hl:l=0:=by simpa [ho]using mY
     subst hl;split at e
     ·rename_i ks vs p ar;cases e;cases hr with
      |mptr hb=>
       obtain⟨b',e',hh⟩:=h.iter 0 s _ _ ar;rw[hb]at e';cases e';refine .mp ?_;rw[Gh.pub_in (hM ho s _ _ _ _ hb ar) (Gh.notab (h.nm _ _ _ hb).2)];exact C3 (v:=.mapo _ _) hh
     ·cases e
    ·cases e
theorem Ha {G:Gh}{m:Qk}{w:World}(h:MR G m w){own:Bool}{S:Nat->Prop}(hS:∀l s b,(own&&l != 0)=false->G.vm l s=some b->S b)(hM:own=true->∀s b ks vs p,G.nm 0 s=some b->Qc m 0 s=.iter (.mp ks vs) p->S b):∀ {x:List AV} {v:List Value},RepL G x v->∀y,AV.stillL own m x=some y->RepL (G.pub w S) y v
 | [],_,hr,y,e=>by cases e;cases hr;exact .nil
 |x :: l,_,hr,y,e=>by
   simp only[AV.stillL]at e;split at e
   ·rename_i a b ea eb;cases e;cases hr with
    |cons hr ht=>exact .cons (Be h hS hM hr a ea) (Ha h hS hM ht b eb)
   ·cases e
end
def Bf (P:Program) (k:FuncId):Prop := ∃fn, P.funcs[k]? = some fn/\(fn.name == "runtime.NumGoroutine")=false/\fn.body.isNone=false
def Qf (P:Program)(k:FuncId)(args:List AV)(m:Qk)(R:AV->Qk->Prop):Prop :=
 Bf P k/\∀(G:Gh) (w:World) (vs:List Value),RepL G args vs->MR G m w->Calls P k ⟨vs⟩ w λe w'=>∃G' x v m',e=.returned v/\R x m'/\Rep G' x v/\MR G' m' w'/\Ext 0 G w G' w'/\m'.length=m.length
def Qf.mono {P:Program}{k:FuncId}{args:List AV}{m:Qk}{R R':AV->Qk->Prop}(h:Qf P k args m R)(hr:∀x m',R x m'->R' x m'):Qf P k args m R' :=
 ⟨h.1,λG w vs h1 h2=>(h.2 G w vs h1 h2).mono λ_ _ ⟨G',x,v,m',e,r,rest⟩=>⟨G',x,v,m',e,hr _ _ r,rest⟩⟩
def Gh.up (G:Gh):Gh where
 stab:=G.stab
 nm:=λl s=>match l with|0=>none|l+1=>G.nm l s
 vm:=λl s=>match l with|0=>none|l+1=>G.vm l s
 vc:=λl s=>match l with|0=>0|l+1=>G.vc l s
 vg:=λl s=>match l with|0=>0|l+1=>G.vg l s
 vz:=λl s=>match l with|0=>0|l+1=>G.vz l s
 tab:=G.tab
def Gh.up_dn (G:Gh)(l:Nat):G.up.dn (l+1)=G.dn l:=rfl
def Gh.up_mine {G:Gh}{b:Nat}:G.up.mine b↔G.mine b:=by
 constructor
 ·rintro(⟨l,s,e⟩|⟨l,s,e⟩)
  ·cases l with
   |zero=>cases e
   |succ l=>exact .inl ⟨l,s,e⟩
  ·cases l with
   |zero=>cases e
   |succ l=>exact .inr ⟨l,s,e⟩
 ·rintro(⟨l,s,e⟩|⟨l,s,e⟩)
  ·exact .inl ⟨l+1,s,e⟩
  ·exact .inr ⟨l+1,s,e⟩
def Qb:Nat->Ob:=λ_=>.none
def MR.up {G:Gh}{m:Qk}{w:World}(h:MR G m w):MR G.up (Qb :: m) w where
 stab:=h.stab
 cells l s xs e:=by
  cases l with
  |zero=>cases e
  |succ l=>exact h.cells l s xs e
 nm l s b e:=by
  cases l with
  |zero=>cases e
  |succ l=>exact h.nm l s b e
 vec l s g sz xs e:=by
  cases l with
  |zero=>cases e
  |succ l=>
   obtain⟨a1,a2,a3,a4⟩:=h.vec l s g sz xs e;exact⟨a1,a2,a3,a4.imp id λ⟨b,e',r⟩=>⟨b,e',r.of rfl λvs hv=>RepL.rfd (G:=G) (G':=G.up) (λ_ _ _ h=>h) a3.rf hv⟩⟩
 vm l s b e:=by
  cases l with
  |zero=>cases e
  |succ l=>exact h.vm l s b e
 gone l s e:=by
  cases l with
  |zero=>rfl
  |succ l=>exact h.gone l s e
 inj1 l s l' s' b e e':=by
  cases l with
  |zero=>cases e
  |succ l=>
   cases l' with
   |zero=>cases e'
   |succ l'=>obtain⟨h1,h2⟩:=h.inj1 l s l' s' b e e';exact⟨by rw[h1],h2⟩
 inj2 l s l' s' b e e':=by
  cases l with
  |zero=>cases e
  |succ l=>
   cases l' with
   |zero=>cases e'
   |succ l'=>obtain⟨h1,h2⟩:=h.inj2 l s l' s' b e e';exact⟨by rw[h1],h2⟩
 inj3 l s l' s' b e e':=by
  cases l with
  |zero=>cases e
  |succ l=>
   cases l' with
   |zero=>cases e'
   |succ l'=>exact h.inj3 l s l' s' b e e'
 iter l s t p e:=by
  cases l with
  |zero=>cases e
  |succ l=>exact h.iter l s t p e
def Ml (l:List AV):Fr:=λi=>(l[i]?).getD (.tup [])
def St.enter (args:List AV)(m:Qk):St:={ f:=Ml (AV.shL args),m:=Qb :: m,ds:=[] }
inductive RR where
 |tmp (t:Nat)
 |cell (t:Nat) (k:Option Nat)
def RR.ev (st:St):RR->Option AV
 |.tmp t=>some (st.f t)
 |.cell t k=>XH st.m k (st.f t)
def RR.evL (st:St):List RR->Option (List AV)
 | []=>some []
 |r :: rs=>match r.ev st,RR.evL st rs with
  |some x,some xs=>some (x :: xs)
  |_,_=>none
def YD (st:St)(rs:List RR):Option AV :=
 match rs with
 | [r]=>r.ev st
 |rs=>(RR.evL st rs).map .tup
def Wu (P:Program):List ResultVar->List RR->Bool
 | [],[]=>true
 |.tmp t :: rs,.tmp t' :: ss=>t==t'&&Wu P rs ss
 |.cell t ty :: rs,.cell t' k :: ss=>t==t'&&Jw P ty==some k&&Wu P rs ss
 |_,_=>false
def Uj (m:Qk)(x:AV):Option AV:=(x.still true m).bind AV.un
section
variable {P:Program}{G:Gh}{B N:Nat}{st:St}{a:Act}{w:World}
theorem B6 (h:Rel G B N st a w){t:Nat}{k:Option Nat}{x:AV}(hx:XH st.m k (st.f t)=some x){ty:TypeId}(ht:Jw P ty=some k) :
  ∃v,(do loadVar ty (<-asAddr (a.tmps.getD t undef)):Sem Value).run P w=.ok v w/\Rep G x v:=by
 have hs:=h.slots t;obtain⟨v,h1,h2⟩:=UH (P:=P) h hx hs ht;refine⟨v,?_,h2⟩;generalize a.tmps.getD t undef=u at h1 hs |-;simp only[Instr.loadAt,Sem.run_bind]at h1;cases u with
 |pointer p=>
  cases p with
  |none=>simp[Instr.sureAddr]at h1
  |some p=>
   simp only[Instr.sureAddr,Sem.run_pure,Result.andThen_ok]at h1;simp only[asAddr,Sem.run_bind,Sem.run_pure,Result.andThen_ok];exact h1
 |_=>simp[Instr.sureAddr]at h1
def Vn (tmps:Array Value):ResultVar->Sem Value
 |.tmp t=>pure (tmps.getD t undef)
 |.cell b t=>do loadVar t (<-asAddr (tmps.getD b undef))
theorem B7 (fn:Func)(tmps:Array Value):results fn tmps=(do let vs <-fn.results.mapM (Vn tmps);pure (if h:vs.size=1 then vs[0]else .tuple vs)):=by
 have:(λr=>match r with
  |ResultVar.tmp t=>(pure (tmps.getD t undef):Sem Value)
  |ResultVar.cell b t=>do loadVar t (<-asAddr (tmps.getD b undef)))=Vn tmps:=by
  funext r;cases r<;>rfl
 rw[<-this];rfl
theorem TV (h:Rel G B N st a w){rs:List RR}:∀ {vs:List ResultVar} {xs:List AV},Wu P vs rs=true->RR.evL st rs=some xs->
  ∃us,(vs.mapM (Vn a.tmps)).run P w=.ok us w/\RepL G xs us:=by
 induction rs with
 |nil=>
  intro vs xs hc he;cases vs with
  |nil=>cases he;exact⟨[],rfl,.nil⟩
  |cons v vs=>cases v<;>simp[Wu]at hc
 |cons r rs ih=>
  intro vs xs hc he;simp only[RR.evL]at he;split at he
  ·rename_i x tz e1 e2;cases he;cases vs with
   |nil=>cases r<;>simp[Wu]at hc
   |cons v vs=>
    cases v with
    |tmp t=>
     cases r with
     |tmp t'=>
      simp only[Wu,Qnz,Qng]at hc;obtain⟨rfl,hc⟩:=hc;obtain⟨us,h1,h2⟩:=ih hc e2;cases e1;exact⟨_ :: us,by simp only[List.mapM_cons,Vn,Sem.run_bind,Sem.run_pure,Result.andThen_ok,h1],.cons (h.slots t) h2⟩
     |cell t' k=>simp[Wu]at hc
    |cell t ty=>
     cases r with
     |tmp t'=>simp[Wu]at hc
     |cell t' k=>
      simp only[Wu,Qnz,Qng]at hc;obtain⟨⟨rfl,hk⟩,hc⟩:=hc;obtain⟨us,h1,h2⟩:=ih hc e2;obtain⟨v,h3,h4⟩:=B6 (P:=P) h (t:=t) e1 hk;refine⟨v :: us,?_,.cons h4 h2⟩;simp only[List.mapM_cons,Sem.run_bind,Sem.run_pure];have rI:(Vn a.tmps (.cell t ty)).run P w=.ok v w:=h3;rw[rI];simp only[Result.andThen_ok,h1]
  ·cases he
theorem Qdj (h:Rel G B N st a w){rs:List RR}{fn:Func}{x:AV}(hc:Wu P fn.results.toList rs=true)(hx:YD st rs=some x):∃v,(results fn a.tmps).run P w=.ok v w/\Rep G x v:=by
 have key:∀xs,RR.evL st rs=some xs->∃us,(fn.results.mapM (Vn a.tmps)).run P w=.ok ⟨us⟩ w/\RepL G xs us:=by
  intro xs he;obtain⟨us,h1,h2⟩:=TV (P:=P) h hc he;refine⟨us,?_,h2⟩;rw[Array.mapM_eq_mapM_toList];simp only[Sem.run_map,h1,Result.andThen_ok]
 have hl:∀xs (us:List Value),RR.evL st rs=some xs->RepL G xs us->us.length=rs.length:=by
  intro xs us he hr;have:∀(rs:List RR) xs,RR.evL st rs=some xs->xs.length=rs.length:=by
   intro rs
   induction rs with
   |nil=>intro xs e;cases e;rfl
   |cons r rs ih=>
    intro xs e;simp only[RR.evL]at e;split at e
    ·rename_i x tz _ e2;cases e;simp[ih _ e2]
    ·cases e
  rw[hr.length,this rs xs he]
 unfold YD at hx;split at hx
 ·rename_i r;have he:RR.evL st [r]=some [x]:=by simp[RR.evL,hx]
  obtain⟨us,h1,h2⟩:=key [x] he;cases h2 with
  |cons h2 h3=>
   cases h3;refine⟨_,?_,h2⟩;rw[B7,Sem.run_bind,h1];rfl
 ·rename_i rs' aq;simp only[Qnd]at hx;obtain⟨xs,he,rfl⟩:=hx;obtain⟨us,h1,h2⟩:=key xs he;have hlen:=hl xs us he h2;refine⟨.tuple ⟨us⟩,?_,.tup h2⟩;rw[B7,Sem.run_bind,h1];simp only[Result.andThen_ok];have:¬(⟨us⟩:Array Value).size=1:=by
   simp only[Qog,hlen];intro h1
   match rs,h1 with
   | [r],_=>exact aq r rfl
  rw[dif_neg this];rfl
end
inductive RO where
 |val (v:VO)
 |allocN (site:Nat) (z:List AV)
 |boxN (site:Nat) (x:RA)
 |store (n:Nat) (p x:RA)
 |storev (l s n:Nat) (p x:RA)
 |app (sz bytes e:Nat) (s x:RA)
 |appS (e:Nat) (s x:RA)
 |mk (site e sz bytes:Nat) (z:List AV) (l c:RA)
 |s2b (site e:Nat) (x:RA)
 |usd (x:RA)
 |ustr (e:Nat) (p n:RA)
 |bsl (sz len:Nat) (z:List AV) (ps:List (Nat×Nat×RA))
 |call (f:RA) (args:List RA)
 |callF (f:RA) (args:List RA)
 |bslv (site sz len:Nat) (z:List AV) (ps:List (Nat×Nat×RA))
 |bsl0 (site sz:Nat)
 |isnil (neg:Bool) (x:RA)
 |appc (site sz bytes e:Nat) (s x:RA)
 |callG (f:RA) (args:List RA)
 |xb (cnt:Bool) (k:Nat) (s c:RA)
 |callK (l s:Nat) (f:RA) (args:List RA)
 |callO (l s:Nat) (f:RA) (args:List RA)   -- a call that looks at one row of ours alone,and leaves all as it was
 |rngs (site:Nat) (x:RA)
 |nxts (x:RA)
 |mkm (site:Nat)
 |mput (t:Bool) (x i v:RA)
 |clr (sz:Nat) (z:List AV) (x:RA)
structure Item where
 dst:Option Nat
 op:RO
 g:Option (Nat×Bool)
def WO (sz:Nat):List (Nat×Operand)->List (Nat×Nat×RA)->Bool
 | [],[]=>true
 |(i,x) :: xs,(o,n,r) :: rs=>o==i*sz&&n==sz&&QO x r&&WO sz xs rs
 |_,_=>false
def isZ:Operand->Bool
 |.const (.int _ n)=>n==0
 |_=>false
def Zi (P:Program)(op:Op)(ro:RO):Bool :=
 match ro with
 |.val v=>Zo P op v
 |.allocN s z=>match op with
  |.alloc e=>match P.info? e with
   |some i=>match i.zero with
    |some zv=>isCL zv.cells.toList z&&Zv s e
    |none=>false
   |none=>false
  |_=>false
 |.boxN s r=>match op with
  |.box e x=>QO x r&&Zv s e
  |_=>false
 |.store n p r=>match op with
  |.store t q x=>(P.info? t).any (λi=>i.size==n)&&QO q p&&QO x r
  |_=>false
 |.storev _ _ n p r=>match op with
  |.store t q x=>(P.info? t).any (λi=>i.size==n)&&QO q p&&QO x r
  |_=>false
 |.app sz bytes el s r=>match op with
  |.call { callee:=.builtin .append,args:=⟨[x,y]⟩,argTypes:=⟨[t,t']⟩ }=>t==t'&&(match P.underlying t with
   |some (.slice e)=>(P.info? e).any (λi=>i.size==sz&&i.bytes==bytes&&(match i.zero with|some zv=>zv.cells.size==sz|none=>false))&&sz != 0&&e==el
   |_=>false)&&QO x s&&QO y r
  |_=>false
 |.appS el s r=>match op with
  |.call { callee:=.builtin .append,args:=⟨[x,y]⟩,argTypes:=⟨[t,t']⟩ }=>YQ P t'&&(match P.underlying t with
   |some (.slice e)=>(P.info? e).any (λi=>i.size==1&&i.bytes==1&&(match i.zero with|some zv=>zv.cells.size==1|none=>false))&&e==el
   |_=>false)&&QO x s&&QO y r
  |_=>false
 |.clr sz z r=>match op with
  |.call { callee:=.builtin .clear,args:=⟨[x]⟩,argTypes:=⟨[t]⟩ }=>(match P.underlying t with
   |some (.slice e)=>(P.info? e).any (λi=>i.size==sz&&(match i.zero with|some zv=>isCL zv.cells.toList z&&z.length==sz|none=>false))&&sz != 0&&AV.rfL z&&z.all AV.leaf
   |_=>false)&&QO x r
  |_=>false
 |.mk site el sz bytes z l c=>match op with
  |.makeSlice t x y=>(match P.underlying t with
   |some (.slice e)=>(P.info? e).any (λi=>i.size==sz&&i.bytes==bytes&&(match i.zero with|some zv=>isCL zv.cells.toList z&&z.length==sz|none=>false))&&sz != 0&&e==el&&Zv site e&&AV.rfL z&&z.all AV.leaf
   |_=>false)&&QO x l&&QO y c
  |_=>false
 |.s2b site el r=>match op with
  |.convert src dst x=>YQ P src&&(match P.underlying dst with
   |some (.slice e)=>Ui P e .u8&&e==el&&Zv site e
   |_=>false)&&QO x r
  |_=>false
 |.usd r=>match op with
  |.call { callee:=.builtin .unsafeSliceData,args:=⟨[x]⟩,argTypes:=_ }=>QO x r
  |_=>false
 |.ustr el p n=>match op with
  |.call { callee:=.builtin .unsafeString,args:=⟨[x,y]⟩,argTypes:=⟨[pt,_]⟩ }=>(match P.underlying pt with
   |some (.pointer e)=>e==el&&P.cellsOf e==1
   |_=>false)&&QO x p&&QO y n
  |_=>false
 |.bsl sz len z ps=>match op with
  |.buildSlice t n Qo=>n==len&&len*sz<=16777216&&sz != 0&&len != 0&&(match P.underlying t with
   |some (.slice e)=>(P.info? e).any (λi=>i.size==sz&&(match i.zero with|some zv=>isCL zv.cells.toList z&&z.length==sz|none=>false))
   |_=>false)&&WO sz Qo.toList ps
  |_=>false
 |.call f rs=>match op with
  |.call { callee:=.value x,args,argTypes:=_ }=>QO x f&&WM args.toList rs
  |_=>false
 |.callF f rs=>match op with
  |.call { callee:=.value x,args,argTypes:=_ }=>QO x f&&WM args.toList rs
  |_=>false
 |.xb cnt k s c=>match op with
  |.call { callee:=.value (.func k'),args:=⟨[x,y]⟩,argTypes:=_ }=>k==k'&&(match P.funcs[k]? with
   |some fn=>fn.name==(if cnt then "internal/bytealg.CountString" else "internal/bytealg.IndexByteString")&&fn.origin == "" && fn.body.isNone
   |none=>false)&&QO x s&&QO y c
  |_=>false
 |.callK _ _ f rs=>match op with
  |.call { callee:=.value x,args,argTypes:=_ }=>QO x f&&WM args.toList rs
  |_=>false
 |.callO _ _ f rs=>match op with
  |.call { callee:=.value x,args,argTypes:=_ }=>QO x f&&WM args.toList rs
  |_=>false
 |.callG f rs=>match op with
  |.call { callee:=.value x,args,argTypes:=_ }=>QO x f&&WM args.toList rs
  |_=>false
 |.rngs _ r=>match op with
  |.range t x=>YQ P t&&QO x r
  |_=>false
 |.nxts r=>match op with
  |.next x true=>QO x r
  |_=>false
 |.mkm s=>match op with
  |.makeMap _ none=>decide (s<2000)
  |_=>false
 |.mput tx r i v=>match op with
  |.mapUpdate t x y z|.insert t x y z=>(match P.underlying t with
   |some (.map kt _)=>Me P tx kt
   |_=>false)&&QO x r&&QO y i&&QO z v
  |_=>false
 |.bslv site sz len z ps=>match op with
  |.buildSlice t n Qo=>n==len&&len*sz<=16777216&&sz != 0&&len != 0&&(match P.underlying t with
   |some (.slice e)=>(P.info? e).any (λi=>i.size==sz&&(match i.zero with|some zv=>isCL zv.cells.toList z&&z.length==sz|none=>false))&&Zv site e
   |_=>false)&&WO sz Qo.toList ps
  |_=>false
 |.appc site sz bytes el s r=>match op with
  |.call { callee:=.builtin .append,args:=⟨[x,y]⟩,argTypes:=⟨[t,t']⟩ }=>t==t'&&(match P.underlying t with
   |some (.slice e)=>(P.info? e).any (λi=>i.size==sz&&i.bytes==bytes&&(match i.zero with|some zv=>zv.cells.size==sz|none=>false))&&sz != 0&&e==el&&Zv site e
   |_=>false)&&QO x s&&QO y r
  |_=>false
 |.isnil neg r=>match op with
  |.binOp b t x y _=>(match P.underlying t with
   |some (.slice _)=>true
   |_=>false)&&b==(bif neg then .neq else .eql)&&QO x r&&QO y (.c .nils)
  |_=>false
 |.bsl0 site sz=>match op with
  |.buildSlice t n Qo=>n==0&&Qo.isEmpty&&(match P.underlying t with
   |some (.slice e)=>(P.info? e).any (λi=>i.size==sz)&&Zv site e
   |_=>false)
  |_=>false
def TW (P:Program)(t:TypeId)(ro:RO):Bool :=
 match ro with
 |.usd _=>match P.underlying t with
  |some (.pointer _)=>true
  |_=>false
 |_=>true
def TX (P:Program)(o:Oper)(ro:RO):Bool:=Zi P o.op ro&&TW P o.type ro
def Dm (P:Program)(N:Nat)(ops:Array Oper)(o:Oper)(it:Item):Bool :=
 o.dst==it.dst&&(match o.dst with|some d=>decide (d<N)|none=>true)&&(match o.guard,it.g with
  |none,none=>true
  |some (j,want),some (dj,oI)=>(ops[j]?).bind (·.dst)==some dj&&want==oI
  |_,_=>false)&&TX P o it.op
def Jb (P:Program)(N:Nat)(ops:Array Oper):List Oper->List Item->Bool
 | [],[]=>true
 |o :: os,it :: its=>Dm P N ops o it&&Jb P N ops os its
 |_,_=>false
def QA (P:Program)(N:Nat)(its:List Item)(st:St)(Q:St->Prop):Prop :=
 ∀(ops:Array Oper) (l:List Oper),Jb P N ops l its=true->∀(G:Gh) (B:Nat) (a:Act) (w:World),Rel G B N st a w->
  ∀(QQ:Exit->Act->World->Prop),(∀G' ai a' w',Q ai->Rel G' B N ai a' w'->Ext 1 G w G' w'->QQ .normal a' w')->wpList P ops QQ l a w
section
variable {P:Program}{N:Nat}{st:St}{Q:St->Prop}
theorem QA.nil (h:Q st):QA P N [] st Q:=by
 intro ops l hc G B a w hr QQ hq;cases l with
 |nil=>exact hq G st a w h hr (Ext.refl 1 G w)
 |cons o l=>simp[Jb]at hc
theorem QA.stepT {it:Item}{its:List Item}(hg:it.g=none)
  (h:∀(G:Gh) (B:Nat) (a:Act) (w:World) (o:Oper),Rel G B N st a w->o.dst=it.dst->(∀d,it.dst=some d->d<N)->Zi P o.op it.op=true->TW P o.type it.op=true->
   ∀(K:Act->World->Prop) (QQ:Exit->Act->World->Prop),(∀G' ai a' w',QA P N its ai Q->Rel G' B N ai a' w'->Ext 1 G w G' w'->K a' w')->o.wp P a w K QQ):QA P N (it :: its) st Q:=by
 intro ops l hc G B a w hr QQ hq;cases l with
 |nil=>simp[Jb]at hc
 |cons o l=>
  simp only[Jb,Dm,Qnz,Qng]at hc;obtain⟨⟨⟨⟨h1,h2⟩,h3⟩,h4⟩,h5⟩:=hc;have h4:(Zi P o.op it.op&&TW P o.type it.op)=true:=h4;rw[Qnz]at h4;have xF:o.guard=none:=by
   rw[hg]at h3;cases kX:o.guard with
   |none=>rfl
   |some p=>rw[kX]at h3;simp at h3
  refine wpList_plain xF λK hK=>?_
  refine h G B a w o hr h1 (λd e=>?_) h4.1 h4.2 K QQ λG' ai a' w' ha aH he=>hK _ _ ?_
  ·rw[h1,e]at h2
   simpa using h2
  ·exact ha ops l h5 G' B a' w' aH QQ λG2 jw a2 w2 qV cZ gF=>hq G2 jw a2 w2 qV cZ (he.trans gF)
theorem QA.step {it:Item}{its:List Item}(hg:it.g=none)
  (h:∀(G:Gh) (B:Nat) (a:Act) (w:World) (o:Oper),Rel G B N st a w->o.dst=it.dst->(∀d,it.dst=some d->d<N)->Zi P o.op it.op=true->
   ∀(K:Act->World->Prop) (QQ:Exit->Act->World->Prop),(∀G' ai a' w',QA P N its ai Q->Rel G' B N ai a' w'->Ext 1 G w G' w'->K a' w')->o.wp P a w K QQ):QA P N (it :: its) st Q :=
 QA.stepT hg λG B a w o hr hd aW hc _=>h G B a w o hr hd aW hc
theorem QA.same {d:Option Nat}{ro uN:RO}{g:Option (Nat×Bool)}{its:List Item}(h:∀o,TX P o uN=TX P o ro)(k:QA P N (⟨d,ro,g⟩ :: its) st Q):QA P N (⟨d,uN,g⟩ :: its) st Q:=by
 intro ops l hc;refine k ops l ?_;cases l with
 |nil=>exact hc
 |cons o l=>simpa only [Jb,Dm,h]using hc
theorem QA.val {d:Option Nat}{vo:VO}{its:List Item}{x:AV}(hx:Qz st.f st.m vo=some x)(h:QA P N its { st with f:=Ql st.f d x } Q):QA P N (⟨d,.val vo,none⟩ :: its) st Q:=by
 refine QA.step rfl λG B a w o hr hd aW hc K QQ hK=>?_
 obtain⟨v,af,hv⟩:=QeZ (P:=P) hr hx (o:=o) hc;unfold Oper.wp;rw[af];have aY:o.dst=d:=hd;show K (a.put o.dst v) w;rw[aY];exact hK G _ _ w h (hr.put aW hv) (Ext.refl 1 G w)
theorem QA.yes {d:Option Nat}{ro:RO}{j:Nat}{want:Bool}{its:List Item}(hj:st.f j=.bool want)(h:QA P N (⟨d,ro,none⟩ :: its) st Q):QA P N (⟨d,ro,some (j,want)⟩ :: its) st Q:=by
 intro ops l hc G B a w hr QQ hq;cases l with
 |nil=>simp[Jb]at hc
 |cons o l=>
  simp only[Jb,Dm,Qnz,Qng]at hc;obtain⟨⟨⟨⟨h1,h2⟩,h3⟩,h4⟩,h5⟩:=hc
  -- the same operation without its guard
  have fD:=h ops ({ o with guard:=none } :: l) (by simp only[Jb,Dm,Qnz,Qng];exact⟨⟨⟨⟨h1,h2⟩,trivial⟩,h4⟩,h5⟩) G B a w hr QQ hq;have hw:Region.wanted o (yielded ops a.tmps)=true:=by
   cases kX:o.guard with
   |none=>simp[Region.wanted,kX]
   |some p=>
    obtain⟨i,wt⟩:=p;rw[kX]at h3;simp only[Qnz,Qng]at h3;obtain⟨h6,rfl⟩:=h3;have hs:=hr.slots j;rw[hj]at hs;have hv:a.tmps[j]? = some (.bool wt):=by
     have dz:a.tmps.getD j undef=.bool wt:=by
      revert hs
      generalize a.tmps.getD j undef=v;intro hs;cases hs;rfl
     simp only[Qnl]at dz;cases qN:a.tmps[j]? with
     |none=>rw[qN]at dz;simp[undef]at dz
     |some v=>rw[qN]at dz;simp at dz;rw[dz]
    simp only[Region.wanted,kX,yielded,h6,Option.bind_some,hv,Qom]
  unfold wpList at fD |-;rw[Qnj hw];rw[Qnj (by simp[Region.wanted])]at fD;have az:execOp a.eval { o with guard:=none }=execOp a.eval o:=by
   unfold execOp;rfl
  rcases fD with fD|⟨fD,ho⟩
  ·left
   unfold Oper.wp at fD |-;rw[az]at fD;exact fD
  ·right
   refine⟨?_,ho⟩;unfold Oper.asks at fD |-;rw[az]at fD;exact fD
theorem QA.no {d:Option Nat}{ro:RO}{j:Nat}{want:Bool}{its:List Item}(hj:st.f j=.bool (!want)\/st.f j=.tup [])(h:QA P N its { st with f:=Ql st.f d (.tup []) } Q):QA P N (⟨d,ro,some (j,want)⟩ :: its) st Q:=by
 intro ops l hc G B a w hr QQ hq;cases l with
 |nil=>simp[Jb]at hc
 |cons o l=>
  simp only[Jb,Dm,Qnz,Qng]at hc;obtain⟨⟨⟨⟨h1,h2⟩,h3⟩,h4⟩,h5⟩:=hc;have hw:Region.wanted o (yielded ops a.tmps)=false:=by
   cases kX:o.guard with
   |none=>rw[kX]at h3;simp at h3
   |some p=>
    obtain⟨i,wt⟩:=p;rw[kX]at h3;simp only[Qnz,Qng]at h3;obtain⟨h6,rfl⟩:=h3;have hs:=hr.slots j;have hv:a.tmps[j]? = some (.bool (!wt))\/a.tmps[j]? = none\/a.tmps[j]? = some (.tuple #[]):=by
     simp only[Qnl]at hs;cases qN:a.tmps[j]? with
     |none=>exact .inr (.inl rfl)
     |some v=>
      rw[qN]at hs;simp only[Qon]at hs;rcases hj with hj|hj<;>rw[hj]at hs
      ·cases hs;exact .inl rfl
      ·cases hs with
       |tup hs=>cases hs;exact .inr (.inr rfl)
    simp only[Region.wanted,kX,yielded,h6,Option.bind_some];rcases hv with hv|hv|hv<;>rw[hv]<;>cases wt<;>rfl
  unfold wpList;rw[Qni (by rw[hw];simp)];have aY:o.dst=d:=h1;rw[aY];have aW:∀k,d=some k->k<N:=λk e=>by
   rw[h1,e]at h2
   simpa using h2
  have:=h ops l h5 G B _ w (hr.put aW (v:=undef) (.tup .nil)) QQ hq;exact this
end
def Ka (e:AV)(o:Nat)(ys:List AV):AV :=
 match e with
 |.agg l=>.agg (splice l o ys)
 |_=>match ys with
  |y :: _=>y
  | []=>e
def XA (m:Qk)(p:AV)(ys:List AV):Option Qk :=
 match p with
 |.ptr l s o=>match Qc m l s with
  |.cells xs=>if o+ys.length<=xs.length then match AV.unNL l ys with
    |some zs=>some (Am.put m l s (.cells (splice xs o zs)))
    |none=>none
   else none
  |_=>none
 |.vptr l s g i o=>match Qc m l s with
  |.vec g' sz xs=>if g=g' then match xs[i]? with
    |some e=>if o+ys.length<=e.cells.length/\ys.length≠0/\AV.rfL ys=true then some (Am.put m l s (.vec g' sz (xs.set i (Ka e o ys))))else none
    |none=>none
   else none
  |_=>none
 |_=>none
def CX {e:AV}(he:e.cells.all AV.leaf=true){o:Nat}{ys:List AV}(h:o+ys.length<=e.cells.length)(hl:ys.all AV.leaf=true)(h0:ys.length≠0):(Ka e o ys).cells=splice e.cells o ys:=by
 have key:∀x:AV,x.cells=[x]->x=e->(match ys with|y :: _=>y | []=>e).cells=splice e.cells o ys:=by
  intro x hx x6;subst x6;rw[hx]at h |-;simp only[Qnq,Qn7]at h;obtain⟨y,rfl⟩:∃y,ys=[y]:=by
   match ys,h0,h with
   | [y],_,_=>exact⟨y,rfl⟩
   | [],h0,_=>exact absurd rfl h0
   |_ :: _ :: _,_,h=>simp at h;omega
  have ho:o=0:=by simp at h;omega
  subst ho;simp only[Qoo,Qop,Qoq]at hl;simp only[splice,Qol,Qny,Qnq,Qn7,QnN,Qor,Qof];cases y<;>first|rfl|(simp[AV.leaf]at hl)
 cases e with
 |agg l=>rfl
 |_=>exact key _ rfl rfl
def Mm {sz:Nat}:∀ {xs:List AV} (_:∀x∈xs,x.cells.length=sz) (i:Nat) (e:AV),e.cells.length=sz->i<xs.length->QU (xs.set i e)=(QU xs).take (i*sz)++e.cells++(QU xs).drop (i*sz+sz)
 | [],_,i,e,_,h=>by simp at h
 |x :: xs,hz,i,e,he,h=>by
  have hx:=hz x (Qnt ..);cases i with
  |zero=>
   rw[List.set_cons_zero,Zq,Zq,Nat.zero_mul,Qol,Qny,QnA,List.drop_append,hx];simp[QnO (QnV hx)]
  |succ i=>
   have ih:=Mm (λy hy=>hz y (Qnr _ hy)) i e he ϡ;rw[List.set_cons_succ,Zq,ih,Zq,QnM,Nat.one_mul,List.take_append,List.drop_append,hx];rw[QnL (l:=x.cells) (by rw[hx];omega),QnO (l:=x.cells) (by rw[hx];omega)];rw[show i*sz+sz-sz=i*sz by omega,show i*sz+sz+sz-sz=i*sz+sz by omega];simp
def FR {α:Type}(l us:List α)(k n:Nat)(h:k+us.length<=n)(hn:n<=l.length):(l.take k++us++l.drop (k+us.length)).take n=(l.take n).take k++us++(l.take n).drop (k+us.length):=by
 have e:(l.take k++us).length=k+us.length:=Ϗ
 rw[List.take_append,e,QnL (l:=l.take k++us) ψ,Qos,Qot ψ,List.drop_take]
def MR.rowset {G:Gh}{m:Qk}{w w':World}(h:MR G m w){l s g sz b:Nat}{xs ys:List AV}(hx:Qc m l s=.vec g sz xs)(hb:G.vm l s=some b)(ht:Turned b w w')(aJ:Elems sz ys)(hr:RowIs G s w' b (G.vc l s) sz ys) :
  MR G (Am.put m l s (.vec g sz ys)) w' where
 stab k o v e:=by
  have hk:k≠b:=by rintro rfl;rw[(h.vm l s k hb).2 o]at e;cases e
  exact K2 (ht.heap k hk) (h.stab k o v e)
 cells l' s' zs e:=by
  by_cases hh:l'=l/\s'=s
  ·obtain⟨rfl,rfl⟩:=hh;rw[Qt (Xy Ο)]at e;cases e
  ·rw[QG ψ]at e;obtain⟨b',cK,e',hc,hr⟩:=h.cells l' s' zs e;exact⟨b',cK,e',hc.of (ht.heap b' (λeb=>by subst eb;exact h.inj3 _ _ _ _ _ e' hb)),hr⟩
 nm l' s' b' e:=by
  obtain⟨hz,h2⟩:=h.nm l' s' b' e;refine⟨?_,h2⟩;by_cases hh:l'=l/\s'=s
  ·obtain⟨rfl,rfl⟩:=hh;rw[hx]at hz;cases hz
  ·rw[QG ψ];exact hz
 vec l' s' g' eG zs e:=by
  by_cases hh:l'=l/\s'=s
  ·obtain⟨rfl,rfl⟩:=hh;rw[Qt (Xy Ο)]at e;cases e;obtain⟨a1,a2,a3,a4⟩:=h.vec l' s' g sz xs hx;exact⟨a1,a2,aJ,.inr ⟨b,hb,hr⟩⟩
  ·rw[QG ψ]at e;obtain⟨a1,a2,a3,a4⟩:=h.vec l' s' g' eG zs e;refine⟨a1,a2,a3,a4.imp id λ⟨b',e',r⟩=>⟨b',e',r.of (ht.heap b' ?_) λ_ h=>h⟩⟩;rintro rfl;exact hh (h.inj2 _ _ _ _ _ e' hb)
 vm l' s' b' e:=by
  obtain⟨⟨g',eG,zs,hz⟩,h2⟩:=h.vm l' s' b' e;refine⟨?_,h2⟩;by_cases hh:l'=l/\s'=s
  ·obtain⟨rfl,rfl⟩:=hh;exact⟨g,sz,ys,Qt (Xy Ο)⟩
  ·exact⟨g',eG,zs,ë⟩
 gone l' s' e:=by
  by_cases hh:l'=l/\s'=s
  ·obtain⟨rfl,rfl⟩:=hh;rw[Qt (Xy Ο)]at e;cases e
  ·rw[QG ψ]at e;exact h.gone l' s' e
 inj1:=h.inj1
 inj2:=h.inj2
 inj3:=h.inj3
 iter l' s' t p e:=by
  by_cases hh:l'=l/\s'=s
  ·obtain⟨rfl,rfl⟩:=hh;rw[Qt (Xy Ο)]at e;cases e
  ·rw[QG ψ]at e;obtain⟨b',e',hc⟩:=h.iter l' s' t p e;exact⟨b',e',(ht.heap b' (λeb=>by subst eb;exact h.inj3 _ _ _ _ _ e' hb)).trans hc⟩
section
variable {P:Program}{N:Nat}{st:St}{Q:St->Prop}
theorem Mn {xs:List AV}(h:(QU xs).all AV.leaf=true){e:AV}(he:e∈xs):e.cells.all AV.leaf=true :=
 ZA h λ_ hx=>QnX.2 ⟨e,he,hx⟩
theorem FS {t:TypeId}{i:TypeInfo}(hi:P.info? t=some i){b o:Nat}{v:Value}{w:World}(hs:v.cells.size=i.size):(Instr.storeAt t (.pointer (some ⟨b,o,none⟩)) v).run P w=(storeCells ⟨b,o,none⟩ v.cells.toList).run P w:=by
 simp only[Instr.storeAt,Instr.sureAddr,Sem.run_bind,Sem.run_pure,Result.andThen_ok,storeVar,X7 hi];rw[Qni ψ]
theorem QA.store {d:Option Nat}{n:Nat}{p r:RA}{its:List Item}{m':Qk}(hn:(r.ev st.f).cells.length=n)(hl:(r.ev st.f).cells.all AV.leaf=true)(hm:XA st.m (p.ev st.f) (r.ev st.f).cells=some m')
  (h:QA P N its { st with m:=m',f:=Ql st.f d (.tup []) } Q):QA P N (⟨d,.store n p r,none⟩ :: its) st Q:=by
 refine QA.step rfl λG B a w o hr hd aW hc K QQ hK=>?_
 cases ho:o.op<;>rw[ho]at hc<;>simp only[Zi,Qnu,Qnz,Qob,Qng]at hc;rename_i t q x;obtain⟨⟨⟨i,hi,fY⟩,rM⟩,lu⟩:=hc;have rp:=Qx hr rM;have rx:=(Qx hr lu).cells hl;have aX:(a.eval x).cells.size=i.size:=by
  have:=rx.length;simp only[QnH]at this;omega
 have h1:∀u∈(a.eval x).cells.toList,u.oneCell'=true:=rx.leaves hl;have fin:∀w',(Instr.storeAt t (a.eval q) (a.eval x)).run P w=.ok () w'->(∃G',Rel G' B N { st with m:=m' } a w'/\Ext 1 G w G' w')->o.wp P a w K QQ:=by
  intro w' af ⟨G',aH,he⟩;have az:(execOp a.eval o).run P w=.ok .skip w':=by
   simp only[execOp,ho,Sem.run_bind,af,Result.andThen_ok,Sem.run_pure]
  unfold Oper.wp;rw[az];have aY:o.dst=d:=hd;show K (a.put o.dst undef) w';rw[aY];exact hK G' _ _ w' h (aH.put aW (v:=undef) (.tup .nil)) he
 generalize hp:p.ev st.f=pv at rp hm;cases pv with
 |ptr l s off=>
  simp only[XA]at hm;split at hm
  ·rename_i xs ar;split at hm
   ·rename_i cq;split at hm
    ·rename_i zs rW;cases hm;generalize hq:a.eval q=qv at rp fin;cases rp with
     |ptr hb=>
      obtain⟨b,cs,eN,aE,aj⟩:=hr.mr.cells l s xs ar;rw[hb]at eN;cases eN;have hlen:=rx.length;have iE:=aj.length;simp only[QnH]at hlen iE;obtain⟨w',ay,dz,eD⟩:=ZT P _ _ off (a.eval x).cells.toList 0 w cs aE Λ h1;refine fin w' (by rw[FS hi aX];exact ay) ⟨G,⟨?_,hr.size,hr.slots,hr.ds,hr.base,Ý,WA hr.ne⟩,Ext.turned eD (.inl ⟨l,s,hb⟩)⟩;refine hr.mr.stored ar hb eD dz ?_;have:=aj.splice (rx.unNL l rW) off
      simpa using this
    ·cases hm
   ·cases hm
  ·cases hm
 |vptr l s g i' off=>
  simp only[XA]at hm;split at hm
  ·rename_i g' sz xs ar;split at hm
   ·rename_i rK;subst rK;split at hm
    ·rename_i e he;split at hm
     ·rename_i cq;obtain⟨cq,tO,gN⟩:=cq;cases hm;generalize hq:a.eval q=qv at rp fin;cases rp with
      |vptr hv hg hh=>
       obtain⟨e1,e2,e3,e4⟩:=hr.mr.vec l s g sz xs ar;obtain⟨b,hb,rfl⟩:=hh e1.symm;rcases e4 with⟨e4,_⟩|⟨b',e4,ae⟩
       ·rw[hb]at e4;cases e4
       ·rw[hb]at e4;cases e4;obtain⟨⟨cur,aE,fg,aj⟩,hle,bP⟩:=ae;have hlen:=rx.length;simp only[QnH]at hlen;have nB:=(Qna.1 he).1;have aN:=Qnp he;have jY:=e3.size e aN;have nf:i'*sz+sz<=xs.length*sz:=by
         have:(i'+1)*sz<=xs.length*sz:=Qoi _ nB
         rwa [QnM,Nat.one_mul]at this
        have pH:xs.length*sz<=cur.size:=by rw[fg];exact Qoi _ hle
        obtain⟨w',ay,dz,eD⟩:=ZT P _ b (i'*sz+off) (a.eval x).cells.toList 0 w cur aE Λ h1;have gj:e.cells.all AV.leaf=true:=Mn e3.leaf aN;have rn:=CX gj cq hl tO;have pO:(Ka e off (r.ev st.f).cells).cells.length=sz:=by rw[rn,G9 cq,jY]
        have dR:=Mm e3.size i' (Ka e off (r.ev st.f).cells) pO nB;have xD:=WB e3.size;have jF:((QU xs).drop (i'*sz)).take sz=e.cells:=by
         rw[JS e3.size];have h2:xs.drop i'=e :: xs.drop (i'+1):=by
          rw[QnU nB];congr 1
          exact(Qna.1 he).2
         rw[h2,Zq,List.take_append,jY];simp[QnL (QnV jY)]
        have mz:QU (xs.set i' (Ka e off (r.ev st.f).cells))=splice (QU xs) (i'*sz+off) (r.ev st.f).cells:=by
         rw[dR,rn];simp only[splice];rw[<-jF];simp only[Qnw,Qos,List.drop_take,QnG];rw[List.take_add (i:=i'*sz) (j:=off)];simp only[Qnw];congr 1
         rw[Qot ψ];congr 2
         have e5:(QU xs).drop (i'*sz+off+(r.ev st.f).cells.length)=(((QU xs).drop (i'*sz+(off+(r.ev st.f).cells.length))).take (sz-(off+(r.ev st.f).cells.length)))++(QU xs).drop (i'*sz+sz):=by
          have:=Qou (sz-(off+(r.ev st.f).cells.length)) ((QU xs).drop (i'*sz+(off+(r.ev st.f).cells.length)));rw[QnG]at this;rw[show i'*sz+(off+(r.ev st.f).cells.length)+(sz-(off+(r.ev st.f).cells.length))=i'*sz+sz by omega]at this;rw[this,Qm7]
         rw[e5]
        have eh:Elems sz (xs.set i' (Ka e off (r.ev st.f).cells)):=by
         refine⟨λy hy=>?_,?_,?_⟩
         ·rcases List.mem_or_eq_of_mem_set hy with hy|rfl
          ·exact e3.size y hy
          ·exact pO
         ·rw[mz];simp only[splice,Wl,Qnz];exact⟨⟨JO e3.rf λy hy=>QnZ hy,gN⟩,JO e3.rf λy hy=>QnY hy⟩
         ·rw[mz];simp only[splice,Qov,Qnz];exact⟨⟨ZA e3.leaf λy hy=>QnZ hy,hl⟩,ZA e3.leaf λy hy=>QnY hy⟩
        refine fin w' (by rw[FS hi aX,e2];exact ay) ⟨G,⟨?_,hr.size,hr.slots,hr.ds,hr.base,Ý,WA hr.ne⟩,Ext.turned eD (.inr ⟨l,s,hb⟩)⟩;refine hr.mr.rowset ar hb eD eh ⟨⟨_,dz,?_,?_⟩,by simpa using hle,bP⟩
        ·simp only[Qog,QnP,Qn8,QnS,QnH];omega
        ·rw[mz,List.length_set];have h5:=aj.splice rx (i'*sz+off);have h6:(cur.toList.take (i'*sz+off+0)++(a.eval x).cells.toList++cur.toList.drop (i'*sz+off+0+(a.eval x).cells.toList.length)).toArray.toList.take (xs.length*sz)=(cur.toList.take (xs.length*sz)).take (i'*sz+off)++(a.eval x).cells.toList++(cur.toList.take (xs.length*sz)).drop (i'*sz+off+(a.eval x).cells.toList.length):=by
          simp only[QnI];exact FR _ _ _ _ Λ Λ
         rw[h6];exact h5
     ·cases hm
    ·cases hm
   ·cases hm
  ·cases hm
 |_=>simp[XA]at hm
end
def AV.unNL_zero (l:List AV):AV.unNL 0 l=some l:=rfl
section
variable {P:Program}{N:Nat}{st:St}{Q:St->Prop}
theorem Mo {G:Gh}{B:Nat}{a:Act}{w:World}(hr:Rel G B N st a w){t tx ty e:TypeId}{i:TypeInfo}{zv:Value}(hu:P.underlying t=some (.slice e))(hi:P.info? e=some i)(cm:i.zero=some zv)(hz:zv.cells.size=i.size)
  {l site g n:Nat} {xs ys:List AV} {v:Value} (rs:Rep G (.vec l site g 0 n false) v) (ar:Qc st.m l site=.vec g i.size xs) (hn:n<=xs.length) (dY:Zv site e=true)
  {y:Value} {cs:List Value} (bD:Src P i.size tx y ys.length cs w) (aj:RepL G (QU ys) cs) (aJ:Elems i.size ys) (bP:n+ys.length<=maxLen) (hb:(n+ys.length)*i.bytes<=140737488355328) :
  ∃v' w' G',(Builtin.append_ #[t,tx] ty #[v,y]).run P w=.ok v' w'/\Rel G' B N { st with m:=Am.put st.m l site (.vec (g+1) i.size (xs.take n++ys)) } a w'/\Ext 1 G w G' w'/\Rep G' (.vec l site (g+1) 0 (n+ys.length) false) v':=by
 obtain⟨e1,e2,e3,e4⟩:=hr.mr.vec l site g i.size xs ar;have eh:Elems i.size (xs.take n++ys):=by
  refine⟨λu hu=>?_,?_,?_⟩
  ·rcases Qow.1 hu with hu|hu
   ·exact e3.size u (QnZ hu)
   ·exact aJ.size u hu
  ·rw[Js,Wl,Qnz];exact⟨JO e3.rf (J1 λu hu=>QnZ hu),aJ.rf⟩
  ·rw[Js,Qov,Qnz];exact⟨ZA e3.leaf (J1 λu hu=>QnZ hu),aJ.leaf⟩
 have mN:l<st.m.length:=Xy đ;have ak:Qn (Qc st.m l site)=true:=Ĵ
 have fC:G.vg l site<g+1:=ψ
 have hlen:(xs.take n++ys).length=n+ys.length:=Ϗ
 -- what the slice value is
 have hv:((∃A,v=.slice A 0 0/\(2000<=site->A=none))/\n=0/\G.vm l site=none/\([]:List Value)=[])\/∃b cur,v=.slice (some ⟨b,0,none⟩) n (G.vc l site)/\G.vm l site=some b/\Zh site w b cur/\cur.size=G.vc l site*i.size/\n<=G.vc l site/\G.vc l site<=maxLen/\RepL G (QU (xs.take n)) (cur.toList.take (n*i.size)):=by
  cases rs with
  |vec vu hg hh=>
   rcases hh e1.symm with⟨ap,_,rfl,A0,rfl,gh⟩|⟨b,A',c',ap,bz,rfl,i6,dI,hq,hA⟩
   ·exact .inl ⟨⟨A0,rfl,gh⟩,rfl,ap,rfl⟩
   ·right
    rcases e4 with⟨e,_⟩|⟨b',e,ae⟩
    ·rw[ap]at e;cases e
    ·rw[ap]at e;cases e;obtain⟨⟨cur,aE,iA,oV⟩,hle,kS⟩:=ae;have ff:=hA ⟨.inr rfl,.inl rfl⟩;have lB:=hq rfl;simp only[Nat.zero_mul,Qoa]at ff lB;subst ff lB;refine⟨b,cur,rfl,ap,aE,iA,i6,kS,?_⟩;have:=oV.take (n*i.size);rw[Kn e3.size,Qos,Qot (Qoi _ hn)]at this;exact this
 have qh:∃vs:List Value,RepL G (QU (xs.take n)) vs/\vs.length=n*i.size/\(((∃A,v=.slice A 0 0)/\G.vm l site=none/\n=0/\vs=[])\/∃b cur,v=.slice (some ⟨b,0,none⟩) n (G.vc l site)/\G.vm l site=some b/\Zh site w b cur/\cur.size=G.vc l site*i.size/\n<=G.vc l site/\G.vc l site<=maxLen/\cur.toList.take (n*i.size)=vs):=by
  rcases hv with⟨⟨A0,rfl,_⟩,rfl,ap,_⟩|⟨b,cur,rfl,ap,h1,h2,h3,h4,h5⟩
  ·exact⟨[],by simp[QU];exact .nil,ό,.inl ⟨⟨A0,rfl⟩,ap,rfl,rfl⟩⟩
  ·refine⟨_,h5,?_,.inr ⟨b,cur,rfl,ap,h1,h2,h3,h4,rfl⟩⟩;simp only[Qn8,QnH,h2];exact Qot (Qoi _ h3)
 obtain⟨vs,gO,uL,sW⟩:=qh;obtain⟨v',w',af,oS,vV,gP,dk,cj,dx⟩:=B5 (P:=P) (w:=w) (ty:=ty) dY hu hi cm hz sW uL bD bP hb;have mK:∀k,k<w.heap.size->some k≠G.vm l site->w'.heap[k]? = w.heap[k]?:=λk hk aq=>cj k hk λe=>aq e.symm
 rcases dx with⟨rfl,rH,nD,rfl⟩|⟨b',eg,fJ,rfl,eN,mH,rv,jy,o_,bZ⟩
 ·have kP:n=0/\G.vm l site=none/\∃A,v'=.slice A 0 0/\(2000<=site->A=none):=by
   rcases hv with⟨h0,h1,h2,_⟩|⟨b,cur,e,e',_⟩
   ·exact⟨h1,h2,h0⟩
   ·rw[rH]at e';cases e'
  have xc:ys=[]:=Qoh nD;obtain⟨rfl,uI,A0,rfl,gh⟩:=kP;subst xc;obtain⟨aH,he⟩:=hr.vecput (w':=w') (cap:=0) (b:=none) mN ak fC rfl rfl rfl (Qm8 _) (λ_ _ _=>rfl) (λk e=>Ú) eh (.inl ⟨rfl,ό⟩);exact⟨_,_,_,af,aH,he,.vec rfl (QnV Ϧ) λ_=>.inl ⟨Ϧ,rfl,ό,A0,rfl,gh⟩⟩
 ·obtain⟨aH,he⟩:=hr.vecput (w':=w') (cap:=eg) (b:=some b') mN ak fC oS vV gP dk mK (λk e=>by cases e;exact eN) eh (.inr ⟨b',rfl,⟨fJ,mH,rv,by rw[hlen,bZ,Js];exact gO.append aj⟩,by rw[hlen];exact jy,o_⟩);exact⟨_,_,_,af,aH,he,.vec rfl (QnV Ϧ) λ_=>.inr ⟨b',⟨b',0,none⟩,eg,Ϧ,by simp[Gh.row];exact jy,rfl,jy,o_,λ_=>Ϧ,λ_=>ό⟩⟩
theorem QA.app {d:Option Nat}{sz bytes el:Nat}{s r:RA}{its:List Item}{l site g n:Nat}{xs ys:List AV}(hs:s.ev st.f=.vec l site g 0 n false)(ar:Qc st.m l site=.vec g sz xs)(dY:Zv site el=true)(hn:n<=xs.length)
  (hy:Xc st.m (r.ev st.f)=some ys) (aX:ys.all (λe=>e.cells.length==sz)=true) (bP:n+ys.length<=maxLen) (hb:(n+ys.length)*bytes<=140737488355328)
  (h:QA P N its { st with m:=Am.put st.m l site (.vec (g+1) sz (xs.take n++ys)),f:=Ql st.f d (.vec l site (g+1) 0 (n+ys.length) false) } Q):QA P N (⟨d,.app sz bytes el s r,none⟩ :: its) st Q:=by
 refine QA.step rfl λG B a w o hr hd aW hc K QQ hK=>?_
 cases ho:o.op<;>rw[ho]at hc<;>simp only[Zi,Qnu]at hc;rename_i cl;split at hc
 case h_2=>cases hc
 rename_i o1 x y t t' o2;cases o2;simp only[Qnz,Qng]at hc;obtain⟨⟨⟨rfl,aD⟩,fg⟩,lu⟩:=hc;cases hu:P.underlying t with
 |none=>simp[hu]at aD
 |some dd=>
  cases dd with
  |slice e=>
   simp only[hu,Qnz,Qob,QnE,Qng]at aD;obtain⟨⟨⟨i,hi,⟨rfl,rfl⟩,hz⟩,e_⟩,rfl⟩:=aD;cases cm:i.zero with
   |none=>rw[cm]at hz;cases hz
   |some zv=>
    rw[cm]at hz;simp only[Qng]at hz;have rs:=Qx hr fg;rw[hs]at rs;obtain⟨A,c,h_,eG,cs,aj,aJ,aR⟩:=Yc hr hy (Qx hr lu);have bB:∀u∈ys,u.cells.length=i.size:=λu hu=>by simpa using Qno.1 aX u hu
    have gj:Elems i.size ys:=⟨bB,aJ.rf,aJ.leaf⟩;have aM:cs.length=ys.length*i.size:=by rw[aj.length,WB bB]
    have dv:∀u∈cs,u.oneCell'=true:=aj.leaves aJ.leaf;have bD:Src P i.size t (.slice A ys.length c) ys.length cs w:=by
     cases cs with
     |nil=>
      have h0:ys.length=0:=by
       exact OT
      rw[h0];cases A with
      |none=>exact Src.ofNil (w:=w) hu c
      |some ad=>exact Src.ofSlice (w:=w) hu ad 0 c [] ό (λj u h=>Á) (λu h=>Á)
     |cons u0 us=>
      obtain⟨b,o',rfl,_⟩:=aR 0 u0 rfl;refine Src.ofSlice (w:=w) hu ⟨b,o',none⟩ ys.length c (u0 :: us) aM (λj u hj=>?_) dv;obtain⟨b',x7,e,bN⟩:=aR j u hj;cases e;rw[Za];exact bN
    obtain⟨v',w',G',af,aH,he,bQ⟩:=Mo (ty:=o.type) hr hu hi cm hz rs ar hn dY bD aj gj bP hb;have az:(execOp a.eval o).run P w=.ok (.value v') w':=by
     simp only[execOp,ho,resolve,invoke,builtin,Sem.run_bind,Sem.run_pure,Result.andThen_ok,Qoc,QnJ,Qod,h_,af]
    unfold Oper.wp;rw[az];have aY:o.dst=d:=hd;show K (a.put o.dst v') w';rw[aY];exact hK _ _ _ _ h (aH.put aW bQ) he
  |_=>simp[hu]at aD
def Qy (s:List UInt8):List AV:=s.map λb=>.int .u8 (b.toNat:Int)
theorem FT {G:Gh}(s:List UInt8):RepL G (Qy s) (s.map λb=>Value.int .u8 (b.toNat:Int)):=by
 induction s with
 |nil=>exact .nil
 |cons b s ih=>exact .cons (.int _ _) ih
theorem K5 (s:List UInt8):QU (Qy s)=Qy s:=by
 induction s with
 |nil=>rfl
 |cons b s ih=>show [_]++QU (Qy s)=_;rw[ih];rfl
theorem Dc (s:List UInt8):Elems 1 (Qy s):=by
 refine⟨λx hx=>?_,?_,?_⟩
 ·obtain⟨b,_,rfl⟩:=Qox.1 hx;rfl
 ·rw[K5]
  induction s with
  |nil=>rfl
  |cons b s ih=>exact ih
 ·rw[K5]
  induction s with
  |nil=>rfl
  |cons b s ih=>exact ih
theorem QA.appS {d:Option Nat}{el:Nat}{s r:RA}{its:List Item}{l site g n:Nat}{xs:List AV}{t:List UInt8}(hs:s.ev st.f=.vec l site g 0 n false)(ar:Qc st.m l site=.vec g 1 xs)(dY:Zv site el=true)(hn:n<=xs.length)
  (hy:r.ev st.f=.str t) (bP:n+t.length<=140737488355328)
  (h:QA P N its { st with m:=Am.put st.m l site (.vec (g+1) 1 (xs.take n++Qy t)),f:=Ql st.f d (.vec l site (g+1) 0 (n+t.length) false) } Q):QA P N (⟨d,.appS el s r,none⟩ :: its) st Q:=by
 refine QA.step rfl λG B a w o hr hd aW hc K QQ hK=>?_
 cases ho:o.op<;>rw[ho]at hc<;>simp only[Zi,Qnu]at hc;rename_i cl;split at hc
 case h_2=>cases hc
 rename_i o1 x y tt t' o2;cases o2;simp only[Qnz]at hc;obtain⟨⟨⟨ay,aD⟩,fg⟩,lu⟩:=hc;cases hu:P.underlying tt with
 |none=>simp[hu]at aD
 |some dd=>
  cases dd with
  |slice e=>
   simp only[hu,Qnz,Qob,Qng]at aD;obtain⟨⟨i,hi,⟨fi,lE⟩,hz⟩,rfl⟩:=aD;cases cm:i.zero with
   |none=>rw[cm]at hz;cases hz
   |some zv=>
    rw[cm]at hz;simp only[Qng]at hz;have rs:=Qx hr fg;rw[hs]at rs;have rx:=Qx hr lu;rw[hy]at rx;have iD:a.eval y=.string ⟨⟨t⟩⟩:=by
     revert rx
     generalize a.eval y=v;intro rx;cases rx;rfl
    have hlen:(Qy t).length=t.length:=ĺ
    have bD:Src P i.size t' (.string ⟨⟨t⟩⟩) (Qy t).length (t.map λb=>Value.int .u8 (b.toNat:Int)) w:=by
     rw[fi,hlen];exact Src.ofString (w:=w) (K4 ay) ⟨⟨t⟩⟩
    rw[<-fi]at ar;obtain⟨v',w',G',af,aH,he,bQ⟩:=Mo (ty:=o.type) (ys:=Qy t) hr hu hi cm (hz.trans fi.symm) rs ar hn dY bD (by rw[K5];exact FT t) (by rw[fi];exact Dc t) (by rw[hlen];simp only[maxLen];omega) (by rw[hlen,lE];omega);have az:(execOp a.eval o).run P w=.ok (.value v') w':=by
     simp only[execOp,ho,resolve,invoke,builtin,Sem.run_bind,Sem.run_pure,Result.andThen_ok,Qoc,QnJ,Qod,iD,af]
    unfold Oper.wp;rw[az];have aY:o.dst=d:=hd;show K (a.put o.dst v') w';rw[aY];rw[fi]at aH;rw[hlen]at bQ;exact hK _ _ _ _ h (aH.put aW bQ) he
  |_=>simp[hu]at aD
theorem Rel.after {G G':Gh}{B:Nat}{a:Act}{w w':World}{m':Qk}(h:Rel G B N st a w)(hm:MR G' m' w')(he:Ext 0 G w G' w')(hl:m'.length=st.m.length):Rel G' B N { st with m:=m' } a w' where
 mr:=hm
 size:=h.size
 slots i:=(h.slots i).mono he.gle
 ds:=h.ds.mono he.gle
 base s b e:=by
  rcases e with e|e
  ·rw[he.nm 0 s (Qm8 _)]at e;exact h.base s b (.inl e)
  ·rcases he.mv 0 s b e with⟨i,t,hi,e⟩|e
   ·obtain rfl:i=0:=Nat.le_zero.1 hi;exact h.base t b (.inr e)
   ·exact Qm9 h.top e
 top:=Qm9 h.top he.size
 ne:=by
  have:=h.ne;intro e;have e':m'=[]:=e;rw[e']at hl;exact this (Qoh hl.symm)
theorem Qaf {o:Oper}{x:Operand}{args:Array Operand}{ts:Array TypeId}{a:Act}{w:World}(ho:o.op=.call { callee:=.value x,args:=args,argTypes:=ts }){k:FuncId}{va vb:List Value}(hx:a.eval x=.func (.func k) ⟨va⟩ ⟨vb⟩)(hk:Bf P k) :
  (execOp a.eval o).run P w=.ok (.enter k ⟨va++args.toList.map a.eval++vb⟩) w:=by
 obtain⟨fn,hf,hn,hb⟩:=hk;have e1:args.map a.eval=⟨args.toList.map a.eval⟩:=ļ
 simp only[execOp,ho,resolve,hx,Deferred.ofValue,e1,Sem.run_bind,Sem.run_pure,Result.andThen_ok,invoke,callFunc,run_program,hf,hn,Qnu,if_false,hb];simp
theorem Sn {G:Gh}{B:Nat}{a:Act}{w:World}{o:Oper}(hr:Rel G B N st a w){f:RA}{args:List RA}{k:FuncId}{fa fb:List AV}(hf:f.ev st.f=.fn (.func k) fa fb)(hk:Bf P k)(hc:Zi P o.op (.call f args)=true){K:Act->World->Prop}{QQ:Exit->Act->World->Prop}
  (h:∀vs,RepL G (fa++args.map (RA.ev st.f)++fb) vs->Calls P k ⟨vs⟩ w λe w'=>∃v,e=.returned v/\K (a.put o.dst v) w'):o.wp P a w K QQ:=by
 cases ho:o.op<;>rw[ho]at hc<;>simp only[Zi,Qnu]at hc;rename_i cl;split at hc
 case h_2=>cases hc
 rename_i o1 x as ts o2;cases o2;simp only[Qnz]at hc;have rf:=Qx hr hc.1;rw[hf]at rf;have ras:=Gi hr hc.2;obtain⟨va,vb,hx,h1,h2⟩:∃va vb,a.eval x=.func (.func k) ⟨va⟩ ⟨vb⟩/\RepL G fa va/\RepL G fb vb:=by
  generalize a.eval x=v at rf;cases rf with
  |fn h1 h2=>exact⟨_,_,rfl,h1,h2⟩
 have af:=Qaf (P:=P) (w:=w) ho hx hk;unfold Oper.wp;rw[af];show Calls P k _ w _;exact(h _ ((h1.append ras).append h2)).mono λe w' ⟨v,he,hK⟩=>by subst he;exact hK
theorem QA.callFull {d:Option Nat}{f:RA}{args:List RA}{its:List Item}{k:FuncId}{fa fb:List AV}(hf:f.ev st.f=.fn (.func k) fa fb){R:AV->Qk->Prop}(hk:Qf P k (fa++args.map (RA.ev st.f)++fb) st.m R)
  (h:∀x m',R x m'->m'.length=st.m.length->QA P N its { st with m:=m',f:=Ql st.f d x } Q):QA P N (⟨d,.call f args,none⟩ :: its) st Q:=by
 refine QA.step rfl λG B a w o hr hd aW hc K QQ hK=>?_
 refine Sn hr hf hk.1 hc λvs gO=>(hk.2 G w vs gO hr.mr).mono λe w' ⟨G',x,v,m',he,hR,hv,hm,hx,hl⟩=>⟨v,he,?_⟩
 have aY:o.dst=d:=hd;rw[aY];exact hK G' _ _ w' (h x m' hR hl) ((hr.after hm hx hl).put aW hv) (hx.mono (Qnk _))
def Gh.bare (stab:Nat->Nat->Option SV)(ht:∀b o v,J9 b o=some v->stab b o=some v):Gh:=⟨stab,λ_ _=>none,λ_ _=>none,λ_ _=>0,λ_ _=>0,λ_ _=>0,ht⟩
def Gh.world (W:World)(h:Di W):Gh:=Gh.bare (λb o=>sv W b o) λb o v e=>C3 (h b o v e)
theorem MR.bare {stab:Nat->Nat->Option SV}{ht:∀b o v,J9 b o=some v->stab b o=some v}{w:World}(h:∀b o v,stab b o=some v->rd w b o v):MR (Gh.bare stab ht) [] w where
 stab:=h
 cells l s xs e:=by cases l<;>cases e
 nm l s b e:=by cases e
 vec l s g sz xs e:=by cases l<;>cases e
 vm l s b e:=by cases e
 gone _ _ _:=rfl
 inj1 l s l' s' b e:=by cases e
 inj2 l s l' s' b e:=by cases e
 inj3 l s l' s' b e:=by cases e
 iter l s t p e:=by cases l<;>cases e
theorem Gh.bare_mine {stab:Nat->Nat->Option SV}{ht:∀b o v,J9 b o=some v->stab b o=some v}{b:Nat}:¬(Gh.bare stab ht).mine b:=by
 rintro(⟨l,s,e⟩|⟨l,s,e⟩)<;>cases e
def Gh.with(G:Gh)(stab:Nat->Nat->Option SV)(hg:∀b o v,G.stab b o=some v->stab b o=some v):Gh:={ G with stab:=stab,tab:=λb o v e=>hg _ _ _ (G.tab b o v e) }
theorem MR.kept {G:Gh}{m:Qk}{w w':World}(h:MR G m w){stab:Nat->Nat->Option SV}(hk:∀b,b<w.heap.size->w'.heap[b]? = w.heap[b]?)(hs:∀b o v,stab b o=some v->rd w' b o v)(hg:∀b o v,G.stab b o=some v->stab b o=some v)(hm:∀b,G.mine b->∀o,stab b o=none):MR (G.with stab hg) m w' where
 stab:=hs
 cells l s xs e:=by
  obtain⟨b,cs,e',hc,hr⟩:=h.cells l s xs e;exact⟨b,cs,e',hc.of (hk b hc.lt),RepL.mono (G:=G.dn l) (G':=(G.with stab hg).dn l) ⟨hg,λ_ _ _ h=>h,λ_ _=>Qm8 _,λ_ _ _=>⟨rfl,rfl,rfl⟩⟩ hr⟩
 nm l s b e:=⟨(h.nm l s b e).1,hm b (.inl ⟨l,s,e⟩)⟩
 vec l s g sz xs e:=by
  obtain⟨a1,a2,a3,a4⟩:=h.vec l s g sz xs e;exact⟨a1,a2,a3,a4.imp id λ⟨b,e',r⟩=>⟨b,e',r.of (hk b (h.mine (.inr ⟨l,s,e'⟩)).1) λvs hv=>RepL.rfd (G:=G) (G':=G.with stab hg) hg a3.rf hv⟩⟩
 vm l s b e:=⟨(h.vm l s b e).1,hm b (.inr ⟨l,s,e⟩)⟩
 gone:=h.gone
 inj1:=h.inj1
 inj2:=h.inj2
 inj3:=h.inj3
 iter l s t p e:=by
  obtain⟨b,e',hc⟩:=h.iter l s t p e;exact⟨b,e',(hk b (h.mine (.inl ⟨l,s,e'⟩)).1).trans hc⟩
theorem Ext.bare {G:Gh}{w w':World}{stab':Nat->Nat->Option SV}(oS:w'.os=w.os)(jI:w'.tape=w.tape)(gP:w'.output=w.output)(dk:w.heap.size<=w'.heap.size)(hk:∀b,b<w.heap.size->w'.heap[b]? = w.heap[b]?)(hg:∀b o v,G.stab b o=some v->stab' b o=some v)(ho:∀b,b<w.heap.size->∀o,stab' b o=G.stab b o):Ext 0 G w (G.with stab' hg) w' :=
 ⟨oS,jI,gP,dk,hg,λ_ _ _=>rfl,λ_ _=>Qm8 _,λ_ _ _=>⟨rfl,rfl,rfl⟩,λb hb _=>⟨hk b hb,ho b hb⟩,λ_ h=>.inl h,λl s _ h=>.inl ⟨l,s,Qm8 _,h⟩⟩
mutual
def AV.nl:AV->Bool
 |.list _|.rptr _|.lcap _|.mp .. => false
 |.agg l|.tup l=>AV.nlL l
 |.iface _ x=>x.nl
 |.fn _ a b=>AV.nlL a&&AV.nlL b
 |_=>true
def AV.nlL:List AV->Bool
 | []=>true
 |x :: l=>x.nl&&AV.nlL l
end
mutual
theorem Rep.plain {G G':Gh}:∀ {x:AV} {v:Value},x.nl=true->x.rf=true->Rep G x v->Rep G' x v
 |_,_,_,_,.top v=>.top v
 |_,_,_,_,.int k n=>.int k n
 |_,_,_,_,.bool b=>.bool b
 |_,_,_,_,.str s=>.str s
 |_,_,_,_,.nils=>.nils
 |_,_,_,_,.nilp=>.nilp
 |_,_,_,_,.nilf=>.nilf
 |_,_,_,_,.nili=>.nili
 |_,_,_,_,.nilm=>.nilm
 |_,_,_,_,.anyp p=>.anyp p
 |_,_,hn,_,.list hc hz hf hl hs eO bm hm=>by cases hn
 |_,_,hn,_,.lcap hc hz hf hl hs eO hm=>by cases hn
 |_,_,hn,hr,.agg h=>.agg (RepL.plain hn hr h)
 |_,_,hn,hr,.tup h=>.tup (RepL.plain hn hr h)
 |_,_,hn,hr,.iface h=>.iface (Rep.plain hn hr h)
 |_,_,hn,hr,.fn ha hb=>by
   have h1:=Qnc.1 hn;have h2:=Qnc.1 hr;exact .fn (RepL.plain h1.1 h2.1 ha) (RepL.plain h1.2 h2.2 hb)
 |_,_,_,hr,.ptr h=>by cases hr
 |_,_,_,hr,.vec hv hl h=>by cases hr
 |_,_,_,hr,.vptr hv hl h=>by cases hr
 |_,_,_,hr,.rptr hc hf hl hs=>by cases hr
theorem RepL.plain {G G':Gh}:∀ {x:List AV} {v:List Value},AV.nlL x=true->AV.rfL x=true->RepL G x v->RepL G' x v
 |_,_,_,_,.nil=>.nil
 |_,_,hn,hr,.cons h t=>by
   have h1:=Qnc.1 hn;have h2:=Qnc.1 hr;exact .cons (Rep.plain h1.1 h2.1 h) (RepL.plain h1.2 h2.2 t)
end
def Fn? (P:Program)(k:FuncId)(args:List AV)(R:AV->Prop):Prop:=Qf P k args [] λx _=>R x
mutual
theorem Mp {G:Gh}{own:Bool}{m:Qk}:∀ {x:AV} {v:Value},x.rf=true->Rep G x v->∀y,x.still own m=some y->Rep G y v
 |.top,v,_,hr,y,e=>by cases e;exact .top v
 |.int _ _,_,_,hr,y,e=>by cases e;exact hr
 |.bool _,_,_,hr,y,e=>by cases e;exact hr
 |.str _,_,_,hr,y,e=>by cases e;exact hr
 |.nilp,_,_,hr,y,e=>by cases e;exact hr
 |.nilf,_,_,hr,y,e=>by cases e;exact hr
 |.nili,_,_,hr,y,e=>by cases e;exact hr
 |.nilm,_,_,hr,y,e=>by cases e;exact hr
 |.anyp,_,_,hr,y,e=>by cases e;exact hr
 |.list _,_,_,hr,y,e=>by cases e;exact hr
 |.lcap _,_,_,hr,y,e=>by cases e;exact hr.unlcap
 |.fn _ _ _,_,_,hr,y,e=>by cases e;exact hr
 |.mp _ _,_,_,hr,y,e=>by cases e;exact hr
 |.mptr _ _,_,hf,hr,y,e=>by cases hf
 |.ptr _ _ _,_,hf,hr,y,e=>by cases hf
 |.vptr _ _ _ _ _,_,hf,hr,y,e=>by cases hf
 |.rptr _,_,hf,hr,y,e=>by cases hf
 |.vec _ _ _ _ _ _,_,hf,hr,y,e=>by cases hf
 |.nils,_,_,hr,y,e=>by
   cases e;cases hr;exact zF
 |.agg l,_,hf,hr,y,e=>by
   simp only[AV.still,Qnd]at e;obtain⟨l',e,rfl⟩:=e;cases hr with
   |agg hr=>exact .agg (Hb hf hr l' e)
 |.tup l,_,hf,hr,y,e=>by
   simp only[AV.still,Qnd]at e;obtain⟨l',e,rfl⟩:=e;cases hr with
   |tup hr=>exact .tup (Hb hf hr l' e)
 |.iface t x,_,hf,hr,y,e=>by
   simp only[AV.still,Qnd]at e;obtain⟨l',e,rfl⟩:=e;cases hr with
   |iface hr=>exact .iface (Mp (x:=x) hf hr l' e)
theorem Hb {G:Gh}{own:Bool}{m:Qk}:∀ {x:List AV} {v:List Value},AV.rfL x=true->RepL G x v->∀y,AV.stillL own m x=some y->RepL G y v
 | [],_,_,hr,y,e=>by cases e;cases hr;exact .nil
 |x :: l,_,hf,hr,y,e=>by
   have h2:=Qnc.1 hf;simp only[AV.stillL]at e;split at e
   ·rename_i a b ea eb;cases e;cases hr with
    |cons hr ht=>exact .cons (Mp h2.1 hr a ea) (Hb h2.2 ht b eb)
   ·cases e
end
theorem QA.callPure {d:Option Nat}{f:RA}{args:List RA}{its:List Item}{k:FuncId}{fa fb ys:List AV}(hf:f.ev st.f=.fn (.func k) fa fb)(hy:AV.stillL false st.m (fa++args.map (RA.ev st.f)++fb)=some ys)(gN:AV.rfL ys=true)
  {R:AV->Prop} (hk:Fn? P k ys R) (hx:∀x,R x->x.rf=true/\(AV.rfL (fa++args.map (RA.ev st.f)++fb)=true\/x.nl=true)) (h:∀x,R x->QA P N its { st with f:=Ql st.f d x } Q):QA P N (⟨d,.call f args,none⟩ :: its) st Q:=by
 refine QA.step rfl λG B a w o hr hd aW hc K QQ hK=>?_
 refine Sn hr hf hk.1 hc λvs gO=>?_
 have aY:o.dst=d:=hd;have aa:∀b o v,G.stab b o=some v->b<w.heap.size:=λb o v e=>Ge (hr.mr.stab b o v e)
 -- whatever cells stay for the callee
 have key:∀(f_:Nat->Nat->Option SV) (mI:∀b o v,J9 b o=some v->f_ b o=some v),(∀b o v,f_ b o=some v->rd w b o v)->RepL (Gh.bare f_ mI) ys vs->((∀b,b<w.heap.size->∀o,f_ b o=G.stab b o)\/∀x,R x->x.nl=true)->
   Calls P k ⟨vs⟩ w λe w'=>∃v,e=.returned v/\K (a.put o.dst v) w':=by
  intro f_ mI pg aj ku;refine(hk.2 (Gh.bare f_ mI) w vs aj (MR.bare pg)).mono λe w' ⟨G',x,v,m',he,hR,hv,hm,dG,hl⟩=>⟨v,he,?_⟩
  rw[aY];have vj:=(hx x hR).1;have hold:∀b,b<w.heap.size->w'.heap[b]? = w.heap[b]?:=λb hb=>(dG.old b hb Gh.bare_mine).1
  let stab':Nat->Nat->Option SV:=λb o=>if b<w.heap.size then G.stab b o else G'.stab b o
  have hg:∀b o v,G.stab b o=some v->stab' b o=some v:=λb o v e=>by
   show(if b<w.heap.size then G.stab b o else G'.stab b o)=some v;rw[Qnj (aa b o v e)];exact e
  have dz:∀b o v,stab' b o=some v->rd w' b o v:=λb o v e=>by
   simp only[stab']at e;split at e
   ·rename_i hb;exact K2 (hold b hb) (hr.mr.stab b o v e)
   ·exact hm.stab b o v e
  have jL:∀b,G.mine b->∀o,stab' b o=none:=λb hb o=>by
   show(if b<w.heap.size then G.stab b o else G'.stab b o)=none;rw[Qnj (hr.mr.mine hb).1];exact(hr.mr.mine hb).2 o
  have bV:=hr.mr.kept hold dz hg jL;have fX:Ext 0 G w (G.with stab' hg) w':=Ext.bare dG.os dG.tape dG.output dG.size hold hg (λb hb o=>Qnj hb);have bQ:Rep (G.with stab' hg) x v:=by
   rcases ku with ku|ku
   ·refine hv.rfd (λb o u e=>?_) vj;show(if b<w.heap.size then G.stab b o else G'.stab b o)=some u;split
    ·rename_i hb;have h1:=(dG.old b hb Gh.bare_mine).2 o;rw[e]at h1;rw[<-ku b hb o];exact h1.symm
    ·exact e
   ·exact Rep.plain (ku x hR) vj hv
  exact hK _ _ _ w' (h x hR) ((hr.after bV fX rfl).put aW bQ) (fX.mono (Qnk _))
 by_cases oK:AV.rfL (fa++args.map (RA.ev st.f)++fb)=true
 ·refine key G.stab G.tab hr.mr.stab ?_ (.inl λ_ _ _=>rfl);exact RepL.rfd (G:=G) (G':=Gh.bare G.stab G.tab) (λ_ _ _ h=>h) gN (Hb oK gO ys hy)
 ·let S:Nat->Prop:=λb=>∃l s,G.vm l s=some b
  have ay:=Ha hr.mr (own:=false) (S:=S) (λl s b _ e=>⟨l,s,e⟩) (λh=>Á) gO ys hy;refine key (G.pub w S).stab (G.pub w S).tab (λb o v e=>?_) (RepL.rfd (G:=G.pub w S) (G':=Gh.bare (G.pub w S).stab (G.pub w S).tab) (λ_ _ _ h=>h) gN ay) (.inr λx hR=>((hx x hR).2.resolve_left oK));by_cases hS:S b/\∀o,J9 b o=none
  ·rw[Gh.pub_c hS]at e;exact C2 e
  ·rw[Gh.pub_n hS]at e;exact hr.mr.stab b o v e
end
def ZB (m:Qk)(s:Nat):Bool :=
 match Qc m 0 s with
 |.none=>true
 |_=>false
def Rel.freshO {G:Gh}{B N:Nat}{st:St}{a:Act}{w:World}(h:Rel G B N st a w)(s:Nat)(fD:ZB st.m s=true){ob:Ob}{x:Obj}(cJ:ob.isVar=true)
  (gI:∀l,ob=.cells l->∃cs t,x=.cells cs t/\Zv s t=true/\RepL G l cs.toList) (pw:∀t p,ob=.iter t p->x=t.obj p) :
  Rel (G.fresh s w.heap.size) B N { st with m:=Am.put st.m 0 s ob } a (w.alloc x)/\Ext 1 G w (G.fresh s w.heap.size) (w.alloc x):=by
 have ar:Qc st.m 0 s=.none:=by
  unfold ZB at fD;split at fD
  ·assumption
  ·cases fD
 have tq:G.nm 0 s=none:=by
  cases hg:G.nm 0 s with
  |none=>rfl
  |some b=>obtain⟨hx,_⟩:=h.mr.nm 0 s b hg;rw[ar]at hx;cases hx
 have bO:Gle G (G.fresh s w.heap.size):=by
  refine⟨λ_ _ _ h=>h,λl' t b e=>?_,λ_ _=>Qm8 _,λ_ _ _=>⟨rfl,rfl,rfl⟩⟩;show(if l'=0/\t=s then some w.heap.size else G.nm l' t)=some b;rw[Qni]
  ·exact e
  ·rintro⟨rfl,rfl⟩;rw[tq]at e;cases e
 have hold:∀k,k<w.heap.size->(w.alloc x).heap[k]? = w.heap[k]?:=λk hk=>RowKit.Below.heap_alloc w _ k hk
 have cr:∀l' s' b',(G.fresh s w.heap.size).nm l' s'=some b'->(l'=0/\s'=s/\b'=w.heap.size)\/(¬(l'=0/\s'=s)/\G.nm l' s'=some b'/\b'<w.heap.size):=by
  intro l' s' b' e;simp only[Gh.fresh]at e;split at e
  ·rename_i hh;cases e;exact .inl ⟨hh.1,hh.2,rfl⟩
  ·rename_i hh;exact .inr ⟨hh,e,(h.mr.mine (.inl ⟨_,_,e⟩)).1⟩
 have ap:∀l' s' b',(G.fresh s w.heap.size).vm l' s'=some b'->¬(l'=0/\s'=s)/\G.vm l' s'=some b'/\b'<w.heap.size:=by
  intro l' s' b' e;have e:G.vm l' s'=some b':=e;refine⟨?_,e,(h.mr.mine (.inr ⟨_,_,e⟩)).1⟩;rintro⟨rfl,rfl⟩;obtain⟨⟨g,sz,xs,hx⟩,_⟩:=h.mr.vm 0 s' b' e;rw[ar]at hx;cases hx
 have ay:∀o,G.stab w.heap.size o=none:=by
  intro o;cases hs:G.stab w.heap.size o with
  |none=>rfl
  |some v=>
   have:=Ge (h.mr.stab _ _ _ hs);simp at this
 have bC:∀l' s',¬(l'=0/\s'=s)->Qc (Am.put st.m 0 s ob) l' s'=Qc st.m l' s':=by
  intro l' s' hh;rw[QG ψ]
 have bW:Qc (Am.put st.m 0 s ob) 0 s=ob:=Qt (Qoy.2 h.ne);refine⟨⟨⟨?_,?_,?_,?_,?_,?_,?_,?_,?_,?_⟩,h.size,λi=>(h.slots i).mono bO,h.ds.mono bO,?_,?_,WA h.ne⟩,?_⟩
 ·intro b o v e;exact K2 (hold b (Ge (h.mr.stab b o v e))) (h.mr.stab b o v e)
 ·intro l' s' zs e;by_cases hh:l'=0/\s'=s
  ·obtain⟨rfl,rfl⟩:=hh;rw[bW]at e;obtain⟨cs,t,rfl,aD,hl⟩:=gI zs e;exact⟨w.heap.size,cs,by simp[Gh.fresh],Zh.new w cs t aD,hl.mono bO⟩
  ·rw[bC l' s' hh]at e;obtain⟨b',cK,e',hc,hr⟩:=h.mr.cells l' s' zs e;exact⟨b',cK,(Qni (t:=some w.heap.size) hh).trans e',hc.of (hold _ hc.lt),hr.mono (bO.dn l')⟩
 ·intro l' s' b' e;rcases cr l' s' b' e with⟨rfl,rfl,rfl⟩|⟨hh,e',aa⟩
  ·exact⟨by rw[bW];exact cJ,ay⟩
  ·obtain⟨hz,h2⟩:=h.mr.nm l' s' b' e';refine⟨?_,h2⟩;rw[bC l' s' hh];exact hz
 ·intro l' s' g sz zs e;by_cases hh:l'=0/\s'=s
  ·obtain⟨rfl,rfl⟩:=hh;rw[bW]at e;rw[e]at cJ;cases cJ
  ·rw[bC l' s' hh]at e;obtain⟨a1,a2,a3,a4⟩:=h.mr.vec l' s' g sz zs e;refine⟨a1,a2,a3,a4.imp id λ⟨b',e',r⟩=>⟨b',e',r.of (hold _ ?_) λvs hv=>RepL.rfd (G:=G) (G':=G.fresh s w.heap.size) (λ_ _ _ h=>h) a3.rf hv⟩⟩;exact(h.mr.mine (.inr ⟨_,_,e'⟩)).1
 ·intro l' s' b' e;obtain⟨hh,e',aa⟩:=ap l' s' b' e;obtain⟨⟨g,sz,zs,hz⟩,h2⟩:=h.mr.vm l' s' b' e';refine⟨?_,h2⟩;rw[bC l' s' hh,hz];exact⟨_,_,_,rfl⟩
 ·intro l' s' e;by_cases hh:l'=0/\s'=s
  ·obtain⟨rfl,rfl⟩:=hh;exact h.mr.gone 0 s' Ĵ
  ·rw[bC l' s' hh]at e;exact h.mr.gone l' s' e
 ·intro l1 s1 l2 s2 b' e1 e2;rcases cr l1 s1 b' e1 with⟨rfl,rfl,rfl⟩|⟨hh,e',aa⟩<;>rcases cr l2 s2 _ e2 with⟨rfl,rfl,hb⟩|⟨iV,tW,kI⟩
  ·exact⟨rfl,rfl⟩
  ·omega
  ·omega
  ·exact h.mr.inj1 _ _ _ _ _ e' tW
 ·intro l1 s1 l2 s2 b' e1 e2;exact h.mr.inj2 _ _ _ _ _ (ap _ _ _ e1).2.1 (ap _ _ _ e2).2.1
 ·intro l1 s1 l2 s2 b' e1 e2;obtain⟨_,tW,aa⟩:=ap _ _ _ e2;rcases cr l1 s1 b' e1 with⟨rfl,rfl,rfl⟩|⟨hh,e',_⟩
  ·omega
  ·exact h.mr.inj3 _ _ _ _ _ e' tW
 ·intro l' s' t p e;by_cases hh:l'=0/\s'=s
  ·obtain⟨rfl,rfl⟩:=hh;rw[bW]at e;have hx:=pw t p e;subst hx;exact⟨w.heap.size,by simp[Gh.fresh],heap_alloc_new w _⟩
  ·rw[bC l' s' hh]at e;obtain⟨b',e',hc⟩:=h.mr.iter l' s' t p e;exact⟨b',(Qni (t:=some w.heap.size) hh).trans e',(hold _ (h.mr.mine (.inl ⟨_,_,e'⟩)).1).trans hc⟩
 ·intro s' b' e;rcases e with e|e
  ·rcases cr 0 s' b' e with⟨_,_,rfl⟩|⟨_,e',_⟩
   ·exact h.top
   ·exact h.base s' b' (.inl e')
  ·exact h.base s' b' (.inr (ap _ _ _ e).2.1)
 ·have:=h.top;simp;omega
 ·refine⟨rfl,rfl,rfl,ό,λ_ _ _ h=>h,λl' s' og=>?_,bO.vg,bO.vs,λb hb _=>⟨hold b hb,λ_=>rfl⟩,λb hb=>?_,λl s _ h=>.inl ⟨l,s,Qm8 _,h⟩⟩
  ·simp only[Gh.fresh];rw[Qni ψ]
  ·rcases hb with⟨l',s',e⟩|⟨l',s',e⟩
   ·rcases cr l' s' b e with⟨_,_,rfl⟩|⟨_,e',_⟩
    ·exact .inr (Qm8 _)
    ·exact .inl (.inl ⟨_,_,e'⟩)
   ·exact .inl (.inr ⟨_,_,(ap _ _ _ e).2.1⟩)
def Rel.freshN {G:Gh}{B N:Nat}{st:St}{a:Act}{w:World}(h:Rel G B N st a w)(s:Nat)(fD:ZB st.m s=true){l:List AV}{cs:Array Value}(hl:RepL G l cs.toList)(t:TypeId)(aD:Zv s t=true) :
  Rel (G.fresh s w.heap.size) B N { st with m:=Am.put st.m 0 s (.cells l) } a (w.alloc (.cells cs t))/\Ext 1 G w (G.fresh s w.heap.size) (w.alloc (.cells cs t)) :=
 h.freshO s fD rfl (λ_ e=>by cases e;exact⟨cs,t,rfl,aD,hl⟩) (λ_ _ e=>Ú)
def Gh.drop (G:Gh)(s:Nat):Gh :=
 { G with nm:=λl t=>if l=0/\t=s then none else G.nm l t }
def St.drop (st:St)(s:Nat):St :=
 { f:=λi=>(st.f i).scrub s,m:=Am.put (UF s st.m) 0 s .none,ds:=st.ds.map (DF.scrub s) }
def Rel.drop {G:Gh}{B N:Nat}{st:St}{a:Act}{w:World}(h:Rel G B N st a w)(s:Nat)(ae:Gg st.m s=true) :
  Rel (G.drop s) B N (st.drop s) a w/\Ext 1 G w (G.drop s) w:=by
 have bO:Gnew s G (G.drop s):=by
  refine⟨λ_ _ _ h=>h,λl t b hh e=>?_,λ_ _=>Qm8 _,λ_ _ _=>⟨rfl,rfl,rfl⟩⟩;show(if l=0/\t=s then none else G.nm l t)=some b;rw[Qni (λk=>hh k.1 k.2)];exact e
 have tY:∀l,Gle (G.dn (l+1)) ((G.drop s).dn (l+1)):=λl=>by
  refine⟨λ_ _ _ h=>h,λi t b e=>?_,λ_ _=>Qm8 _,λ_ _ _=>⟨rfl,rfl,rfl⟩⟩;show(if i+(l+1)=0/\t=s then none else G.nm (i+(l+1)) t)=some b;rw[Qni ψ];exact e
 have cr:∀l' s' b',(G.drop s).nm l' s'=some b'->¬(l'=0/\s'=s)/\G.nm l' s'=some b':=by
  intro l' s' b' e;have e:(if l'=0/\s'=s then none else G.nm l' s')=some b':=e;split at e
  ·cases e
  ·rename_i hh;exact⟨hh,e⟩
 have bC:∀l' s',¬(l'=0/\s'=s)->Qc (st.drop s).m l' s'=if l'=0 then(Qc st.m l' s').scrub s else Qc st.m l' s':=by
  intro l' s' hh;show Qc (Am.put (UF s st.m) 0 s _) l' s'=_;rw[QG ψ];cases l' with
  |zero=>rw[BT];rfl
  |succ l'=>rw[BU];rfl
 have bW:Qc (st.drop s).m 0 s=.none:=by
  show Qc (Am.put (UF s st.m) 0 s _) 0 s=_;exact Qt (Qoy.2 (V5 h.ne))
 refine⟨⟨⟨h.mr.stab,?_,?_,?_,?_,?_,?_,h.mr.inj2,?_,?_⟩,h.size,λi=>(h.slots i).scrub bO,h.ds.scrub bO,?_,h.top,WA (V5 h.ne)⟩,?_⟩
 ·intro l' s' zs e;by_cases hh:l'=0/\s'=s
  ·obtain⟨rfl,rfl⟩:=hh;rw[bW]at e;cases e
  ·rw[bC l' s' hh]at e;cases l' with
   |zero=>
    rw[Qnj rfl]at e;obtain⟨ys,e1,rfl⟩:=Ob.scrub_cells e;obtain⟨b',cK,e',hc,hr⟩:=h.mr.cells 0 s' ys e1;exact⟨b',cK,(Qni (t:=none) hh).trans e',hc,hr.scrub bO⟩
   |succ l'=>
    rw[Qni ψ]at e;obtain⟨b',cK,e',hc,hr⟩:=h.mr.cells (l'+1) s' zs e;exact⟨b',cK,(Qni (t:=none) hh).trans e',hc,hr.mono (tY l')⟩
 ·intro l' s' b' e;obtain⟨hh,e'⟩:=cr l' s' b' e;obtain⟨hz,h2⟩:=h.mr.nm l' s' b' e';refine⟨?_,h2⟩;rw[bC l' s' hh];cases l' with
  |zero=>rw[Qnj rfl,Ob.scrub_isVar];exact hz
  |succ l'=>rw[Qni ψ];exact hz
 ·intro l' s' g sz zs e;by_cases hh:l'=0/\s'=s
  ·obtain⟨rfl,rfl⟩:=hh;rw[bW]at e;cases e
  ·rw[bC l' s' hh]at e;have e1:Qc st.m l' s'=.vec g sz zs:=by
    cases l' with
    |zero=>rw[Qnj rfl]at e;exact Ob.scrub_vec e
    |succ l'=>rwa [Qni ψ]at e
   obtain⟨a1,a2,a3,a4⟩:=h.mr.vec l' s' g sz zs e1;exact⟨a1,a2,a3,a4.imp id λ⟨b',e',r⟩=>⟨b',e',r.of rfl λvs hv=>RepL.rfd (G:=G) (G':=G.drop s) (λ_ _ _ h=>h) a3.rf hv⟩⟩
 ·intro l' s' b' e;obtain⟨⟨g,sz,zs,hz⟩,h2⟩:=h.mr.vm l' s' b' e;have hh:¬(l'=0/\s'=s):=by
   rintro⟨rfl,rfl⟩;simp[Gg,hz]at ae
  refine⟨?_,h2⟩;rw[bC l' s' hh,hz];cases l' with
  |zero=>exact⟨_,_,_,rfl⟩
  |succ l'=>exact⟨_,_,_,rfl⟩
 ·intro l' s' e;by_cases hh:l'=0/\s'=s
  ·obtain⟨rfl,rfl⟩:=hh;show G.vg 0 s'=0;refine h.mr.gone 0 s' ?_
   revert ae
   unfold Gg;cases Qc st.m 0 s'<;>intro ae<;>first|rfl|cases ae
  ·rw[bC l' s' hh]at e;refine h.mr.gone l' s' ?_;cases l' with
   |zero=>
    rw[Qnj rfl]at e;cases og:Qc st.m 0 s'<;>rw[og]at e<;>first|rfl|cases e
   |succ l'=>rwa [Qni ψ]at e
 ·intro l1 s1 l2 s2 b' e1 e2;exact h.mr.inj1 _ _ _ _ _ (cr _ _ _ e1).2 (cr _ _ _ e2).2
 ·intro l1 s1 l2 s2 b' e1 e2;exact h.mr.inj3 _ _ _ _ _ (cr _ _ _ e1).2 e2
 ·intro l' s' t p e;by_cases hh:l'=0/\s'=s
  ·obtain⟨rfl,rfl⟩:=hh;rw[bW]at e;cases e
  ·rw[bC l' s' hh]at e;have e1:Qc st.m l' s'=.iter t p:=by
    cases l' with
    |zero=>rw[Qnj rfl]at e;exact Ob.scrub_iter e
    |succ l'=>rwa [Qni ψ]at e
   obtain⟨b',e',hc⟩:=h.mr.iter l' s' t p e1;exact⟨b',(Qni (t:=none) hh).trans e',hc⟩
 ·intro s' b' e;rcases e with e|e
  ·exact h.base s' b' (.inl (cr _ _ _ e).2)
  ·exact h.base s' b' (.inr e)
 ·refine⟨rfl,rfl,rfl,Qm8 _,λ_ _ _ h=>h,λl' s' og=>?_,bO.vg,bO.vs,λb hb _=>⟨rfl,λ_=>rfl⟩,λb hb=>?_,λl s _ h=>.inl ⟨l,s,Qm8 _,h⟩⟩
  ·show(if l'=0/\s'=s then none else G.nm l' s')=G.nm l' s';rw[Qni ψ]
  ·rcases hb with⟨l',s',e⟩|⟨l',s',e⟩
   ·exact .inl (.inl ⟨_,_,(cr _ _ _ e).2⟩)
   ·exact .inl (.inr ⟨_,_,e⟩)
section
variable {P:Program}{N:Nat}{st:St}{Q:St->Prop}
theorem QA.allocN {d:Option Nat}{s:Nat}{z:List AV}{its:List Item}(hn:ZB st.m s=true)(h:QA P N its { st with m:=Am.put st.m 0 s (.cells z),f:=Ql st.f d (.ptr 0 s 0) } Q):QA P N (⟨d,.allocN s z,none⟩ :: its) st Q:=by
 refine QA.step rfl λG B a w o hr hd aW hc K QQ hK=>?_
 cases ho:o.op<;>rw[ho]at hc<;>simp only[Zi,Qnu]at hc;rename_i e;split at hc
 ·rename_i i hi;split at hc
  ·rename_i zv hz;rw[Qnz]at hc;obtain⟨aH,he⟩:=hr.freshN s hn (l:=z) (cs:=zv.cells) (isCL_ok hc.1) e hc.2;have af:(execOp a.eval o).run P w=.ok (.value (.pointer (some ⟨w.heap.size,0,none⟩))) (w.alloc (.cells zv.cells e)):=by
    simp only[execOp,ho,Instr.alloc,zeroValue,typeInfo,Sem.run_bind,run_program,Result.andThen_ok,hi,Sem.run_pure,hz,newVar,newRow,run_newObj];rfl
   exact zw
  ·cases hc
 ·cases hc
theorem QA.boxN {d:Option Nat}{s:Nat}{r:RA}{its:List Item}(hn:ZB st.m s=true)(hl:(r.ev st.f).cells.all AV.leaf=true)(h:QA P N its { st with m:=Am.put st.m 0 s (.cells (r.ev st.f).cells),f:=Ql st.f d (.ptr 0 s 0) } Q) :
  QA P N (⟨d,.boxN s r,none⟩ :: its) st Q:=by
 refine QA.step rfl λG B a w o hr hd aW hc K QQ hK=>?_
 cases ho:o.op<;>rw[ho]at hc<;>simp only[Zi,Qnu]at hc;rename_i e x;rw[Qnz]at hc;obtain⟨aH,he⟩:=hr.freshN s hn ((Qx hr hc.1).cells hl) e hc.2;have af:(execOp a.eval o).run P w=.ok (.value (.pointer (some ⟨w.heap.size,0,none⟩))) (w.alloc (.cells (a.eval x).cells e)):=by
  simp only[execOp,ho,Instr.box,newVar,newRow,Sem.run_bind,run_newObj,Result.andThen_ok,Sem.run_pure];rfl
 exact zw
end
def ZG (sz:Nat):Nat->List AV->List AV
 |0,_=>[]
 |n+1,y=>(if sz=1 then y.headD .top else .agg (y.take sz)) :: ZG sz n (y.drop sz)
def Zj (z:List AV)(sz len:Nat):List AV:=(List.range (len*sz)).map λi=>(z[i % sz]?).getD .top
def Dn (sz n:Nat)(y:List AV):(ZG sz n y).length=n:=by
 induction n generalizing y with
 |zero=>rfl
 |succ n ih=>simp[ZG,ih]
def AV.leaf_cells {x:AV}(h:x.leaf=true):x.cells=[x]:=by
 cases x<;>first|rfl|cases h
def B8 (sz n:Nat)(y:List AV)(hl:y.length=n*sz)(hy:y.all AV.leaf=true):QU (ZG sz n y)=y:=by
 induction n generalizing y with
 |zero=>
  have:y=[]:=Qoh Ä;subst this;rfl
 |succ n ih=>
  have hd:(y.drop sz).length=n*sz:=by rw[QnS,hl,QnM,Nat.one_mul];omega
  have ub:(y.drop sz).all AV.leaf=true:=ZA hy λx hx=>QnY hx
  rw[ZG,Zq,ih _ hd ub];split
  ·rename_i h1;subst h1;cases y with
   |nil=>simp at hl
   |cons x y=>
    have:x.leaf=true:=by simp only[Qoo,Qnz]at hy;exact hy.1
    simp[AV.leaf_cells this]
  ·exact Qou sz y
def B9 (sz n:Nat)(y:List AV)(hl:y.length=n*sz)(hy:y.all AV.leaf=true):∀x∈ZG sz n y,x.cells.length=sz:=by
 induction n generalizing y with
 |zero=>intro x hx;cases hx
 |succ n ih=>
  have hd:(y.drop sz).length=n*sz:=by rw[QnS,hl,QnM,Nat.one_mul];omega
  have ub:(y.drop sz).all AV.leaf=true:=ZA hy λx hx=>QnY hx
  intro x hx;rw[ZG]at hx;rcases Qoz.1 hx with rfl|hx
  ·split
   ·rename_i h1;subst h1;cases y with
    |nil=>simp at hl
    |cons x y=>
     have:x.leaf=true:=by simp only[Qoo,Qnz]at hy;exact hy.1
     simp[AV.leaf_cells this]
   ·show(y.take sz).length=sz;rw[Qn8,hl,QnM,Nat.one_mul];omega
  ·exact ih _ hd ub x hx
def HA {f:Fr}:∀ {ps:List (Nat×Nat×RA)} {z y:List AV},fill f ps z=some y->y.length=z.length
 | [],z,y,h=>by cases h;rfl
 |(o,n,r) :: ps,z,y,h=>by
  simp only[fill]at h;split at h
  ·rename_i hh;rw[HA h,G9 ψ]
  ·cases h
section
variable {P:Program}{G:Gh}{B N:Nat}{st:St}{a:Act}{w:World}
theorem Bg (h:Rel G B N st a w){sz:Nat}:∀ {xs:List (Nat×Operand)} {rs:List (Nat×Nat×RA)} {z y:List AV} {cs:Array Value},WO sz xs rs=true->RepL G z cs.toList->fill st.f rs z=some y->
  ∃cK,Instr.fill (λi=>some (i*sz,sz)) cs (xs.map λ(i,x)=>(i,a.eval x))=some cK/\RepL G y cK.toList
 | [],[],z,y,cs,_,hz,hf=>by cases hf;exact⟨cs,rfl,hz⟩
 |(i,x) :: xs,(o,n,r) :: rs,z,y,cs,hc,hz,hf=>by
  simp only[WO,Qnz,Qng]at hc;simp only[fill]at hf;obtain⟨⟨⟨rfl,rfl⟩,xn⟩,hc⟩:=hc;split at hf
  ·rename_i hh;obtain⟨h1,h2,h3⟩:=hh;have hr:=(Qx h xn).cells h3;have hl:=hr.length;have fO:=hz.length;simp only[QnH]at hl fO;have dU:=Yb (i*n) (a.eval x).cells.toList 0 cs Λ;simp only[QnI]at dU;have aX:((a.eval x).cells.zipIdx.foldl (λcs (c,j)=>cs.setIfInBounds (i*n+j) c) cs).toList=cs.toList.take (i*n)++(a.eval x).cells.toList++cs.toList.drop (i*n+(a.eval x).cells.toList.length):=by
    exact OQ
   obtain⟨cK,h4,h5⟩:=Bg h (cs:=(a.eval x).cells.zipIdx.foldl (λcs (c,j)=>cs.setIfInBounds (i*n+j) c) cs) hc (by rw[aX];exact hz.splice hr (i*n)) hf;refine⟨cK,?_,h5⟩;simp only[QnJ,Instr.fill];rw[Qni Ϗ];exact h4
  ·cases hf
 | [],_ :: _,_,_,_,hc,_,_=>by simp[WO]at hc
 |_ :: _,[],_,_,_,hc,_,_=>by simp[WO]at hc
end
def nn0:AV->AV
 |.nils=>.list []
 |x=>x
def Rep.nn0 {G:Gh}{x:AV}{v:Value}(h:Rep G x v):Rep G (nn0 x) v:=by
 unfold Am.nn0;split
 ·cases h;exact zF
 ·exact h
def RepL.nn0 {G:Gh}:∀ {l:List AV} {vs:List Value},RepL G l vs->RepL G (l.map nn0) vs
 | [],_,h=>h
 |_ :: _,_,h=>by
  cases h with
  |cons h t=>exact .cons h.nn0 t.nn0
def Qe0 {x:AV}(h:x.rf=true):(nn0 x).rf=true:=by
 unfold Am.nn0;split
 ·rfl
 ·exact h
def Qag {x:AV}(h:x.leaf=true):(nn0 x).leaf=true:=by
 unfold Am.nn0;split
 ·rfl
 ·exact h
def Vo:∀ {l:List AV},AV.rfL l=true->AV.rfL (l.map nn0)=true
 | [],_=>rfl
 |x :: l,h=>by
  simp only[AV.rfL,Qnz]at h;simp only[QnJ,AV.rfL,Qnz];exact⟨Qe0 h.1,Vo h.2⟩
def Sp {l:List AV}(h:l.all AV.leaf=true):(l.map nn0).all AV.leaf=true:=by
 rw[Qno]at h |-;intro x hx;obtain⟨y,hy,rfl⟩:=Qox.1 hx;exact Qag (h y hy)
section
variable {P:Program}{N:Nat}{st:St}{Q:St->Prop}
theorem QA.bsl {d:Option Nat}{sz len:Nat}{z:List AV}{ps:List (Nat×Nat×RA)}{its:List Item}{y:List AV}(hy:fill st.f ps (Zj z sz len)=some y)(hf:AV.rfL y=true)(hl:y.all AV.leaf=true)
  (h:QA P N its { st with f:=Ql st.f d (.list (ZG sz len (y.map nn0))) } Q):QA P N (⟨d,.bsl sz len z ps,none⟩ :: its) st Q:=by
 refine QA.step rfl λG B a w o hr hd aW hc K QQ hK=>?_
 cases ho:o.op<;>rw[ho]at hc<;>simp only[Zi,Qnu,Qnz,Qng,QnE,Qnf]at hc;rename_i t n Qo;obtain⟨⟨⟨⟨⟨rfl,nf⟩,e_⟩,jA⟩,aD⟩,io⟩:=hc;cases hu:P.underlying t with
 |none=>simp[hu]at aD
 |some dd=>
  cases dd with
  |slice e=>
   simp only[hu,Qob,Qnz,Qng]at aD;obtain⟨i,hi,rfl,hz⟩:=aD;cases cm:i.zero with
   |none=>rw[cm]at hz;cases hz
   |some zv=>
    rw[cm]at hz;simp only[Qnz,Qng]at hz;have rz:RepL G z zv.cells.toList:=isCL_ok hz.1;have fO:zv.cells.size=i.size:=by
     have:=rz.length;simp only[QnH]at this;omega
    have r0:RepL G (Zj z i.size n) ((Array.range (n*i.size)).map (zv.cells[· % zv.cells.size]!)).toList:=by
     exact zh
    obtain⟨cs,j6,jU⟩:=Bg hr io r0 hy;have aj:=jU.nn0;have hf:=Vo hf;have hl:=Sp hl;have p_:(y.map nn0).length=n*i.size:=by rw[Qn6,HA hy];simp[Zj]
    have aq:n*i.size≠0:=Nat.mul_ne_zero jA e_;have af:(execOp a.eval o).run P w=.ok (.value (.slice (some ⟨w.heap.size,0,none⟩) n n)) (w.alloc (.cells cs e)):=by
     exact zC
    let stab':Nat->Nat->Option SV:=λb k=>if b=w.heap.size then(cs[k]?).map .cell else G.stab b k
    have aa:∀b k v,G.stab b k=some v->b<w.heap.size:=λb k v e=>Ge (hr.mr.stab b k v e)
    have hold:∀b,b<w.heap.size->(w.alloc (.cells cs e)).heap[b]? = w.heap[b]?:=λb hb=>RowKit.Below.heap_alloc w _ b hb
    have hg:∀b k v,G.stab b k=some v->stab' b k=some v:=λb k v e=>by
     have:=aa b k v e;show(if b=w.heap.size then(cs[k]?).map .cell else G.stab b k)=some v;rw[Qni ψ];exact e
    have hs:∀b k v,stab' b k=some v->rd (w.alloc (.cells cs e)) b k v:=λb k v e'=>by
     by_cases hb:b=w.heap.size
     ·subst hb;have e2:(cs[k]?).map SV.cell=some v:=(Qnj rfl).symm.trans e';cases hk:cs[k]? with
      |none=>rw[hk]at e2;cases e2
      |some u=>
       rw[hk]at e2;cases e2;show World.cell? _ _=some u;rw[(Zh.new (s:=0) w cs e rfl).cell];exact hk
     ·have e2:G.stab b k=some v:=(Qni hb).symm.trans e';exact K2 (hold b (aa b k v e2)) (hr.mr.stab b k v e2)
    have hm:∀b,G.mine b->∀k,stab' b k=none:=λb hb k=>by
     have:=(hr.mr.mine hb).1;show(if b=w.heap.size then(cs[k]?).map .cell else G.stab b k)=none;rw[Qni ψ];exact(hr.mr.mine hb).2 k
    have bV:=hr.mr.kept hold hs hg hm;have fX:Ext 0 G w (G.with stab' hg) (w.alloc (.cells cs e)):=Ext.bare (w:=w) (w':=w.alloc (.cells cs e)) (stab':=stab') rfl rfl rfl ό hold hg λb hb k=>Qni (Nat.ne_of_lt hb)
    unfold Oper.wp;rw[af];have aY:o.dst=d:=hd;show K (a.put o.dst _) _;rw[aY];refine hK _ _ _ _ h ((hr.after bV fX rfl).put aW ?_) (fX.mono (Qnk _));have dR:=B8 i.size n _ p_ hl;refine .list (cs:=cs.toList) (sz:=i.size) ?_ (B9 i.size n _ p_ hl) (by rw[dR];exact hf) (by rw[dR];exact hl) (λj u gX=>?_) (Dn i.size n _).symm (Qm8 _) ?_
    ·rw[dR];exact aj.mono fX.gle
    ·refine⟨w.heap.size,0,rfl,?_⟩;show(if w.heap.size=w.heap.size then(cs[0+j]?).map SV.cell else _)=some (SV.cell u);rw[Qnj rfl,QnA];have lN:cs[j]? = some u:=by simpa using gX
     rw[lN];rfl
    ·have:n<=n*i.size:=Nat.le_mul_of_pos_right n ψ;simp only[maxLen];omega
  |_=>simp[hu]at aD
theorem QA.bslv {d:Option Nat}{site sz len:Nat}{z:List AV}{ps:List (Nat×Nat×RA)}{its:List Item}{y:List AV}(hy:fill st.f ps (Zj z sz len)=some y)(hf:AV.rfL y=true)(hl:y.all AV.leaf=true)(ak:Qn (Qc st.m 0 site)=true)
  (h:QA P N its { st with m:=Am.put st.m 0 site (.vec (QB st.m 0 site) sz (ZG sz len (y.map nn0))),f:=Ql st.f d (.vec 0 site (QB st.m 0 site) 0 len false) } Q):QA P N (⟨d,.bslv site sz len z ps,none⟩ :: its) st Q:=by
 refine QA.step rfl λG B a w o hr hd aW hc K QQ hK=>?_
 cases ho:o.op<;>rw[ho]at hc<;>simp only[Zi,Qnu,Qnz,Qng,QnE,Qnf]at hc;rename_i t n Qo;obtain⟨⟨⟨⟨⟨rfl,nf⟩,e_⟩,jA⟩,aD⟩,io⟩:=hc;cases hu:P.underlying t with
 |none=>simp[hu]at aD
 |some dd=>
  cases dd with
  |slice e=>
   simp only[hu,Qob,Qnz,Qng]at aD;obtain⟨⟨i,hi,rfl,hz⟩,dY⟩:=aD;cases cm:i.zero with
   |none=>rw[cm]at hz;cases hz
   |some zv=>
    rw[cm]at hz;simp only[Qnz,Qng]at hz;have rz:RepL G z zv.cells.toList:=isCL_ok hz.1;have fO:zv.cells.size=i.size:=by
     have:=rz.length;simp only[QnH]at this;omega
    have r0:RepL G (Zj z i.size n) ((Array.range (n*i.size)).map (zv.cells[· % zv.cells.size]!)).toList:=by
     exact zh
    obtain⟨cs,j6,jU⟩:=Bg hr io r0 hy;have aj:=jU.nn0;have hf:=Vo hf;have hl:=Sp hl;have p_:(y.map nn0).length=n*i.size:=by rw[Qn6,HA hy];simp[Zj]
    have aq:n*i.size≠0:=Nat.mul_ne_zero jA e_;have af:(execOp a.eval o).run P w=.ok (.value (.slice (some ⟨w.heap.size,0,none⟩) n n)) (w.alloc (.cells cs e)):=by
     exact zC
    have iA:cs.size=n*i.size:=by
     have:=aj.length;simp only[QnH]at this;omega
    have dR:=B8 i.size n _ p_ hl;have aM:=Dn i.size n (y.map nn0);have cr:n<=maxLen:=by
     have:n<=n*i.size:=Nat.le_mul_of_pos_right n ψ;simp only[maxLen];omega
    have ae:RowIs G site (w.alloc (.cells cs e)) w.heap.size n i.size (ZG i.size n (y.map nn0)):=by
     refine⟨⟨cs,Zh.new w _ e dY,iA,?_⟩,by rw[aM];exact Qm8 _,cr⟩;rw[dR,aM,QnL (by rw[QnH,iA];exact Qm8 _)];exact aj
    have eh:Elems i.size (ZG i.size n (y.map nn0)):=⟨B9 i.size n _ p_ hl,by rw[dR];exact hf,by rw[dR];exact hl⟩;have fC:=Ko hr.mr ak;have fF:0<st.m.length:=Qoy.2 hr.ne;obtain⟨aH,he⟩:=hr.vecput (w':=w.alloc (.cells cs e)) (cap:=n) (b:=some w.heap.size) fF ak fC rfl rfl rfl ό (λk hk _=>RowKit.Below.heap_alloc w _ k hk) (λk e=>Ô) eh (.inr ⟨_,rfl,ae⟩);unfold Oper.wp;rw[af];have aY:o.dst=d:=hd;show K (a.put o.dst _) _;rw[aY];exact hK _ _ _ _ h (aH.put aW (.vec rfl (QnV Ϧ) λ_=>.inr ⟨w.heap.size,⟨w.heap.size,0,none⟩,n,Ϧ,Ϧ,rfl,Qm8 _,cr,λ_=>Ϧ,λ_=>ό⟩)) he
  |_=>simp[hu]at aD
theorem QA.bsl0 {d:Option Nat}{site sz:Nat}{its:List Item}(ak:Qn (Qc st.m 0 site)=true)
  (h:QA P N its { st with m:=Am.put st.m 0 site (.vec (QB st.m 0 site) sz []),f:=Ql st.f d (.vec 0 site (QB st.m 0 site) 0 0 false) } Q):QA P N (⟨d,.bsl0 site sz,none⟩ :: its) st Q:=by
 refine QA.step rfl λG B a w o hr hd aW hc K QQ hK=>?_
 cases ho:o.op<;>rw[ho]at hc<;>simp only[Zi,Qnu,Qnz,Qng]at hc;rename_i t n Qo;obtain⟨⟨rfl,oD⟩,aD⟩:=hc;have tf:Qo = #[]:=Array.isEmpty_iff.1 oD;subst tf;cases hu:P.underlying t with
 |none=>simp[hu]at aD
 |some dd=>
  cases dd with
  |slice e=>
   simp only[hu,Qob,Qnz,Qng]at aD;obtain⟨⟨i,hi,rfl⟩,dY⟩:=aD;have af:(execOp a.eval o).run P w=.ok (.value (.slice (some ⟨w.heap.size,0,none⟩) 0 0)) (w.alloc (.cells #[] e)):=by
    have e0:Array.range 0 = #[]:=rfl;simp[execOp,ho,Instr.buildSlice,Sem.run_bind,run_underlying hu,Result.andThen_ok,X7 hi,Instr.fill,newRow,e0]
   have ae:RowIs G site (w.alloc (.cells #[] e)) w.heap.size 0 i.size []:=⟨⟨#[],Zh.new w _ e dY,ό,by simp[QU];exact .nil⟩,Qm8 _,Qnk _⟩;have eh:Elems i.size []:=⟨ό,rfl,rfl⟩;have fC:=Ko hr.mr ak;have fF:0<st.m.length:=Qoy.2 hr.ne;obtain⟨aH,he⟩:=hr.vecput (w':=w.alloc (.cells #[] e)) (cap:=0) (b:=some w.heap.size) fF ak fC rfl rfl rfl ό (λk hk _=>RowKit.Below.heap_alloc w _ k hk) (λk e=>Ô) eh (.inr ⟨_,rfl,ae⟩);unfold Oper.wp;rw[af];have aY:o.dst=d:=hd;show K (a.put o.dst _) _;rw[aY];exact hK _ _ _ _ h (aH.put aW (.vec rfl (QnV Ϧ) λ_=>.inr ⟨w.heap.size,⟨w.heap.size,0,none⟩,0,Ϧ,Ϧ,rfl,Qm8 _,Qnk _,λ_=>Ϧ,λ_=>ό⟩)) he
  |_=>simp[hu]at aD
theorem Dd {w:World}{t e:TypeId}(hu:P.underlying t=some (.slice e))(A:Option Addr)(n c:Nat):(binOp .eql t (.slice A n c) (.slice none 0 0)).run P w=.ok (.bool A.isNone) w/\(binOp .neq t (.slice A n c) (.slice none 0 0)).run P w=.ok (.bool (!A.isNone)) w:=by
 have h:∀d:Nat,(Op.equalIn (d+1) t (.slice A n c) (.slice none 0 0)).run P w=.ok A.isNone w:=λd=>by
  cases A<;>simp[Op.equalIn,run_underlying hu]
 exact Oo
theorem QA.appc {d:Option Nat}{site sz bytes el:Nat}{s r:RA}{its:List Item}{xs ys:List AV}(hs:s.ev st.f=.lcap xs)(hy:Xc st.m (r.ev st.f)=some ys)(aq:ys≠[])(ix:xs.all (λe=>e.cells.length==sz)=true)(aX:ys.all (λe=>e.cells.length==sz)=true)
  (bP:xs.length+ys.length<=maxLen) (hb:(xs.length+ys.length)*bytes<=140737488355328) (ak:Qn (Qc st.m 0 site)=true)
  (h:QA P N its { st with m:=Am.put st.m 0 site (.vec (QB st.m 0 site) sz (xs++ys)),f:=Ql st.f d (.vec 0 site (QB st.m 0 site) 0 (xs.length+ys.length) false) } Q):QA P N (⟨d,.appc site sz bytes el s r,none⟩ :: its) st Q:=by
 refine QA.step rfl λG B a w o hr hd aW hc K QQ hK=>?_
 cases ho:o.op<;>rw[ho]at hc<;>simp only[Zi,Qnu]at hc;rename_i cl;split at hc
 case h_2=>cases hc
 rename_i o1 x y t t' o2;cases o2;simp only[Qnz,Qng]at hc;obtain⟨⟨⟨rfl,aD⟩,fg⟩,lu⟩:=hc;cases hu:P.underlying t with
 |none=>simp[hu]at aD
 |some dd=>
  cases dd with
  |slice e=>
   simp only[hu,Qnz,Qob,QnE,Qng]at aD;obtain⟨⟨⟨⟨i,hi,⟨rfl,rfl⟩,hz⟩,e_⟩,rfl⟩,dY⟩:=aD;cases cm:i.zero with
   |none=>rw[cm]at hz;cases hz
   |some zv=>
    rw[cm]at hz;simp only[Qng]at hz;have rs:=Qx hr fg;rw[hs]at rs;obtain⟨A,c,h_,eG,cs,aj,aJ,aR⟩:=Yc hr hy (Qx hr lu);have bB:∀u∈ys,u.cells.length=i.size:=λu hu=>by simpa using Qno.1 aX u hu
    have lK:∀u∈xs,u.cells.length=i.size:=λu hu=>by simpa using Qno.1 ix u hu
    have aM:cs.length=ys.length*i.size:=by rw[aj.length,WB bB]
    have dv:∀u∈cs,u.oneCell'=true:=aj.leaves aJ.leaf;have ux:0<ys.length:=Qoy.2 aq;have bD:Src P i.size t (.slice A ys.length c) ys.length cs w:=by
     cases cs with
     |nil=>
      have h0:ys.length=0:=by
       exact OT
      omega
     |cons u0 us=>
      obtain⟨b,o',rfl,_⟩:=aR 0 u0 rfl;refine Src.ofSlice (w:=w) hu ⟨b,o',none⟩ ys.length c (u0 :: us) aM (λj u hj=>?_) dv;obtain⟨b',x7,e,bN⟩:=aR j u hj;cases e;rw[Za];exact bN
    revert rs
    generalize iD:a.eval x=v;intro rs;cases rs with
    |lcap mL hz0 yP fF fk kP nD=>
     rename_i kn A0 n0 sz0;subst kP;have p8:kn.length=xs.length*i.size:=by rw[mL.length,WB lK]
     have hold:(Builtin.firstCells i.size xs.length (.slice A0 xs.length xs.length)).run P w.drew=.ok kn.toArray w.drew:=by
      cases A0 with
      |none=>
       have:kn=[]:=by
        cases kn with
        |nil=>rfl
        |cons u us=>
         obtain⟨b,o',e,_⟩:=fk 0 u rfl;cases e
       subst this;exact run_firstCells_none w.drew i.size _ _ _
      |some ad=>
       refine run_firstCells_some w.drew i.size xs.length ad _ _ kn p8 λj u hj=>?_
       obtain⟨b,o',e,ay⟩:=fk j u hj;cases e;show w.cell? _=_;rw[Za];exact hr.mr.stab _ _ _ ay
     have u5:xs.length+ys.length<=9223372036854775807:=by simp only[maxLen]at bP;omega
     have af:=run_append_grow_src (P:=P) w t t o.type e i zv hu hi cm A0 xs.length xs.length kn hold (.slice A ys.length c) ys.length cs bD ψ ψ (growslice_fits ψ hb);have fU:=grownCap_ge w (xs.length+ys.length) xs.length e;have dI:=grownCap_le_maxLen w (xs.length+ys.length) xs.length e bP;generalize bm:grownCap w (xs.length+ys.length) xs.length e=cap at af fU dI;have hlen:(kn++cs).length=(xs++ys).length*i.size:=by rw[QnP,p8,aM,QnP,QnM]
     have ae:RowIs G site (w.drew.alloc (.cells ((kn++cs).toArray++Builtin.zeroCells zv.cells (cap-(xs.length+ys.length))) e)) w.heap.size cap i.size (xs++ys):=by
      refine⟨⟨_,Zh.new w.drew _ e dY,?_,?_⟩,by rw[QnP];exact fU,dI⟩
      ·simp only[Array.size_append,Qog,size_zeroCells,hz,hlen,QnP,<-QnM];congr 1
       omega
      ·simp only[Array.toList_append];rw[<-hlen,List.take_left,Js];exact mL.append aj
     have eh:Elems i.size (xs++ys):=by
      refine⟨λu hu=>?_,?_,?_⟩
      ·rcases Qow.1 hu with hu|hu
       ·exact lK u hu
       ·exact bB u hu
      ·rw[Js,Wl,yP,aJ.rf];rfl
      ·rw[Js,Qov,fF,aJ.leaf];rfl
     have fC:=Ko hr.mr ak;have s5:0<st.m.length:=Qoy.2 hr.ne;obtain⟨aH,he⟩:=hr.vecput (w':=w.drew.alloc (.cells ((kn++cs).toArray++Builtin.zeroCells zv.cells (cap-(xs.length+ys.length))) e)) (cap:=cap) (b:=some w.heap.size) s5 ak fC rfl rfl rfl ό (λk hk _=>RowKit.Below.heap_alloc w.drew _ k hk) (λk e=>Ô) eh (.inr ⟨_,rfl,ae⟩);have az:(execOp a.eval o).run P w=.ok (.value (.slice (some ⟨w.heap.size,0,none⟩) (xs.length+ys.length) cap)) (w.drew.alloc (.cells ((kn++cs).toArray++Builtin.zeroCells zv.cells (cap-(xs.length+ys.length))) e)):=by
      simp only[execOp,ho,resolve,invoke,builtin,Sem.run_bind,Sem.run_pure,Result.andThen_ok,Qoc,QnJ,Qod,h_,iD,af]
     unfold Oper.wp;rw[az];have aY:o.dst=d:=hd;show K (a.put o.dst _) _;rw[aY];exact hK _ _ _ _ h (aH.put aW (.vec rfl (QnV Ϧ) λ_=>.inr ⟨w.heap.size,⟨w.heap.size,0,none⟩,cap,Ϧ,by simp[Gh.row];exact fU,rfl,fU,dI,λ_=>Ϧ,λ_=>ό⟩)) he
  |_=>simp[hu]at aD
theorem QA.isnil {d:Option Nat}{neg:Bool}{r:RA}{its:List Item}{ys:List AV}(hx:Xc st.m (r.ev st.f)=some ys)
  (h0:r.ev st.f≠.nils->QA P N its { st with f:=Ql st.f d (.bool neg) } Q) (h1:(r.ev st.f=.nils\/QU ys=[])->QA P N its { st with f:=Ql st.f d (.bool (!neg)) } Q):QA P N (⟨d,.isnil neg r,none⟩ :: its) st Q:=by
 refine QA.step rfl λG B a w o hr hd aW hc K QQ hK=>?_
 cases ho:o.op<;>rw[ho]at hc<;>simp only[Zi,Qnu,Qnz,Qng]at hc;rename_i b t x y yt;obtain⟨⟨⟨aD,rfl⟩,dg⟩,t9⟩:=hc;have qM:=Qx hr dg;obtain⟨A,c,hv,sz,cs,aj,_,aR⟩:=Yc hr hx qM;have oM:=Qx hr t9;have h_:a.eval y=.slice none 0 0:=by
  revert oM
  generalize a.eval y=u;intro oM;have oM:Rep G .nils u:=oM;cases oM;rfl
 split at aD
 case h_2=>cases aD
 rename_i e hu;have aY:o.dst=d:=hd;have mU:(eqGuard (bif neg then .neq else .eql) t x y (a.eval x) (a.eval y)).run P w=.ok () w:=by
  rw[hv,h_];cases neg<;>simp[eqGuard]
 have fin:∀q:Bool,QA P N its { st with f:=Ql st.f d (.bool q) } Q->(binOp (bif neg then .neq else .eql) t (a.eval x) (a.eval y)).run P w=.ok (.bool q) w->o.wp P a w K QQ:=by
  intro q hq af;have az:(execOp a.eval o).run P w=.ok (.value (.bool q)) w:=by
   simp only[execOp,ho,Sem.run_bind,mU,af,Result.andThen_ok];rfl
  unfold Oper.wp;rw[az];show K (a.put o.dst _) w;rw[aY];exact hK _ _ _ _ hq (hr.put aW (.bool _)) (Ext.refl 1 G w)
 have key:(binOp (bif neg then .neq else .eql) t (a.eval x) (a.eval y)).run P w=.ok (.bool (bif A.isNone then !neg else neg)) w:=by
  rw[hv,h_];cases neg
  ·rw[show(bif false then BinOp.neq else .eql)=.eql from rfl,(Dd hu A _ _).1];cases A<;>rfl
  ·rw[show(bif true then BinOp.neq else .eql)=.neq from rfl,(Dd hu A _ _).2];cases A<;>rfl
 cases A with
 |none=>
  refine fin _ (h1 (.inr ?_)) key;have fg:cs=[]:=by
   cases cs with
   |nil=>rfl
   |cons u cs=>
    obtain⟨b,o,e,_⟩:=aR 0 u rfl;cases e
  subst fg;cases hf:QU ys with
  |nil=>rfl
  |cons z zs=>rw[hf]at aj;cases aj
 |some A=>
  refine fin _ (h0 λe=>?_) key;rw[e]at qM;rw[hv]at qM;cases qM
theorem BV.zero {y:Operand}(h:isZ y=true)(a:Act)(d:Nat):BV (some (a.eval y)) d 0:=by
 unfold isZ at h;split at h
 ·rename_i k n;simp only[Qng]at h;subst h;exact .inr ⟨k,0,rfl,QoC _,rfl⟩
 ·cases h
end
end Am
end Go.Proofs.YtmlohboeoeoamaaGreatDoor

/- Parts of the proof, in order. -/
import Derived.Test.YtjjmjopabpakoaaGreatDoorMBase3

set_option linter.unusedSimpArgs false
set_option linter.unusedSectionVars false
namespace Go.Proofs.YtjjmjopabpakoaaGreatDoor.Va
open Go Am Rc Bt Br Up So

theorem QN {fr:Nat→Ob}{s:Nat}{d:List UInt8}{l:List PB}{f:Fr}{K:St→Prop}{d0:Nat}{r0 r1 r2 r3:RA}{Z4:Bool}{n e:Int}(hs:(1100:Nat)≠s)(h0:r0.ev f=.ptr 0 s 0)(h1:r1.ev f=.bool Z4)(h2:r2.ev f=.int .i64 n)(h3:r3.ev f=.int .i64 e)(hl:l.length≤1073741824)
  (hk:K ⟨Qn f d0 (.tup []),[Q7 fr s 1100 d (l++pb d n (!Z4) e)],[]⟩):Ql Tryz.prog [⟨some d0,.callF (.f 50) [r0,r1,r2,r3],none⟩] ⟨f,[Q7 fr s 1100 d l],[]⟩ K :=
 Qc (QQc fr s 1100 d l hs rfl hl n e [] Z4) (by simp only[QVP,QWe,h0,h1,h2,h3]) hk
theorem KD {M:Nat}(hM:M+8≤maxLen){N:List SN}(hN:N.length≤maxLen)(hn:∀x∈N,x.ok M){fr:Nat→Ob}{s:Nat}{d:List UInt8}{l:List PB}{f:Fr}{K:St→Prop}{d0:Nat}{r0 r1 r2 r3:RA}{n t:Int}(hs:(1100:Nat)≠s)(h0:r0.ev f=.ptr 0 s 0)(h1:r1.ev f=.list (N.map fun x=>.agg x.cells))(h2:r2.ev f=.int .i64 t)(h3:r3.ev f=.int .i64 n)(ht:t∈W0)(hl:l.length≤1073741824)
  (hk:K ⟨Qn f d0 (.tup []),[Q7 fr s 1100 d (l++XJ d n N t)],[]⟩):Ql Tryz.prog [⟨some d0,.callF (.f 94) [r0,r1,r2,r3],none⟩] ⟨f,[Q7 fr s 1100 d l],[]⟩ K :=
 Qc (QQd fr s 1100 d l hs rfl hl n [] hM N hN hn t ht) (by simp only[QVP,QWe,h0,h1,h2,h3]) hk
def JR (its:List Am.Item)(fr:Nat→Ob)(s:Nat)(d:List UInt8)(fl:List (Nat×AV))(p:List PB):Prop :=
 ∀(l:List PB) (f:Fr) (K:St→Prop),l.length≤1073741824→Hd f fl→(∀f,Hd f fl→K ⟨f,[Q7 fr s 1100 d (l++p)],[]⟩)→Ql Tryz.prog its ⟨f,[Q7 fr s 1100 d l],[]⟩ K
def ZE (Fb:List Bool)(i:Nat)(tw:Bool):List (Nat×AV):=[(2,.list (Fb.map AV.bool)),(3,.ptr 0 3 0),(4,.ptr 0 4 0),(7,.ptr 0 7 0),(8,.int .i64 (i:Nat)),(9,.ptr 0 9 0),(10,.bool tw)]

section
variable {M:Nat}(hM:M≤1048576)(S:SC)(hS:S.ok M)(m:SM)(hm:m.ok M)(Fb:List Bool)(i:Nat)(x:SF)(hi:m.fields[i]? = some x)(tw:Bool)(fr:Nat→Ob)
 (o3:fr 3=.cells [.list (S.msgs.map fun n=>.agg n.cells),.list (S.enums.map fun n=>.agg n.cells),.list (S.servs.map fun n=>.agg n.cells)]) (o4:fr 4=.cells m.cells) (o9:fr 9=.cells x.cells)

include o9 in
theorem QQe:JR BB fr 7 m.name (ZE Fb i tw) (pb m.name x.num (decide (x.num≥1)&&decide (x.num≤65535)) 6):=by
 rintro l f K hl ⟨h2,h3,h4,h7,h8,h9,h10,-⟩ hK;rw[QL]at o9;have hb:(decide (x.num≥1)&&decide (x.num≤65535))=!(decide (x.num<1)||decide (x.num > 65535)):=(by rw[QV7];simp only[QWA,QV9,QXc,QVF,QV6];omega);rw[hb]at hK;simp only[BB,QA,h9,o9,eE,seval];cases c1:decide (x.num<1)<;>cases c2:decide (x.num > 65535) <;>
 ·rw[c1,c2]at hK;simp only[c2,QA,h9,o9,eE,seval];exact QN (by decide) (by exact h7) rfl rfl rfl hl (hK _ (by simp only[Hd,ZE,QWh,h2,h3,h4,h7,h8,h9,h10,Qa,seval]))

include o4 o9 hi hM hm in
theorem QQf:JR Gg fr 7 m.name (ZE Fb i tw) (pb m.name x.num (Kv m.fields SF.num i x) 11):=by
 rintro l f K hl ⟨h2,h3,h4,h7,h8,h9,h10,-⟩ hK;rw[QL]at o9;rw[XL]at o4;have hlt:i<m.fields.length:=(QVk.1 hi).1;have hl1:=hm.len1;cases i with
 |zero=>
  have d0:decide (((0:Nat):Int) > 0)=false:=rfl;simp only[Gg,QA,h8,h9,o9,eE,seval];exact QN (by decide) (by exact h7) rfl rfl rfl hl (hK _ (by simp only[Hd,ZE,QWh,h2,h3,h4,h7,h8,h9,h10,Qa,seval]))
 |succ j=>
  obtain⟨y,hj⟩:∃y,m.fields[j]? = some y:=⟨m.fields[j]'(by omega),QVl (by omega)⟩;have hgj:(m.fields.map fun n=>AV.agg n.cells)[j]? = some (.agg y.cells):=by rw[QWB,hj];rfl
  rw[QL]at hgj;have wj:=KA j _ hlt (by simp only[maxLen];omega);have d0:decide (((j+1:Nat):Int) > 0)=true:=QXb (by omega);have hb:decide (x.num > y.num)=!decide (x.num≤y.num):=(by rw[QV7];simp only[QWA,QV9,QXc];omega);simp only[Kv,hj,hb]at hK;simp only[Gg,QA,Qd,QWH,Qb,hgj,wj,h4,h8,h9,o4,o9,d0,eE,seval];exact QN (by decide) (by exact h7) rfl rfl rfl hl (hK _ (by simp only[Hd,ZE,QWh,h2,h3,h4,h7,h8,h9,h10,Qa,seval]))

include o9 in
theorem QQg:JR BC fr 7 m.name (ZE Fb i tw) (pb m.name x.num (Xo x.name) 8):=by
 rintro l f K hl ⟨h2,h3,h4,h7,h8,h9,h10,-⟩ hK;rw[QL]at o9;rw[←QXm (Xo x.name)]at hK;simp only[BC,QA,h9,o9,eE,seval];refine aC (IE x.name) ?_;simp only[QA,h9,o9,eE,seval];exact QN (by decide) (by exact h7) rfl rfl rfl hl (hK _ (by simp only[Hd,ZE,QWh,h2,h3,h4,h7,h8,h9,h10,Qa,seval]))

include o9 in
theorem QQh:JR BD fr 7 m.name (ZE Fb i tw) (pb m.name x.num (!tw) 9):=by
 rintro l f K hl ⟨h2,h3,h4,h7,h8,h9,h10,-⟩ hK;rw[QL]at o9;simp only[BD,QA,h9,h10,o9,eE,seval];exact QN (by decide) (by exact h7) rfl rfl rfl hl (hK _ (by simp only[Hd,ZE,QWh,h2,h3,h4,h7,h8,h9,h10,Qa,seval]))

include o4 o9 hM hm in
theorem QQi:JR BE fr 7 m.name (ZE Fb i tw) (pb m.name x.num (!(kept m.free x.num) && !(m.gone.contains x.name)) 21):=by
 rintro l f K hl ⟨h2,h3,h4,h7,h8,h9,h10,-⟩ hK;rw[QL]at o9;rw[XL]at o4;have hl2:=hm.len2;have hl3:=hm.len3;have hk:=z89 m.free (by simp only[maxLen];omega) x.num;have hh:=u85 m.gone (by simp only[maxLen];omega) x.name;rw[←Bool.not_or]at hK;simp only[BE,QA,h4,h9,o4,o9,eE,seval];refine aC hk ?_;cases a1:kept m.free x.num
 ·rw[a1,QW1]at hK;simp only[QA,h4,h9,o4,o9,eE,seval];refine aC hh ?_;simp only[QA,h9,o9,eE,seval];exact QN (by decide) (by exact h7) rfl rfl rfl hl (hK _ (by simp only[Hd,ZE,QWh,h2,h3,h4,h7,h8,h9,h10,Qa,seval]))
 ·rw[a1,QW0]at hK;simp only[QA,h9,o9,eE,seval];exact QN (by decide) (by exact h7) rfl rfl rfl hl (hK _ (by simp only[Hd,ZE,QWh,h2,h3,h4,h7,h8,h9,h10,Qa,seval]))

include o3 o4 o9 hi hM hm hS in
theorem QQj:JR BF fr 7 m.name (ZE Fb i tw) (pb m.name x.num (YP x) 1):=by
 rintro l f K hl ⟨h2,h3,h4,h7,h8,h9,h10,-⟩ hK;have hc:=u90 x;simp only[XK]at hc
 try rw[QL x]at hc
 rw[QL]at o9;rw[XL]at o4;rw[←QXm (YP x)]at hK;simp only[BF,QA,h9,o9,eE,seval];refine aC hc ?_;simp only[QA,h9,o9,eE,seval];exact QN (by decide) (by exact h7) rfl rfl rfl hl (hK _ (by simp only[Hd,ZE,QWh,h2,h3,h4,h7,h8,h9,h10,Qa,seval]))

include o3 o4 o9 hi hM hm hS in
theorem QQk:JR BG fr 7 m.name (ZE Fb i tw) (pb m.name x.num (JD S x) 12):=by
 rintro l f K hl ⟨h2,h3,h4,h7,h8,h9,h10,-⟩ hK;have hc:=u91 S hS hM x;simp only[SC.av,XK]at hc
 try rw[QL x]at hc
 rw[QL]at o9;rw[XL]at o4;rw[←QXm (JD S x)]at hK;simp only[BG,QA,h3,h9,o3,o9,eE,seval];refine aC hc ?_;simp only[QA,h9,o9,eE,seval];exact QN (by decide) (by exact h7) rfl rfl rfl hl (hK _ (by simp only[Hd,ZE,QWh,h2,h3,h4,h7,h8,h9,h10,Qa,seval]))

include o3 o4 o9 hi hM hm hS in
theorem QQl:JR BH fr 7 m.name (ZE Fb i tw) (pb m.name x.num (Jm m i) 15):=by
 rintro l f K hl ⟨h2,h3,h4,h7,h8,h9,h10,-⟩ hK;have hc:=u92 hM m hm i x hi;simp only[Q4]at hc
 try rw[QL x]at hc
 rw[QL]at o9;rw[XL]at o4;rw[←QXm (Jm m i)]at hK;simp only[BH,QA,h4,h8,o4,eE,seval];refine aC hc ?_;simp only[QA,h9,o9,eE,seval];exact QN (by decide) (by exact h7) rfl rfl rfl hl (hK _ (by simp only[Hd,ZE,QWh,h2,h3,h4,h7,h8,h9,h10,Qa,seval]))

include o3 o4 o9 hi hM hm hS in
theorem QQm:JR BI fr 7 m.name (ZE Fb i tw) (pb m.name x.num (WC S x) 1):=by
 rintro l f K hl ⟨h2,h3,h4,h7,h8,h9,h10,-⟩ hK;have hc:=u93 S hS hM x (hm.fields x (QVw hi));simp only[SC.av,XK]at hc
 try rw[QL x]at hc
 rw[QL]at o9;rw[XL]at o4;rw[←QXm (WC S x)]at hK;simp only[BI,QA,h3,h9,o3,o9,eE,seval];refine aC hc ?_;simp only[QA,h9,o9,eE,seval];exact QN (by decide) (by exact h7) rfl rfl rfl hl (hK _ (by simp only[Hd,ZE,QWh,h2,h3,h4,h7,h8,h9,h10,Qa,seval]))

include o9 hi hM hm in
theorem QQn:JR BJ fr 7 m.name (ZE Fb i tw) (XJ m.name x.num x.notes 2):=by
 rintro l f K hl ⟨h2,h3,h4,h7,h8,h9,h10,-⟩ hK;have hx:=hm.fields x (QVw hi);have hln:=hx.len;rw[QL]at o9;simp only[BJ,QA,h9,o9,eE,seval];exact KD (by simp only[maxLen];omega) (by simp only[maxLen];omega) hx.notes (by decide) (by exact h7) rfl rfl rfl (by decide) hl (hK _ (by simp only[Hd,ZE,QWh,h2,h3,h4,h7,h8,h9,h10,Qa,seval]))

include o4 o9 hi hM hm in
theorem QJ9 (F:Nat→Ob)(l:List PB)(hF:F=Q7 fr 7 1100 m.name l)(f:Fr)(hf:Hd f (ZE Fb i false))(h11:f 11=.int .i64 0)(Q:Exit→St→Prop)
  (hq:∀f,Hd f (ZE Fb i ((m.fields.take i).any fun y=>y.name==x.name))→Q (.exit 2) ⟨f,[F],[]⟩):QJ Tryz.prog (.loop CN) ⟨f,[F],[]⟩ Q:=by
 let I:Nat→St→Prop:=fun n st=>∃f k,st=⟨f,[F],[]⟩∧n=i-k∧k≤i∧Hd f (ZE Fb i ((m.fields.take k).any fun y=>y.name==x.name))∧f 11=.int .i64 (k:Nat)
 have hil:i<m.fields.length:=(QVk.1 hi).1;have hl1:=hm.len1;rw[QL]at o9;rw[XL]at o4;have p4:F 4=fr 4:=by rw[hF,ZX _ _ _ _ _ (by decide) (by decide)]
 have p9:F 9=fr 9:=by rw[hF,ZX _ _ _ _ _ (by decide) (by decide)]
 rw[o4]at p4;rw[o9]at p9;refine Qf I _ ⟨f,0,rfl,rfl,QVr _,hf,h11⟩ ?_;clear hf h11;rintro _ st ⟨f,k,rfl,rfl,hk,hf,h11⟩;have hf':=hf;obtain⟨h2,h3,h4,h7,h8,h9,h10,-⟩:=hf';simp only[CN,Ro,h8,h11,Qa,seval];by_cases hlt:k<i
 case neg=>
  have e:k=i:=by omega
  subst e;simp only[Qu hlt,Qa,seval];exact hq _ (by simp only[Hd,ZE,QWh,h2,h3,h4,h7,h8,h9,h10,Qa,seval])
 obtain⟨y,hy⟩:∃y,m.fields[k]? = some y:=⟨m.fields[k]'(by omega),QVl (by omega)⟩;have hg:(m.fields.map fun n=>AV.agg n.cells)[k]? = some (.agg y.cells):=by rw[QWB,hy];rfl
 rw[QL]at hg;have e1:=Qh k _ hlt (by simp only[maxLen];omega);have ht:=Kd (q:=fun y:SF=>y.name==x.name) hy;simp only[Qs hlt,Rp,Qd,QWH,Qb,hg,h4,h9,h11,p4,p9,Qz,eE,seval];cases hp:(y.name==x.name)
 ·rw[hp,QXf]at ht;simp only[BA,h11,e1,Qa,seval];exact⟨i-(k+1),by omega,_,k+1,rfl,rfl,by omega,by simp only[ht,Hd,ZE,QWh,h2,h3,h4,h7,h8,h9,h10,Qa,seval],(by rfl)⟩
 ·rw[hp,QXg]at ht;simp only[BA,Rq,h11,e1,Qa,seval];exact⟨i-(k+1),by omega,_,k+1,rfl,rfl,by omega,by simp only[ht,Hd,ZE,QWh,h2,h3,h4,h7,h8,h9,Qa,seval],(by rfl)⟩
end

section
variable {M:Nat}(hM:M≤1048576)(S:SC)(hS:S.ok M)(m:SM)(hm:m.ok M)(Fb:List Bool)
include hM hS hm in
theorem Sx (l:List PB)(hl:l.length≤1000000)(f:Fr)(fr:Nat→Ob)(h2:f 2=.list (Fb.map AV.bool))(h3:f 3=.ptr 0 3 0)(h4:f 4=.ptr 0 4 0)(h7:f 7=.ptr 0 7 0)(h8:f 8=.int .i64 0)
  (o3:fr 3=.cells [.list (S.msgs.map fun n=>.agg n.cells),.list (S.enums.map fun n=>.agg n.cells),.list (S.servs.map fun n=>.agg n.cells)]) (o4:fr 4=.cells m.cells) (o9:fr 9=.none) (Q:Exit→St→Prop)
  (hq:∀(f:Fr) (fr:Nat→Ob),f 2=.list (Fb.map AV.bool)→f 3=.ptr 0 3 0→f 4=.ptr 0 4 0→f 7=.ptr 0 7 0→fr 3=.cells [.list (S.msgs.map fun n=>.agg n.cells),.list (S.enums.map fun n=>.agg n.cells),.list (S.servs.map fun n=>.agg n.cells)]→fr 4=.cells m.cells→Q (.exit 0) ⟨f,[Q7 fr 7 1100 m.name (l++upto m.fields (J7 S m) m.fields.length)],[]⟩) :
  QJ Tryz.prog (.loop CO) ⟨f,[Q7 fr 7 1100 m.name l],[]⟩ Q:=by
 let I:Nat→St→Prop:=fun n st=>∃f fr i,st=⟨f,[Q7 fr 7 1100 m.name (l++upto m.fields (J7 S m) i)],[]⟩∧n=m.fields.length-i∧i≤m.fields.length∧f 2=.list (Fb.map AV.bool)∧f 3=.ptr 0 3 0∧f 4=.ptr 0 4 0∧f 7=.ptr 0 7 0∧f 8=.int .i64 (i:Nat)∧
  fr 3=.cells [.list (S.msgs.map fun n=>.agg n.cells),.list (S.enums.map fun n=>.agg n.cells),.list (S.servs.map fun n=>.agg n.cells)]∧fr 4=.cells m.cells∧(fr 9).isRow=false
 have hl1:=hm.len1;refine Qf I _ ⟨f,fr,0,by rw[upto,QWg],rfl,QVr _,h2,h3,h4,h7,h8,o3,o4,by rw[o9];rfl⟩ ?_;clear h2 h3 h4 h7 h8 o3 o4 o9;rintro _ st ⟨f0,fr0,i,rfl,rfl,hi,h20,h30,h40,h70,h80,KO,KX,r9⟩;refine QR (a:=_) [9] (by
  intro s hs;simp only[QWy,QXi,or_false]at hs;subst hs;rw[ZX _ _ _ _ _ (by decide) (by decide)];exact r9) ?_
 intro f fr hf hmm hn;have h2:f 2=.list (Fb.map AV.bool):=by rw[hf,h20]<;>rfl
 have h3:f 3=.ptr 0 3 0:=by rw[hf,h30]<;>rfl
 have h4:f 4=.ptr 0 4 0:=by rw[hf,h40]<;>rfl
 have h7:f 7=.ptr 0 7 0:=by rw[hf,h70]<;>rfl
 have h8:f 8=.int .i64 (i:Nat):=by rw[hf,h80]<;>rfl
 have o3:fr 3=.cells [.list (S.msgs.map fun n=>.agg n.cells),.list (S.enums.map fun n=>.agg n.cells),.list (S.servs.map fun n=>.agg n.cells)]:=by rw[hmm 3 (by decide),ZX _ _ _ _ _ (by decide) (by decide),KO]<;>rfl
 have o4:fr 4=.cells m.cells:=by rw[hmm 4 (by decide),ZX _ _ _ _ _ (by decide) (by decide),KX]<;>rfl
 have n9:=hn 9 (by decide);have q0:(l++upto m.fields (J7 S m) i).length≤100000000:=by
  have:=QY (l:=m.fields) (W5 S m) i;rw[QVU];omega
 have hfe:Q7 fr 7 1100 m.name (l++upto m.fields (J7 S m) i)=fr:=Dg _ _ _ _ _ (by rw[hmm 7 (by decide),UJ]<;>rfl) (by rw[hmm 1100 (by decide),UK _ _ _ _ _ (by decide)]<;>rfl);clear hf hmm hn h20 h30 h40 h70 h80 KO KX r9;have o4':=o4;rw[XL]at o4';simp only[EC,QWE,h4,h8,o4',eE,seval];by_cases hlt:i<m.fields.length
 case neg=>
  have ei:i=m.fields.length:=by omega
  subst ei;simp only[Qu hlt,Qa,seval];rw[←hfe];exact hq _ _ (by exact h2) (by exact h3) (by exact h4) (by exact h7) o3 o4
 obtain⟨x,hx⟩:∃x,m.fields[i]? = some x:=⟨m.fields[i],QVl hlt⟩;have hg:(m.fields.map fun n=>AV.agg n.cells)[i]? = some (.agg x.cells):=by rw[QWB,hx];rfl
 rw[QL]at hg;have e1:=Qh i _ hlt (by simp only[maxLen];omega);simp only[Qs hlt,n9,ED,EE,EG,Qd,QWH,Qb,hg,h4,h8,o4',eE,seval];rw[←hfe,Dh _ _ _ _ _ (by decide) (by decide)];generalize hF:Qn fr 9 _=F;have p3:F 3=.cells [.list (S.msgs.map fun n=>.agg n.cells),.list (S.enums.map fun n=>.agg n.cells),.list (S.servs.map fun n=>.agg n.cells)]:=by rw[←hF];exact(by exact o3)
 have p4:F 4=.cells m.cells:=by rw[←hF];exact(by exact o4)
 have p9:F 9=.cells x.cells:=by rw[←hF,QL];exact(by rfl)
 clear hF hfe o3 o4 o4' n9;refine QJ9 hM m hm Fb i x hx F p4 p9 _ _ rfl _ (by simp only[Hd,ZE,QWh,h2,h3,h4,h7,h8,Qa,seval]) (by rfl) _ (fun f hf=>?_);clear h2 h3 h4 h7 h8;generalize hT:((m.fields.take i).any fun y=>y.name==x.name)=tw at hf;simp only[Qa,seval];refine QQe m Fb i x tw F p9 _ f _ (by omega) hf (fun f hf=>?_);have q1:=Qy q0 m.name x.num (decide (x.num≥1)&&decide (x.num≤65535)) 6;simp only[Qa,seval];refine QQf hM m hm Fb i x hx tw F p4 p9 _ f _ (by omega) hf (fun f hf=>?_);have q2:=Qy q1 m.name x.num (Kv m.fields SF.num i x) 11;simp only[Qa,seval];refine QQg m Fb i x tw F p9 _ f _ (by omega) hf (fun f hf=>?_);have q3:=Qy q2 m.name x.num (Xo x.name) 8;simp only[Qa,seval];refine QQh m Fb i x tw F p9 _ f _ (by omega) hf (fun f hf=>?_);have q4:=Qy q3 m.name x.num (!tw) 9;simp only[Qa,seval];refine QQi hM m hm Fb i x tw F p4 p9 _ f _ (by omega) hf (fun f hf=>?_);have q5:=Qy q4 m.name x.num (!(kept m.free x.num) && !(m.gone.contains x.name)) 21;simp only[Qa,seval];refine QQj hM S hS m hm Fb i x hx tw F p3 p4 p9 _ f _ (by omega) hf (fun f hf=>?_);have q6:=Qy q5 m.name x.num (YP x) 1;simp only[Qa,seval];refine QQk hM S hS m hm Fb i x hx tw F p3 p4 p9 _ f _ (by omega) hf (fun f hf=>?_);have q7:=Qy q6 m.name x.num (JD S x) 12;simp only[Qa,seval];refine QQl hM S hS m hm Fb i x hx tw F p3 p4 p9 _ f _ (by omega) hf (fun f hf=>?_);have q8:=Qy q7 m.name x.num (Jm m i) 15;simp only[Qa,seval];refine QQm hM S hS m hm Fb i x hx tw F p3 p4 p9 _ f _ (by omega) hf (fun f hf=>?_);have q9:=Qy q8 m.name x.num (WC S x) 1;simp only[Qa,seval];refine QQn hM m hm Fb i x hx tw F p9 _ f _ (by omega) hf (fun f hf=>?_);obtain⟨h2,h3,h4,h7,h8,h9,h10,-⟩:=hf;simp only[EH,h8,e1,Qa,seval];exact⟨m.fields.length-(i+1),by omega,_,F,i+1,by rw[Zl hx];subst hT;unfold J7;simp only[QVC]<;>rfl,rfl,by omega,(by exact h2),(by exact h3),(by exact h4),(by exact h7),(by rfl),p3,p4,by rw[p9];rfl⟩
end

section
variable {M:Nat}(hM:M≤1048576)(m:SM)(hm:m.ok M)
include hM hm in
theorem QcE (l:List PB)(hl:l.length≤1000000000)(f:Fr)(fr:Nat→Ob)(h3:f 3=.ptr 0 3 0)(h2:∃a,f 2=a)(h4:f 4=.ptr 0 4 0)(h7:f 7=.ptr 0 7 0)(h12:f 12=.int .i64 0)(o4:fr 4=.cells m.cells)(Q:Exit→St→Prop)
  (hq:∀f':Fr,f' 2=f 2→f' 3=.ptr 0 3 0→f' 4=.ptr 0 4 0→f' 7=.ptr 0 7 0→Q (.exit 4) ⟨f',[Q7 fr 7 1100 m.name (l++upto m.gone (fun _ g=>pb m.name (-1) (Ji g) 7) m.gone.length)],[]⟩):QJ Tryz.prog (.loop Fi) ⟨f,[Q7 fr 7 1100 m.name l],[]⟩ Q:=by
 obtain⟨a,h2⟩:=h2;rw[h2]at hq
 let I:Nat→St→Prop:=fun n st=>∃f i,st=⟨f,[Q7 fr 7 1100 m.name (l++upto m.gone (fun _ g=>pb m.name (-1) (Ji g) 7) i)],[]⟩∧n=m.gone.length-i∧i≤m.gone.length∧f 2=a∧f 3=.ptr 0 3 0∧f 4=.ptr 0 4 0∧f 7=.ptr 0 7 0∧f 12=.int .i64 (i:Nat)
 have hl3:=hm.len3;rw[XL]at o4;refine Qf I _ ⟨f,0,by rw[upto,QWg],rfl,QVr _,h2,h3,h4,h7,h12⟩ ?_;clear h2 h3 h4 h7 h12;rintro _ st ⟨f,i,rfl,rfl,hi,h2,h3,h4,h7,h12⟩;simp only[Fi,Rr,QA,QWE,h4,h12,o4,eE,seval];by_cases hlt:i<m.gone.length
 case neg=>
  have ei:i=m.gone.length:=by omega
  subst ei;simp only[Qu hlt,Qa,seval];exact hq _ (by exact h2) (by exact h3) (by exact h4) (by exact h7)
 obtain⟨x,hx⟩:∃x,m.gone[i]? = some x:=⟨m.gone[i],QVl hlt⟩;have hg:(m.gone.map AV.str)[i]? = some (.str x):=by rw[QWB,hx];rfl
 have hxl:=hm.gone x (QVw hx);have e1:=Qh i _ hlt (by simp only[maxLen];omega);have hu:=QY (l:=m.gone) (g:=fun _ g=>pb m.name (-1) (Ji g) 7) (c:=1) (fun _ g=>Q3 ..) i;simp only[Qs hlt,Rs,QA,Qd,QWH,Qb,hg,h4,h12,o4,eE,seval];refine aC (c96 x (by simp only[maxLen];omega)) ?_;simp only[Qa,seval];refine QN (by decide) (by exact h7) rfl rfl rfl (by rw[QVU];omega) ?_;simp only[Rt,h12,e1,Qa,seval];exact⟨m.gone.length-(i+1),by omega,_,i+1,by rw[Zl hx,QXm,QVC],rfl,by omega,(by exact h2),(by exact h3),(by exact h4),(by exact h7),(by rfl)⟩

theorem WG (l:List PB):List.take l.length (List.map PB.av l)=List.map PB.av l:=QVQ (by rw[QWE];exact QVi _)

theorem u54 {M:Nat}(hM:M≤1048576)(S:SC)(hS:S.ok M)(m:SM)(hm:m.ok M)(F:List Bool)(hF:F.length=S.msgs.length):Qj Tryz.prog 54 [S.av,Q4 m,.list (F.map AV.bool)] (.list ((Jn S (Xg S F) m).map PB.av)):=by
 have hl1:=hm.len1;have hl2:=hm.len2;have hl3:=hm.len3;have hl4:=hm.len4;have hnl:=hm.name;refine k54.fn (by simp) ?_;simp only[r54,Ru,Ey,Ez,SC.av,Q4,XL m,eE,seval];refine Xm rfl rfl rfl rfl ?_;generalize hb:(Qn (Qn Qg 3 _) 4 _:Nat→Ob)=base;have o3:base 3=.cells [.list (S.msgs.map fun n=>.agg n.cells),.list (S.enums.map fun n=>.agg n.cells),.list (S.servs.map fun n=>.agg n.cells)]:=by rw[←hb];exact(by rfl)
 have o4:base 4=.cells m.cells:=by rw[←hb,XL];exact(by rfl)
 have o9:base 9=.none:=by rw[←hb];rfl
 clear hb;have o4s:=o4;rw[XL]at o4s;rw[Fu base 7 1100 m.name _ (by decide)];simp only[EA,QA,o4s,eE,seval];refine aC (u87 m.name) ?_;simp only[Qa,seval];refine QN (by decide) rfl rfl rfl rfl (by simp) ?_;rw[QXm,QVE];have q1:=Q3 m.name (-1) (XE m.name) 8;generalize hL1:pb m.name (-1) (XE m.name) 8=L1 at q1;have hbb:(decide (m.fields.length≤64)&&decide (m.free.length≤16)&&decide (m.gone.length≤16))=!(decide ((m.fields.length:Int) > 64)||decide ((m.free.length:Int) > 16)||decide ((m.gone.length:Int) > 16)):=(by rw[QV7];simp only[QWA,QV9,QXc,QVF,QV6];omega);have q2:=Qy q1 m.name (-1) (decide (m.fields.length≤64)&&decide (m.free.length≤16)&&decide (m.gone.length≤16)) 3;have key:∀f:Fr,f 2=.list (F.map AV.bool)→f 3=.ptr 0 3 0→f 4=.ptr 0 4 0→f 7=.ptr 0 7 0→QJ Tryz.prog (.seq (.seq (.reg CM) (.block 0 (.loop CO))) (.seq (.reg BK) (.seq (.seq (.reg BL) (.block 4 (.loop Fi))) (.seq (.reg BM) (.seq (.reg BN) (.seq (.reg BO) .ret))))))
   ⟨f,[Q7 base 7 1100 m.name (L1++pb m.name (-1) (decide (m.fields.length≤64)&&decide (m.free.length≤16)&&decide (m.gone.length≤16)) 3)],[]⟩ (Zi Ru 0 fun x _=>x=.list ((Jn S (Xg S F) m).map PB.av)):=by
  intro f h2 h3 h4 h7;simp only[CM,Qa,seval];refine Sx hM S hS m hm F _ (by omega) _ base (by exact h2) (by exact h3) (by exact h4) (by exact h7) (by rfl) o3 o4 o9 _ (fun f fr h2 h3 h4 h7 o3 o4=>?_);have o4s:=o4;rw[XL]at o4s;have q3:=QY (l:=m.fields) (W5 S m) m.fields.length;have q4:=QY (l:=m.free) (Ka m.name 1 65535 m.free) m.free.length;have q5:=QY (l:=m.gone) (g:=fun _ g=>pb m.name (-1) (Ji g) 7) (c:=1) (fun _ g=>Q3 ..) m.gone.length;have q6:=Q3 m.name (-1) (X6 m.notes 1==0) (X6 m.notes 1);simp only[BK,QA,h4,o4s,eE,seval];refine Qc (QzG fr 7 1100 m.name (by decide) rfl 1 65535 m.free (by omega) [] _ (by simp only[QVU]at q2 ⊢;omega)) (by simp only[QVP,QWe,h7,Qa,seval]<;>rfl) ?_;simp only[BL,Qa,seval];refine QcE hM m hm _ (by simp only[QVU]at q2 ⊢;omega) _ fr (by exact h3) ⟨_,rfl⟩ (by exact h4) (by exact h7) (by rfl) o4 _ (fun f2 k2 h3 h4 h7=>?_);have h2':f2 2=.list (F.map AV.bool):=by rw[k2];exact(by exact h2)
  clear k2 h2;simp only[BM,QA,h4,o4s,eE,seval];refine KD (by simp only[maxLen];omega) (by simp only[maxLen];omega) hm.notes (by decide) (by exact h7) rfl rfl rfl (by decide) (by simp only[QVU]at q2 ⊢;omega) ?_;have hc:=u86 hM S hS F hF m hm;simp only[SC.av,Q4,XL m]at hc;simp only[BN,QA,h2',h3,h4,o3,o4s,eE,seval];refine aC hc ?_
  try simp only[eE,seval]
  refine QN (by decide) (by exact h7) rfl rfl rfl (by simp only[QVU,XJ]at q2 ⊢;omega) ?_;generalize hL:_++pb m.name (-1) (!Xg S F m) 19=L;have hfin:Jn S (Xg S F) m=L:=by rw[←hL,←hL1];rfl
  rw[hfin];simp only[BO,QA,h7,QWE,QVY,WG,QVH,QVi,QWh,QWn,AV.un,Ru,eE,seval]
 simp only[Ru,Qa,seval]at key;rw[hbb]at key;simp only[EB,QA,QWE,o4s,eE,seval];cases c1:decide ((m.fields.length:Int) > 64)<;>cases c2:decide ((m.free.length:Int) > 16)<;>cases c3:decide ((m.gone.length:Int) > 16) <;>
 ·rw[c1,c2,c3]at key;simp only[c2,c3,QA,QWE,o4s,eE,seval];refine QN (by decide) rfl rfl rfl rfl (by omega) ?_;simp only[Qa,seval];exact key _ (by rfl) (by rfl) (by rfl) (by rfl)
end

def Ke (i:Nat)(tw:Bool):List (Nat×AV):=[(1,.ptr 0 1 0),(3,.ptr 0 3 0),(4,.int .i64 (i:Nat)),(5,.ptr 0 5 0),(6,.bool tw)]
section
variable {M:Nat}(hM:M≤1048576)(m:SE)(hm:m.ok M)(i:Nat)(x:SI)(hi:m.items[i]? = some x)(tw:Bool)(fr:Nat→Ob)(o1:fr 1=.cells m.cells)(o5:fr 5=.cells x.cells)

include o5 in
theorem QQo:JR BQ fr 3 m.name (Ke i tw) (pb m.name x.num (decide (x.num≥0)&&decide (x.num≤2147483647)) 6):=by
 rintro l f K hl ⟨h1,h3,h4,h5,h6,-⟩ hK;rw[Jk]at o5;have hb:(decide (x.num≥0)&&decide (x.num≤2147483647))=!(decide (x.num<0)||decide (x.num > 2147483647)):=(by rw[QV7];simp only[QWA,QV9,QXc,QVF,QV6];omega);rw[hb]at hK;simp only[BQ,QA,h5,o5,eE,seval];cases c1:decide (x.num<0)<;>cases c2:decide (x.num > 2147483647) <;>
 ·rw[c1,c2]at hK;simp only[c2,QA,h5,o5,eE,seval];exact QN (by decide) (by exact h3) rfl rfl rfl hl (hK _ (by simp only[Hd,Ke,QWh,h1,h3,h4,h5,h6,Qa,seval]))

include o1 o5 hi hM hm in
theorem QQp:JR Gi fr 3 m.name (Ke i tw) (pb m.name x.num (Kv m.items SI.num i x) 11):=by
 rintro l f K hl ⟨h1,h3,h4,h5,h6,-⟩ hK;rw[Jk]at o5;rw[X7]at o1;have hlt:i<m.items.length:=(QVk.1 hi).1;have hl1:=hm.len1;cases i with
 |zero=>
  have d0:decide (((0:Nat):Int) > 0)=false:=rfl;simp only[Gi,QA,h4,h5,o5,eE,seval];exact QN (by decide) (by exact h3) rfl rfl rfl hl (hK _ (by simp only[Hd,Ke,QWh,h1,h3,h4,h5,h6,Qa,seval]))
 |succ j=>
  obtain⟨y,hj⟩:∃y,m.items[j]? = some y:=⟨m.items[j]'(by omega),QVl (by omega)⟩;have hgj:(m.items.map fun n=>AV.agg n.cells)[j]? = some (.agg y.cells):=by rw[QWB,hj];rfl
  rw[Jk]at hgj;have wj:=KA j _ hlt (by simp only[maxLen];omega);have d0:decide (((j+1:Nat):Int) > 0)=true:=QXb (by omega);have hb:decide (x.num > y.num)=!decide (x.num≤y.num):=(by rw[QV7];simp only[QWA,QV9,QXc];omega);simp only[Kv,hj,hb]at hK;simp only[Gi,QA,Qd,QWH,Qb,hgj,wj,h1,h4,h5,o1,o5,d0,eE,seval];exact QN (by decide) (by exact h3) rfl rfl rfl hl (hK _ (by simp only[Hd,Ke,QWh,h1,h3,h4,h5,h6,Qa,seval]))

include o5 in
theorem QQq:JR BR fr 3 m.name (Ke i tw) (pb m.name x.num (Xo x.name) 8):=by
 rintro l f K hl ⟨h1,h3,h4,h5,h6,-⟩ hK;rw[Jk]at o5;rw[←QXm (Xo x.name)]at hK;simp only[BR,QA,h5,o5,eE,seval];refine aC (IE x.name) ?_;simp only[QA,h5,o5,eE,seval];exact QN (by decide) (by exact h3) rfl rfl rfl hl (hK _ (by simp only[Hd,Ke,QWh,h1,h3,h4,h5,h6,Qa,seval]))

include o5 in
theorem QQr:JR BS fr 3 m.name (Ke i tw) (pb m.name x.num (!tw) 9):=by
 rintro l f K hl ⟨h1,h3,h4,h5,h6,-⟩ hK;rw[Jk]at o5;simp only[BS,QA,h5,h6,o5,eE,seval];exact QN (by decide) (by exact h3) rfl rfl rfl hl (hK _ (by simp only[Hd,Ke,QWh,h1,h3,h4,h5,h6,Qa,seval]))

include o1 o5 hM hm in
theorem QQs:JR BT fr 3 m.name (Ke i tw) (pb m.name x.num (!(kept m.free x.num)) 21):=by
 rintro l f K hl ⟨h1,h3,h4,h5,h6,-⟩ hK;rw[Jk]at o5;rw[X7]at o1;have hl2:=hm.len2;have hk:=z89 m.free (by simp only[maxLen];omega) x.num;simp only[BT,QA,h1,h5,o1,o5,eE,seval];refine aC hk ?_;simp only[QA,h5,o5,eE,seval];exact QN (by decide) (by exact h3) rfl rfl rfl hl (hK _ (by simp only[Hd,Ke,QWh,h1,h3,h4,h5,h6,Qa,seval]))

include o5 hi hM hm in
theorem QQt:JR BU fr 3 m.name (Ke i tw) (XJ m.name x.num x.notes 4):=by
 rintro l f K hl ⟨h1,h3,h4,h5,h6,-⟩ hK;have hx:=hm.items x (QVw hi);have hln:=hx.len;rw[Jk]at o5;simp only[BU,QA,h5,o5,eE,seval];exact KD (by simp only[maxLen];omega) (by simp only[maxLen];omega) hx.notes (by decide) (by exact h3) rfl rfl rfl (by decide) hl (hK _ (by simp only[Hd,Ke,QWh,h1,h3,h4,h5,h6,Qa,seval]))

include o1 o5 hi hM hm in
theorem QKa (F:Nat→Ob)(l:List PB)(hF:F=Q7 fr 3 1100 m.name l)(f:Fr)(hf:Hd f (Ke i false))(h7:f 7=.int .i64 0)(Q:Exit→St→Prop)
  (hq:∀f,Hd f (Ke i ((m.items.take i).any fun y=>y.name==x.name))→Q (.exit 2) ⟨f,[F],[]⟩):QJ Tryz.prog (.loop CP) ⟨f,[F],[]⟩ Q:=by
 let I:Nat→St→Prop:=fun n st=>∃f k,st=⟨f,[F],[]⟩∧n=i-k∧k≤i∧Hd f (Ke i ((m.items.take k).any fun y=>y.name==x.name))∧f 7=.int .i64 (k:Nat)
 have hil:i<m.items.length:=(QVk.1 hi).1;have hl1:=hm.len1;rw[Jk]at o5;rw[X7]at o1;have p1:F 1=fr 1:=by rw[hF,ZX _ _ _ _ _ (by decide) (by decide)]
 have p5:F 5=fr 5:=by rw[hF,ZX _ _ _ _ _ (by decide) (by decide)]
 rw[o1]at p1;rw[o5]at p5;refine Qf I _ ⟨f,0,rfl,rfl,QVr _,hf,h7⟩ ?_;clear hf h7;rintro _ st ⟨f,k,rfl,rfl,hk,hf,h7⟩;have hf':=hf;obtain⟨h1,h3,h4,h5,h6,-⟩:=hf';simp only[CP,Rw,h4,h7,Qa,seval];by_cases hlt:k<i
 case neg=>
  have e:k=i:=by omega
  subst e;simp only[Qu hlt,Qa,seval];exact hq _ (by simp only[Hd,Ke,QWh,h1,h3,h4,h5,h6,Qa,seval])
 obtain⟨y,hy⟩:∃y,m.items[k]? = some y:=⟨m.items[k]'(by omega),QVl (by omega)⟩;have hg:(m.items.map fun n=>AV.agg n.cells)[k]? = some (.agg y.cells):=by rw[QWB,hy];rfl
 rw[Jk]at hg;have e1:=Qh k _ hlt (by simp only[maxLen];omega);have ht:=Kd (q:=fun y:SI=>y.name==x.name) hy;simp only[Qs hlt,Rx,Qd,QWH,Qb,hg,h1,h5,h7,p1,p5,Qz,eE,seval];cases hp:(y.name==x.name)
 ·rw[hp,QXf]at ht;simp only[BP,h7,e1,Qa,seval];exact⟨i-(k+1),by omega,_,k+1,rfl,rfl,by omega,by simp only[ht,Hd,Ke,QWh,h1,h3,h4,h5,h6,Qa,seval],(by rfl)⟩
 ·rw[hp,QXg]at ht;simp only[BP,Ry,h7,e1,Qa,seval];exact⟨i-(k+1),by omega,_,k+1,rfl,rfl,by omega,by simp only[ht,Hd,Ke,QWh,h1,h3,h4,h5,Qa,seval],(by rfl)⟩
end

section
variable {M:Nat}(hM:M≤1048576)(m:SE)(hm:m.ok M)
include hM hm in
theorem Ad (l:List PB)(hl:l.length≤1000000)(f:Fr)(fr:Nat→Ob)(h1:f 1=.ptr 0 1 0)(h3:f 3=.ptr 0 3 0)(h4:f 4=.int .i64 0)(o1:fr 1=.cells m.cells)(o5:fr 5=.none)(Q:Exit→St→Prop)
  (hq:∀(f:Fr) (fr:Nat→Ob),f 1=.ptr 0 1 0→f 3=.ptr 0 3 0→fr 1=.cells m.cells→Q (.exit 0) ⟨f,[Q7 fr 3 1100 m.name (l++upto m.items (Jo m) m.items.length)],[]⟩) :
  QJ Tryz.prog (.loop Fl) ⟨f,[Q7 fr 3 1100 m.name l],[]⟩ Q:=by
 let I:Nat→St→Prop:=fun n st=>∃f fr i,st=⟨f,[Q7 fr 3 1100 m.name (l++upto m.items (Jo m) i)],[]⟩∧n=m.items.length-i∧i≤m.items.length∧f 1=.ptr 0 1 0∧f 3=.ptr 0 3 0∧f 4=.int .i64 (i:Nat)∧fr 1=.cells m.cells∧(fr 5).isRow=false
 have hl1:=hm.len1;refine Qf I _ ⟨f,fr,0,by rw[upto,QWg],rfl,QVr _,h1,h3,h4,o1,by rw[o5];rfl⟩ ?_;clear h1 h3 h4 o1 o5;rintro _ st ⟨f0,fr0,i,rfl,rfl,hi,h10,h30,h40,XG,r5⟩;refine QR (a:=_) [5] (by
  intro s hs;simp only[QWy,QXi,or_false]at hs;subst hs;rw[ZX _ _ _ _ _ (by decide) (by decide)];exact r5) ?_
 intro f fr hf hmm hn;have h1:f 1=.ptr 0 1 0:=by rw[hf,h10]<;>rfl
 have h3:f 3=.ptr 0 3 0:=by rw[hf,h30]<;>rfl
 have h4:f 4=.int .i64 (i:Nat):=by rw[hf,h40]<;>rfl
 have o1:fr 1=.cells m.cells:=by rw[hmm 1 (by decide),ZX _ _ _ _ _ (by decide) (by decide),XG]<;>rfl
 have n5:=hn 5 (by decide);have q0:(l++upto m.items (Jo m) i).length≤100000000:=by
  have:=QY (l:=m.items) (W6 m) i;rw[QVU];omega
 have hfe:Q7 fr 3 1100 m.name (l++upto m.items (Jo m) i)=fr:=Dg _ _ _ _ _ (by rw[hmm 3 (by decide),UJ]<;>rfl) (by rw[hmm 1100 (by decide),UK _ _ _ _ _ (by decide)]<;>rfl);clear hf hmm hn h10 h30 h40 XG r5;have o1':=o1;rw[X7]at o1';simp only[EM,QWE,h1,h4,o1',eE,seval];by_cases hlt:i<m.items.length
 case neg=>
  have ei:i=m.items.length:=by omega
  subst ei;simp only[Qu hlt,Qa,seval];rw[←hfe];exact hq _ _ (by exact h1) (by exact h3) o1
 obtain⟨x,hx⟩:∃x,m.items[i]? = some x:=⟨m.items[i],QVl hlt⟩;have hg:(m.items.map fun n=>AV.agg n.cells)[i]? = some (.agg x.cells):=by rw[QWB,hx];rfl
 rw[Jk]at hg;have e1:=Qh i _ hlt (by simp only[maxLen];omega);simp only[Qs hlt,n5,EN,EO,Rv,Qd,QWH,Qb,hg,h1,h4,o1',eE,seval];rw[←hfe,Dh _ _ _ _ _ (by decide) (by decide)];generalize hF:Qn fr 5 _=F;have p1:F 1=.cells m.cells:=by rw[←hF];exact(by exact o1)
 have p5:F 5=.cells x.cells:=by rw[←hF,Jk];exact(by rfl)
 clear hF hfe o1 o1' n5;refine QKa hM m hm i x hx F p1 p5 _ _ rfl _ (by simp only[Hd,Ke,QWh,h1,h3,h4,Qa,seval]) (by rfl) _ (fun f hf=>?_);clear h1 h3 h4;generalize hT:((m.items.take i).any fun y=>y.name==x.name)=tw at hf;simp only[Qa,seval];refine QQo m i x tw F p5 _ f _ (by omega) hf (fun f hf=>?_);have q1:=Qy q0 m.name x.num (decide (x.num≥0)&&decide (x.num≤2147483647)) 6;simp only[Qa,seval];refine QQp hM m hm i x hx tw F p1 p5 _ f _ (by omega) hf (fun f hf=>?_);have q2:=Qy q1 m.name x.num (Kv m.items SI.num i x) 11;simp only[Qa,seval];refine QQq m i x tw F p5 _ f _ (by omega) hf (fun f hf=>?_);have q3:=Qy q2 m.name x.num (Xo x.name) 8;simp only[Qa,seval];refine QQr m i x tw F p5 _ f _ (by omega) hf (fun f hf=>?_);have q4:=Qy q3 m.name x.num (!tw) 9;simp only[Qa,seval];refine QQs hM m hm i x tw F p1 p5 _ f _ (by omega) hf (fun f hf=>?_);have q5:=Qy q4 m.name x.num (!(kept m.free x.num)) 21;simp only[Qa,seval];refine QQt hM m hm i x hx tw F p5 _ f _ (by omega) hf (fun f hf=>?_);obtain⟨h1,h3,h4,h5,h6,-⟩:=hf;simp only[EP,h4,e1,Qa,seval];exact⟨m.items.length-(i+1),by omega,_,F,i+1,by rw[Zl hx];subst hT;unfold Jo;simp only[QVC]<;>rfl,rfl,by omega,(by exact h1),(by exact h3),(by rfl),p1,by rw[p5];rfl⟩

include hM hm in
theorem u55:Qj Tryz.prog 55 [X3 m] (.list ((Jj m).map PB.av)):=by
 have hl1:=hm.len1;have hl2:=hm.len2;have hl3:=hm.len3;have hnl:=hm.name;refine k55.fn (by simp) ?_;simp only[r55,o55,EI,EJ,X3,X7 m,eE,seval];refine Xm rfl rfl rfl rfl ?_;generalize hb:(Qn Qg 1 _:Nat→Ob)=base;have o1:base 1=.cells m.cells:=by rw[←hb,X7];exact(by rfl)
 have o5:base 5=.none:=by rw[←hb];rfl
 clear hb;have o1s:=o1;rw[X7]at o1s;rw[Fu base 3 1100 m.name _ (by decide)];simp only[EK,QA,o1s,eE,seval];refine aC (u87 m.name) ?_;simp only[Qa,seval];refine QN (by decide) rfl rfl rfl rfl (by simp) ?_;rw[QXm,QVE];have q1:=Q3 m.name (-1) (XE m.name) 8;generalize hL1:pb m.name (-1) (XE m.name) 8=L1 at q1;have hbb:(decide (m.items.length≥1)&&decide (m.items.length≤64)&&decide (m.free.length≤16))=!(decide ((m.items.length:Int)<1)||decide ((m.items.length:Int) > 64)||decide ((m.free.length:Int) > 16)):=(by rw[QV7];simp only[QWA,QV9,QXc,QVF,QV6];omega);have q2:=Qy q1 m.name (-1) (decide (m.items.length≥1)&&decide (m.items.length≤64)&&decide (m.free.length≤16)) 3;generalize hL2:L1++pb m.name (-1) (decide (m.items.length≥1)&&decide (m.items.length≤64)&&decide (m.free.length≤16)) 3=L2 at q2;have q2b:=Qy q2 m.name (-1) (ZU m) 14;have key2:∀f:Fr,f 1=.ptr 0 1 0→f 3=.ptr 0 3 0→QJ Tryz.prog (.seq (.seq (.reg Fk) (.block 0 (.loop Fl))) (.seq (.reg Gj) (.seq (.reg Gk) (.seq (.reg Gl) .ret))))
   ⟨f,[Q7 base 3 1100 m.name (L2++pb m.name (-1) (ZU m) 14)],[]⟩ (Zi [.tmp 2] 0 fun x _=>x=.list ((Jj m).map PB.av)):=by
  intro f h1 h3;simp only[Fk,Qa,seval];refine Ad hM m hm _ (by omega) _ base (by exact h1) (by exact h3) (by rfl) o1 o5 _ (fun f fr h1 h3 o1=>?_);have o1s:=o1;rw[X7]at o1s;have q3:=QY (l:=m.items) (W6 m) m.items.length;have q4:=QY (l:=m.free) (Ka m.name 0 2147483647 m.free) m.free.length;simp only[Gj,QA,h1,o1s,eE,seval];refine Qc (QzG fr 3 1100 m.name (by decide) rfl 0 2147483647 m.free (by omega) [] _ (by simp only[QVU]at q2b ⊢;omega)) (by simp only[QVP,QWe,h3,Qa,seval]<;>rfl) ?_;simp only[Gk,QA,h1,o1s,eE,seval];refine KD (by simp only[maxLen];omega) (by simp only[maxLen];omega) hm.notes (by decide) (by exact h3) rfl rfl rfl (by decide) (by simp only[QVU]at q2b ⊢;omega) ?_;generalize hL:_++XJ m.name (-1) m.notes 3=L;have hfin:Jj m=L:=by rw[←hL,←hL2,←hL1];rfl
  rw[hfin];simp only[Gl,QA,h3,QWE,QVY,WG,QVH,QVi,QWh,QWn,AV.un,eE,seval]
 simp only[Qa,seval]at key2;have key:∀f:Fr,f 1=.ptr 0 1 0→f 3=.ptr 0 3 0→QJ Tryz.prog (.seq (.reg Fj) (.seq (.seq (.reg Fk) (.block 0 (.loop Fl))) (.seq (.reg Gj) (.seq (.reg Gk) (.seq (.reg Gl) .ret)))))
   ⟨f,[Q7 base 3 1100 m.name L2],[]⟩ (Zi [.tmp 2] 0 fun x _=>x=.list ((Jj m).map PB.av)):=by
  intro f h1 h3;cases hit:m.items with
  |nil=>
   have e0:ZU m=!false:=by unfold ZU;rw[hit];rfl
   have d0:decide ((m.items.length:Int) > 0)=false:=by rw[hit];rfl
   rw[e0]at key2;rw[hit]at d0;rw[hit]at o1s;simp only[Fj,QA,h1,o1s,eE,seval];refine QN (by decide) (by exact h3) rfl rfl rfl (by omega) ?_;simp only[Qa,seval];exact key2 _ (by exact h1) (by exact h3)
  |cons y l=>
   have e0:ZU m=!(y.num != 0):=by unfold ZU;rw[hit,bne,QXm]
   have d0:decide ((0:Int)<((l.length+1:Nat):Int))=true:=QXb (by omega);rw[e0]at key2;rw[hit]at o1s;have hg:((y :: l).map fun n=>AV.agg n.cells)[0]? = some (.agg y.cells):=rfl;rw[Jk]at hg;simp only[Fj,QA,QWE,Qb,hg,h1,o1s,d0,eE,seval];refine QN (by decide) (by exact h3) rfl rfl rfl (by omega) ?_;simp only[Qa,seval];exact key2 _ (by exact h1) (by exact h3)
 simp only[Qa,seval]at key;rw[hbb]at hL2;simp only[EL,QA,QWE,o1s,eE,seval];cases c1:decide ((m.items.length:Int)<1)<;>cases c2:decide ((m.items.length:Int) > 64)<;>cases c3:decide ((m.free.length:Int) > 16) <;>
 ·rw[c1,c2,c3]at hL2;subst hL2;simp only[c2,c3,QA,QWE,o1s,eE,seval];refine QN (by decide) rfl rfl rfl rfl (by omega) ?_;simp only[Qa,seval];exact key _ (by rfl) (by rfl)
end

def W8 (i:Nat):List (Nat×AV):=[(2,.ptr 0 2 0),(3,.ptr 0 3 0),(5,.ptr 0 5 0),(6,.int .i64 (i:Nat)),(7,.ptr 0 7 0)]
section
variable {M:Nat}(hM:M≤1048576)(S:SC)(hS:S.ok M)(m:SQ)(hm:m.ok M)(i:Nat)(x:SO)(hi:m.meths[i]? = some x)(fr:Nat→Ob)
 (o2:fr 2=.cells [.list (S.msgs.map fun n=>.agg n.cells),.list (S.enums.map fun n=>.agg n.cells),.list (S.servs.map fun n=>.agg n.cells)]) (o3:fr 3=.cells m.cells) (o7:fr 7=.cells x.cells)

include o7 in
theorem us8:JR CQ fr 5 m.name (W8 i) (pb m.name (i:Int) (Xo x.name) 8):=by
 rintro l f K hl ⟨h2,h3,h5,h6,h7,-⟩ hK;rw[KY]at o7;rw[←QXm (Xo x.name)]at hK;simp only[CQ,QA,h7,o7,eE,seval];refine aC (IE x.name) ?_;simp only[h6,Qa,seval];exact QN (by decide) (by exact h5) rfl rfl rfl hl (hK _ (by simp only[Hd,W8,QWh,h2,h3,h5,h6,h7,Qa,seval]))

include o3 o7 hi hM hm in
theorem us9:JR Fo fr 5 m.name (W8 i) (pb m.name (i:Int) (DU m.meths i x) 11):=by
 rintro l f K hl ⟨h2,h3,h5,h6,h7,-⟩ hK;rw[KY]at o7;rw[KS]at o3;have hlt:i<m.meths.length:=(QVk.1 hi).1;have hl1:=hm.len1;cases i with
 |zero=>
  have d0:decide (((0:Nat):Int) > 0)=false:=rfl;simp only[Fo,h6,Qa,seval];exact QN (by decide) (by exact h5) rfl rfl rfl hl (hK _ (by simp only[Hd,W8,QWh,h2,h3,h5,h6,h7,Qa,seval]))
 |succ j=>
  obtain⟨y,hj⟩:∃y,m.meths[j]? = some y:=⟨m.meths[j]'(by omega),QVl (by omega)⟩;have hgj:(m.meths.map fun n=>AV.agg n.cells)[j]? = some (.agg y.cells):=by rw[QWB,hj];rfl
  rw[KY]at hgj;have wj:=KA j _ hlt (by simp only[maxLen];omega);have d0:decide (((j+1:Nat):Int) > 0)=true:=QXb (by omega);have hb:DU m.meths (j+1) x=!(!(Op.bytesLess y.name x.name)):=by rw[QXm];simp only[DU,hj]
  rw[hb]at hK;simp only[Fo,QA,Qd,QWH,Qb,hgj,wj,C8,h3,h6,h7,o3,o7,d0,eE,seval];exact QN (by decide) (by exact h5) rfl rfl rfl hl (hK _ (by simp only[Hd,W8,QWh,h2,h3,h5,h6,h7,Qa,seval]))

include o2 o7 hM hS in
theorem QQu:JR BW fr 5 m.name (W8 i) (pb m.name (i:Int) (Q2 S x.inn&&Q2 S x.out) 12):=by
 rintro l f K hl ⟨h2,h3,h5,h6,h7,-⟩ hK;obtain⟨l1,_,_⟩:=ZV S hS hM;rw[KY]at o7;have hc1:=ID S l1 x.inn;have hc2:=ID S l1 x.out;simp only[SC.av]at hc1 hc2;simp only[BW,QA,h2,h7,o2,o7,eE,seval];refine aC hc1 ?_;simp only[Sw,Qa,seval];cases a1:Q2 S x.inn
 ·rw[a1]at hK;simp only[QWL]at hK;simp only[h6,QWl,Qa,seval];exact QN (by decide) (by exact h5) rfl rfl rfl hl (hK _ (by simp only[Hd,W8,QWh,h2,h3,h5,h6,h7,Qa,seval]))
 ·rw[a1,QWY,←QXm (Q2 S x.out)]at hK;simp only[QA,h2,h7,o2,o7,QWZ,eE,seval];refine aC hc2 ?_;simp only[Sw,h6,Qa,seval];exact QN (by decide) (by exact h5) rfl rfl rfl hl (hK _ (by simp only[Hd,W8,QWh,h2,h3,h5,h6,h7,Qa,seval]))

include o7 in
theorem QQv:JR BX fr 5 m.name (W8 i) (pb m.name (i:Int) (decide (x.shape≥1)&&decide (x.shape≤4)) 1):=by
 rintro l f K hl ⟨h2,h3,h5,h6,h7,-⟩ hK;rw[KY]at o7;have hb:(decide (x.shape≥1)&&decide (x.shape≤4))=!(decide (x.shape<1)||decide (x.shape > 4)):=(by rw[QV7];simp only[QWA,QV9,QXc,QVF,QV6];omega);rw[hb]at hK;simp only[BX,QA,h7,o7,eE,seval];cases c1:decide (x.shape<1)<;>cases c2:decide (x.shape > 4) <;>
 ·rw[c1,c2]at hK;simp only[c2,QA,h6,h7,o7,eE,seval];exact QN (by decide) (by exact h5) rfl rfl rfl hl (hK _ (by simp only[Hd,W8,QWh,h2,h3,h5,h6,h7,Qa,seval]))

include o7 hi hM hm in
theorem QQw:JR BY fr 5 m.name (W8 i) (XJ m.name (i:Int) x.notes 6):=by
 rintro l f K hl ⟨h2,h3,h5,h6,h7,-⟩ hK;have hx:=hm.meths x (QVw hi);have hln:=hx.len;rw[KY]at o7;simp only[BY,QA,h6,h7,o7,eE,seval];exact KD (by simp only[maxLen];omega) (by simp only[maxLen];omega) hx.notes (by decide) (by exact h5) rfl rfl rfl (by decide) hl (hK _ (by simp only[Hd,W8,QWh,h2,h3,h5,h6,h7,Qa,seval]))
end

section
variable {M:Nat}(hM:M≤1048576)(S:SC)(hS:S.ok M)(m:SQ)(hm:m.ok M)
include hM hS hm in
theorem Ae (l:List PB)(hl:l.length≤1000000)(f:Fr)(fr:Nat→Ob)(h2:f 2=.ptr 0 2 0)(h3:f 3=.ptr 0 3 0)(h5:f 5=.ptr 0 5 0)(h6:f 6=.int .i64 0)
  (o2:fr 2=.cells [.list (S.msgs.map fun n=>.agg n.cells),.list (S.enums.map fun n=>.agg n.cells),.list (S.servs.map fun n=>.agg n.cells)]) (o3:fr 3=.cells m.cells) (o7:fr 7=.none) (Q:Exit→St→Prop)
  (hq:∀(f:Fr) (fr:Nat→Ob),f 3=.ptr 0 3 0→f 5=.ptr 0 5 0→fr 3=.cells m.cells→Q (.exit 0) ⟨f,[Q7 fr 5 1100 m.name (l++upto m.meths (J8 S m) m.meths.length)],[]⟩) :
  QJ Tryz.prog (.loop EY) ⟨f,[Q7 fr 5 1100 m.name l],[]⟩ Q:=by
 let I:Nat→St→Prop:=fun n st=>∃f fr i,st=⟨f,[Q7 fr 5 1100 m.name (l++upto m.meths (J8 S m) i)],[]⟩∧n=m.meths.length-i∧i≤m.meths.length∧f 2=.ptr 0 2 0∧f 3=.ptr 0 3 0∧f 5=.ptr 0 5 0∧f 6=.int .i64 (i:Nat)∧
  fr 2=.cells [.list (S.msgs.map fun n=>.agg n.cells),.list (S.enums.map fun n=>.agg n.cells),.list (S.servs.map fun n=>.agg n.cells)]∧fr 3=.cells m.cells∧(fr 7).isRow=false
 have hl1:=hm.len1;refine Qf I _ ⟨f,fr,0,by rw[upto,QWg],rfl,QVr _,h2,h3,h5,h6,o2,o3,by rw[o7];rfl⟩ ?_;clear h2 h3 h5 h6 o2 o3 o7;rintro _ st ⟨f0,fr0,i,rfl,rfl,hi,h20,h30,h50,h60,J4,KO,r7⟩;refine QR (a:=_) [7] (by
  intro s hs;simp only[QWy,QXi,or_false]at hs;subst hs;rw[ZX _ _ _ _ _ (by decide) (by decide)];exact r7) ?_
 intro f fr hf hmm hn;have h2:f 2=.ptr 0 2 0:=by rw[hf,h20]<;>rfl
 have h3:f 3=.ptr 0 3 0:=by rw[hf,h30]<;>rfl
 have h5:f 5=.ptr 0 5 0:=by rw[hf,h50]<;>rfl
 have h6:f 6=.int .i64 (i:Nat):=by rw[hf,h60]<;>rfl
 have o2:fr 2=.cells [.list (S.msgs.map fun n=>.agg n.cells),.list (S.enums.map fun n=>.agg n.cells),.list (S.servs.map fun n=>.agg n.cells)]:=by rw[hmm 2 (by decide),ZX _ _ _ _ _ (by decide) (by decide),J4]<;>rfl
 have o3:fr 3=.cells m.cells:=by rw[hmm 3 (by decide),ZX _ _ _ _ _ (by decide) (by decide),KO]<;>rfl
 have n7:=hn 7 (by decide);have q0:(l++upto m.meths (J8 S m) i).length≤100000000:=by
  have:=QY (l:=m.meths) (W7 S m) i;rw[QVU];omega
 have hfe:Q7 fr 5 1100 m.name (l++upto m.meths (J8 S m) i)=fr:=Dg _ _ _ _ _ (by rw[hmm 5 (by decide),UJ]<;>rfl) (by rw[hmm 1100 (by decide),UK _ _ _ _ _ (by decide)]<;>rfl);clear hf hmm hn h20 h30 h50 h60 J4 KO r7;have o3':=o3;rw[KS]at o3';simp only[EV,QWE,h3,h6,o3',eE,seval];by_cases hlt:i<m.meths.length
 case neg=>
  have ei:i=m.meths.length:=by omega
  subst ei;simp only[Qu hlt,Qa,seval];rw[←hfe];exact hq _ _ (by exact h3) (by exact h5) o3
 obtain⟨x,hx⟩:∃x,m.meths[i]? = some x:=⟨m.meths[i],QVl hlt⟩;have hg:(m.meths.map fun n=>AV.agg n.cells)[i]? = some (.agg x.cells):=by rw[QWB,hx];rfl
 rw[KY]at hg;have e1:=Qh i _ hlt (by simp only[maxLen];omega);simp only[Qs hlt,n7,EW,Qd,QWH,Qb,hg,h3,h6,o3',eE,seval];rw[←hfe,Dh _ _ _ _ _ (by decide) (by decide)];generalize hF:Qn fr 7 _=F;have p2:F 2=.cells [.list (S.msgs.map fun n=>.agg n.cells),.list (S.enums.map fun n=>.agg n.cells),.list (S.servs.map fun n=>.agg n.cells)]:=by rw[←hF];exact(by exact o2)
 have p3:F 3=.cells m.cells:=by rw[←hF];exact(by exact o3)
 have p7:F 7=.cells x.cells:=by rw[←hF,KY];exact(by rfl)
 clear hF hfe o2 o3 o3' n7;refine us8 m i x F p7 _ _ _ (by omega) (by simp only[Hd,W8,QWh,h2,h3,h5,h6,Qa,seval]) (fun f hf=>?_);clear h2 h3 h5 h6;have q1:=Qy q0 m.name (i:Int) (Xo x.name) 8;simp only[Qa,seval];refine us9 hM m hm i x hx F p3 p7 _ f _ (by omega) hf (fun f hf=>?_);have q2:=Qy q1 m.name (i:Int) (DU m.meths i x) 11;simp only[Qa,seval];refine QQu hM S hS m i x F p2 p7 _ f _ (by omega) hf (fun f hf=>?_);have q3:=Qy q2 m.name (i:Int) (Q2 S x.inn&&Q2 S x.out) 12;simp only[Qa,seval];refine QQv m i x F p7 _ f _ (by omega) hf (fun f hf=>?_);have q4:=Qy q3 m.name (i:Int) (decide (x.shape≥1)&&decide (x.shape≤4)) 1;simp only[Qa,seval];refine QQw hM m hm i x hx F p7 _ f _ (by omega) hf (fun f hf=>?_);obtain⟨h2,h3,h5,h6,h7,-⟩:=hf;simp only[EX,h6,e1,Qa,seval];exact⟨m.meths.length-(i+1),by omega,_,F,i+1,by rw[Zl hx,Ss];simp only[QVC]<;>rfl,rfl,by omega,(by exact h2),(by exact h3),(by exact h5),(by rfl),p2,p3,by rw[p7];rfl⟩

include hM hS hm in
theorem u56:Qj Tryz.prog 56 [S.av,WF m] (.list ((Jz S m).map PB.av)):=by
 have hl1:=hm.len1;have hl2:=hm.len2;have hnl:=hm.name;refine k56.fn (by simp) ?_;simp only[WY,o56,EQ,ER,SC.av,WF,KS m,eE,seval];refine Xm rfl rfl rfl rfl ?_;generalize hb:(Qn (Qn Qg 2 _) 3 _:Nat→Ob)=base;have o2:base 2=.cells [.list (S.msgs.map fun n=>.agg n.cells),.list (S.enums.map fun n=>.agg n.cells),.list (S.servs.map fun n=>.agg n.cells)]:=by rw[←hb];exact(by rfl)
 have o3:base 3=.cells m.cells:=by rw[←hb,KS];exact(by rfl)
 have o7:base 7=.none:=by rw[←hb];rfl
 clear hb;have o3s:=o3;rw[KS]at o3s;rw[Fu base 5 1100 m.name _ (by decide)];simp only[ES,QA,o3s,eE,seval];refine aC (u87 m.name) ?_;simp only[Qa,seval];refine QN (by decide) rfl rfl rfl rfl (by simp) ?_;rw[QXm,QVE];have q1:=Q3 m.name (-1) (XE m.name) 8;have hbb:decide (m.meths.length≤64)=!decide ((m.meths.length:Int) > 64):=(by rw[QV7];simp only[QWA,QV9,QXc];omega);have q2:=Qy q1 m.name (-1) (decide (m.meths.length≤64)) 3;simp only[ET,QA,QWE,o3s,eE,seval];refine QN (by decide) rfl rfl rfl rfl (by omega) ?_;rw[←hbb];simp only[EU,Qa,seval];refine Ae hM S hS m hm _ (by omega) _ base (by rfl) (by rfl) (by rfl) (by rfl) o2 o3 o7 _ (fun f fr h3 h5 o3=>?_);have o3s:=o3;rw[KS]at o3s;have q3:=QY (l:=m.meths) (W7 S m) m.meths.length;simp only[Rz,QA,h3,o3s,eE,seval];refine KD (by simp only[maxLen];omega) (by simp only[maxLen];omega) hm.notes (by decide) (by exact h5) rfl rfl rfl (by decide) (by simp only[QVU]at q2 ⊢;omega) ?_;generalize hL:_++XJ m.name (-1) m.notes 5=L;have hfin:Jz S m=L:=by rw[←hL];rfl
 rw[hfin];simp only[RD,QA,h5,QWE,QVY,WG,QVH,QVi,QWh,QWn,AV.un,eE,seval]
end

theorem u51 (L:List (List UInt8))(hl:L.length≤maxLen):Qj Tryz.prog 51 [.list (L.map Qk)] (.bool (XN L Op.bytesLess)):=by
 let I:Nat→St→Prop:=fun k st=>∃f i,st=⟨f,[Qg],[]⟩∧k=L.length-(i+1)∧Xq (Uk L Op.bytesLess) (i+1)=true∧f 0=.list (L.map Qk)∧f 3=.int .i64 ((i+1:Nat):Int)
 refine k51.fn (by simp) ?_;simp only[Qa,seval];refine Qf I _ ⟨_,0,rfl,rfl,rfl,(by rfl),(by rfl)⟩ ?_;rintro _ st ⟨f,i,rfl,rfl,hx,h0,h3⟩;simp only[QWE,h0,h3,Qa,seval];by_cases hlt:i+1<L.length
 ·obtain⟨x,hi⟩:∃x,L[i]? = some x:=⟨L[i]'(by omega),QVl (by omega)⟩;obtain⟨y,hj⟩:∃y,L[i+1]? = some y:=⟨L[i+1],QVl hlt⟩;have hg:(L.map Qk)[i]? = some (.str x):=by simp[hi,Qk]
  have hh:(L.map Qk)[i+1]? = some (.str y):=by simp[hj,Qk]
  have e1:=Qh (i+1) _ hlt hl;have e2:=KA i _ hlt hl;simp only[Qs hlt,e2,C8,Qd,QWH,Qb,hg,hh,h0,h3,eE,seval];have hs:Xq (Uk L Op.bytesLess) (i+2)=Op.bytesLess x y:=by
   show(Xq (Uk L Op.bytesLess) (i+1)&&Uk L Op.bytesLess (i+1))=_;rw[hx,JL hi hj,QWY]
  cases hp:Op.bytesLess x y
  ·rw[hp]at hs;have hf:XN L Op.bytesLess=false:=by
    rw[QW6];intro h';rw[QU.2 fun k hk=>QU.1 h' k (by omega)]at hs;cases hs
   simp only[hf,QWl,Qa,seval]
  ·rw[hp]at hs;simp only[h3,e1,QWZ,Qa,seval];exact⟨L.length-(i+2),by omega,_,i+1,rfl,rfl,hs,(by exact h0),(by rfl)⟩
 ·have hf:XN L Op.bytesLess=true:=QU.2 fun k hk=>QU.1 hx k (by omega)
  simp only[Qu hlt,hf,Qa,seval]

theorem u52 (A B:List (List UInt8))(hA:A.length≤maxLen)(hB:B.length≤maxLen):Qj Tryz.prog 52 [.list (A.map Qk),.list (B.map Qk)] (.bool (A.any fun s=>B.contains s)):=by
 let I:Nat→St→Prop:=fun k st=>∃f i,st=⟨f,[Qg],[]⟩∧k=A.length-i∧i≤A.length∧(A.take i).any (fun s=>B.contains s)=false∧f 0=.list (A.map Qk)∧f 1=.list (B.map Qk)∧f 5=.int .i64 (i:Nat)
 refine k52.fn (by simp) ?_;simp only[Qa,seval];refine Qf I _ ⟨_,0,rfl,rfl,QVr _,rfl,(by rfl),(by rfl),(by rfl)⟩ ?_;rintro _ st ⟨f,i,rfl,rfl,hil,hx,h0,h1,h5⟩;simp only[QWE,h0,h5,Qa,seval];by_cases hlt:i<A.length
 ·obtain⟨x,hi⟩:∃x,A[i]? = some x:=⟨A[i],QVl hlt⟩;have hg:(A.map Qk)[i]? = some (.str x):=by simp[hi,Qk]
  have e1:=Qh i _ hlt hA;have ht:=Kd (q:=fun s=>B.contains s) hi;rw[hx,QW1]at ht;simp only[Qs hlt,Qd,QWH,Qb,hg,h0,h1,h5,eE,seval];refine aC (u85 B hB x) ?_;cases hp:B.contains x
  ·rw[hp]at ht;simp only[h5,e1,Qa,seval];exact⟨A.length-(i+1),by omega,_,i+1,rfl,rfl,by omega,ht,(by exact h0),(by exact h1),(by rfl)⟩
  ·have hr:(A.any fun s=>B.contains s)=true:=QWR.2 ⟨x,QVw hi,hp⟩;simp only[hr,Qa,seval]
 ·have hr:(A.any fun s=>B.contains s)=false:=by rw[←hx,QVQ (by omega)]
  simp only[Qu hlt,hr,Qa,seval]

def Q0 (S:SC)(w:Int):List (List UInt8):=(if w=1 then S.msgs.map SM.name else [])++(if w=2 then S.enums.map SE.name else [])++(if w=3 then S.servs.map SQ.name else [])
section
variable {M:Nat}(hM:M≤1048576)(S:SC)(hS:S.ok M)(w:Int)
include hM hS in
theorem QQx (L:List (List UInt8))(hL:L.length≤10000000)(f:Fr)(fr:Nat→Ob)(g:Nat)(h1:f 1=.int .i64 w)(h2:f 2=.ptr 0 2 0)(h5:f 5=.vec 0 5 g 0 L.length false)(hk:f 6=.int .i64 0)
  (o2:fr 2=.cells [.list (S.msgs.map fun n=>.agg n.cells),.list (S.enums.map fun n=>.agg n.cells),.list (S.servs.map fun n=>.agg n.cells)]) (o5:fr 5=.vec g 1 (L.map Qk)) (Q:Exit→St→Prop)
  (hq:∀(f:Fr) (fr:Nat→Ob) (g:Nat) (L2:List (List UInt8)),L2=L++(if w=1 then S.msgs.map SM.name else [])→f 1=.int .i64 w→f 2=.ptr 0 2 0→f 5=.vec 0 5 g 0 L2.length false→fr 2=.cells [.list (S.msgs.map fun n=>.agg n.cells),.list (S.enums.map fun n=>.agg n.cells),.list (S.servs.map fun n=>.agg n.cells)]→fr 5=.vec g 1 (L2.map Qk)→Q (.exit 0) ⟨f,[fr],[]⟩):QJ Tryz.prog (.loop Er) ⟨f,[fr],[]⟩ Q:=by
 have hl1:=hS.len1;by_cases hw:w=1
 case neg=>
  have d:(w==1)=false:=by simp[hw]
  refine Qf (fun k st=>k=0∧st=⟨f,[fr],[]⟩) 0 ⟨rfl,rfl⟩ ?_;rintro _ st ⟨rfl,rfl⟩;simp only[h1,d,Qa,seval];exact hq _ _ g L (by rw[QVp hw,QWg]) (by exact h1) (by exact h2) (by exact h5) o2 o5
 have d:(w==1)=true:=by simp[hw]
 rw[QVq hw]at hq
 let I:Nat→St→Prop:=fun n st=>∃f fr i g L2,st=⟨f,[fr],[]⟩∧n=S.msgs.length-i∧i≤S.msgs.length∧L2=L++(S.msgs.take i).map SM.name∧f 1=.int .i64 w∧f 2=.ptr 0 2 0∧f 5=.vec 0 5 g 0 L2.length false∧f 6=.int .i64 (i:Nat)∧
  fr 2=.cells [.list (S.msgs.map fun n=>.agg n.cells),.list (S.enums.map fun n=>.agg n.cells),.list (S.servs.map fun n=>.agg n.cells)]∧fr 5=.vec g 1 (L2.map Qk)
 refine Qf I _ ⟨f,fr,0,g,L,rfl,rfl,QVr _,by simp,h1,h2,h5,hk,o2,o5⟩ ?_;clear h1 h2 h5 hk o2 o5;rintro _ st ⟨f,fr,i,g,L2,rfl,rfl,hi,hL2,h1,h2,h5,hk,o2,o5⟩;simp only[QWE,h1,h2,hk,o2,d,eE,seval];by_cases hlt:i<S.msgs.length
 case neg=>
  simp only[Qu hlt,Qa,seval];rw[QVQ (by omega)]at hL2;exact hq _ _ g L2 hL2 (by exact h1) (by exact h2) (by exact h5) o2 o5
 obtain⟨x,hx⟩:∃x,S.msgs[i]? = some x:=⟨S.msgs[i],QVl hlt⟩;have hg:(S.msgs.map fun n=>AV.agg n.cells)[i]? = some (.agg x.cells):=by rw[QWB,hx];rfl
 rw[XL]at hg;have e1:=Qh i _ hlt (by simp only[maxLen];omega);have hsu:L2++[x.name]=L++(S.msgs.take (i+1)).map SM.name:=by rw[QWT,hx,QWU,QWS,hL2,QVC];rfl
 have hll:L2.length≤20000000:=by
  rw[hL2,QVU,QWE,QV8];omega
 simp only[Qs hlt,Qd,QWH,Qb,hg,h2,h5,hk,o2,eE,seval];refine ZD (w:=x.name) rfl ?_;refine QI (xs:=L2.map Qk) (by rfl) o5 rfl (by simp) (by rfl) rfl (by simp only[QVx,QWp,maxLen];omega) (by simp only[QVx,QWp];omega) ?_;simp only[hk,e1,Qa,seval];exact⟨S.msgs.length-(i+1),by omega,_,_,i+1,g+1,L2++[x.name],rfl,rfl,by omega,hsu,(by exact h1),(by exact h2),by rw[QVU];exact(by rfl),(by rfl),(by exact o2),by rw[QWS];exact(by rfl)⟩

include hM hS in
theorem QQy (L:List (List UInt8))(hL:L.length≤10000000)(f:Fr)(fr:Nat→Ob)(g:Nat)(h1:f 1=.int .i64 w)(h2:f 2=.ptr 0 2 0)(h5:f 5=.vec 0 5 g 0 L.length false)(hk:f 7=.int .i64 0)
  (o2:fr 2=.cells [.list (S.msgs.map fun n=>.agg n.cells),.list (S.enums.map fun n=>.agg n.cells),.list (S.servs.map fun n=>.agg n.cells)]) (o5:fr 5=.vec g 1 (L.map Qk)) (Q:Exit→St→Prop)
  (hq:∀(f:Fr) (fr:Nat→Ob) (g:Nat) (L2:List (List UInt8)),L2=L++(if w=2 then S.enums.map SE.name else [])→f 1=.int .i64 w→f 2=.ptr 0 2 0→f 5=.vec 0 5 g 0 L2.length false→fr 2=.cells [.list (S.msgs.map fun n=>.agg n.cells),.list (S.enums.map fun n=>.agg n.cells),.list (S.servs.map fun n=>.agg n.cells)]→fr 5=.vec g 1 (L2.map Qk)→Q (.exit 2) ⟨f,[fr],[]⟩):QJ Tryz.prog (.loop Es) ⟨f,[fr],[]⟩ Q:=by
 have hl1:=hS.len2;by_cases hw:w=2
 case neg=>
  have d:(w==2)=false:=by simp[hw]
  refine Qf (fun k st=>k=0∧st=⟨f,[fr],[]⟩) 0 ⟨rfl,rfl⟩ ?_;rintro _ st ⟨rfl,rfl⟩;simp only[h1,d,Qa,seval];exact hq _ _ g L (by rw[QVp hw,QWg]) (by exact h1) (by exact h2) (by exact h5) o2 o5
 have d:(w==2)=true:=by simp[hw]
 rw[QVq hw]at hq
 let I:Nat→St→Prop:=fun n st=>∃f fr i g L2,st=⟨f,[fr],[]⟩∧n=S.enums.length-i∧i≤S.enums.length∧L2=L++(S.enums.take i).map SE.name∧f 1=.int .i64 w∧f 2=.ptr 0 2 0∧f 5=.vec 0 5 g 0 L2.length false∧f 7=.int .i64 (i:Nat)∧
  fr 2=.cells [.list (S.msgs.map fun n=>.agg n.cells),.list (S.enums.map fun n=>.agg n.cells),.list (S.servs.map fun n=>.agg n.cells)]∧fr 5=.vec g 1 (L2.map Qk)
 refine Qf I _ ⟨f,fr,0,g,L,rfl,rfl,QVr _,by simp,h1,h2,h5,hk,o2,o5⟩ ?_;clear h1 h2 h5 hk o2 o5;rintro _ st ⟨f,fr,i,g,L2,rfl,rfl,hi,hL2,h1,h2,h5,hk,o2,o5⟩;simp only[QWE,h1,h2,hk,o2,d,eE,seval];by_cases hlt:i<S.enums.length
 case neg=>
  simp only[Qu hlt,Qa,seval];rw[QVQ (by omega)]at hL2;exact hq _ _ g L2 hL2 (by exact h1) (by exact h2) (by exact h5) o2 o5
 obtain⟨x,hx⟩:∃x,S.enums[i]? = some x:=⟨S.enums[i],QVl hlt⟩;have hg:(S.enums.map fun n=>AV.agg n.cells)[i]? = some (.agg x.cells):=by rw[QWB,hx];rfl
 rw[X7]at hg;have e1:=Qh i _ hlt (by simp only[maxLen];omega);have hsu:L2++[x.name]=L++(S.enums.take (i+1)).map SE.name:=by rw[QWT,hx,QWU,QWS,hL2,QVC];rfl
 have hll:L2.length≤20000000:=by
  rw[hL2,QVU,QWE,QV8];omega
 simp only[Qs hlt,Qd,QWH,Qb,hg,h2,h5,hk,o2,eE,seval];refine ZD (w:=x.name) rfl ?_;refine QI (xs:=L2.map Qk) (by rfl) o5 rfl (by simp) (by rfl) rfl (by simp only[QVx,QWp,maxLen];omega) (by simp only[QVx,QWp];omega) ?_;simp only[hk,e1,Qa,seval];exact⟨S.enums.length-(i+1),by omega,_,_,i+1,g+1,L2++[x.name],rfl,rfl,by omega,hsu,(by exact h1),(by exact h2),by rw[QVU];exact(by rfl),(by rfl),(by exact o2),by rw[QWS];exact(by rfl)⟩

include hM hS in
theorem QQz (L:List (List UInt8))(hL:L.length≤10000000)(f:Fr)(fr:Nat→Ob)(g:Nat)(h1:f 1=.int .i64 w)(h2:f 2=.ptr 0 2 0)(h5:f 5=.vec 0 5 g 0 L.length false)(hk:f 8=.int .i64 0)
  (o2:fr 2=.cells [.list (S.msgs.map fun n=>.agg n.cells),.list (S.enums.map fun n=>.agg n.cells),.list (S.servs.map fun n=>.agg n.cells)]) (o5:fr 5=.vec g 1 (L.map Qk)) (Q:Exit→St→Prop)
  (hq:∀(f:Fr) (fr:Nat→Ob) (g:Nat) (L2:List (List UInt8)),L2=L++(if w=3 then S.servs.map SQ.name else [])→f 1=.int .i64 w→f 2=.ptr 0 2 0→f 5=.vec 0 5 g 0 L2.length false→fr 2=.cells [.list (S.msgs.map fun n=>.agg n.cells),.list (S.enums.map fun n=>.agg n.cells),.list (S.servs.map fun n=>.agg n.cells)]→fr 5=.vec g 1 (L2.map Qk)→Q (.exit 4) ⟨f,[fr],[]⟩):QJ Tryz.prog (.loop Et) ⟨f,[fr],[]⟩ Q:=by
 have hl1:=hS.len3;by_cases hw:w=3
 case neg=>
  have d:(w==3)=false:=by simp[hw]
  refine Qf (fun k st=>k=0∧st=⟨f,[fr],[]⟩) 0 ⟨rfl,rfl⟩ ?_;rintro _ st ⟨rfl,rfl⟩;simp only[h1,d,Qa,seval];exact hq _ _ g L (by rw[QVp hw,QWg]) (by exact h1) (by exact h2) (by exact h5) o2 o5
 have d:(w==3)=true:=by simp[hw]
 rw[QVq hw]at hq
 let I:Nat→St→Prop:=fun n st=>∃f fr i g L2,st=⟨f,[fr],[]⟩∧n=S.servs.length-i∧i≤S.servs.length∧L2=L++(S.servs.take i).map SQ.name∧f 1=.int .i64 w∧f 2=.ptr 0 2 0∧f 5=.vec 0 5 g 0 L2.length false∧f 8=.int .i64 (i:Nat)∧
  fr 2=.cells [.list (S.msgs.map fun n=>.agg n.cells),.list (S.enums.map fun n=>.agg n.cells),.list (S.servs.map fun n=>.agg n.cells)]∧fr 5=.vec g 1 (L2.map Qk)
 refine Qf I _ ⟨f,fr,0,g,L,rfl,rfl,QVr _,by simp,h1,h2,h5,hk,o2,o5⟩ ?_;clear h1 h2 h5 hk o2 o5;rintro _ st ⟨f,fr,i,g,L2,rfl,rfl,hi,hL2,h1,h2,h5,hk,o2,o5⟩;simp only[QWE,h1,h2,hk,o2,d,eE,seval];by_cases hlt:i<S.servs.length
 case neg=>
  simp only[Qu hlt,Qa,seval];rw[QVQ (by omega)]at hL2;exact hq _ _ g L2 hL2 (by exact h1) (by exact h2) (by exact h5) o2 o5
 obtain⟨x,hx⟩:∃x,S.servs[i]? = some x:=⟨S.servs[i],QVl hlt⟩;have hg:(S.servs.map fun n=>AV.agg n.cells)[i]? = some (.agg x.cells):=by rw[QWB,hx];rfl
 rw[KS]at hg;have e1:=Qh i _ hlt (by simp only[maxLen];omega);have hsu:L2++[x.name]=L++(S.servs.take (i+1)).map SQ.name:=by rw[QWT,hx,QWU,QWS,hL2,QVC];rfl
 have hll:L2.length≤20000000:=by
  rw[hL2,QVU,QWE,QV8];omega
 simp only[Qs hlt,Qd,QWH,Qb,hg,h2,h5,hk,o2,eE,seval];refine ZD (w:=x.name) rfl ?_;refine QI (xs:=L2.map Qk) (by rfl) o5 rfl (by simp) (by rfl) rfl (by simp only[QVx,QWp,maxLen];omega) (by simp only[QVx,QWp];omega) ?_;simp only[hk,e1,Qa,seval];exact⟨S.servs.length-(i+1),by omega,_,_,i+1,g+1,L2++[x.name],rfl,rfl,by omega,hsu,(by exact h1),(by exact h2),by rw[QVU];exact(by rfl),(by rfl),(by exact o2),by rw[QWS];exact(by rfl)⟩

include hM hS in
theorem IF:Qj Tryz.prog 49 [S.av,.int .i64 w] (.list ((Q0 S w).map Qk)):=by
 have l1:=hS.len1;have l2:=hS.len2;have l3:=hS.len3;have hi:∀(p:Prop) [Decidable p] (l:List (List UInt8)),l.length≤1048576→(if p then l else []).length≤1048576:=by
  intro p _ l h;split
  ·exact h
  ·simp
 have m1:=hi (w=1) (S.msgs.map SM.name) (by rw[QWE];omega);have m2:=hi (w=2) (S.enums.map SE.name) (by rw[QWE];omega);have m3:=hi (w=3) (S.servs.map SQ.name) (by rw[QWE];omega);refine k49.fn (by simp) ?_;simp only[SC.av,eE,seval];refine Zv rfl rfl ?_;simp only[Qa,seval];refine QQx hM S hS w [] (by simp) _ _ 1 (by rfl) (by rfl) (by rfl) (by rfl) (by rfl) (by rfl) _ (fun f fr g L2 hL h1 h2 h5 o2 o5=>?_);simp only[Qa,seval];refine QQy hM S hS w L2 (by rw[hL,QVE];omega) _ _ g (by exact h1) (by exact h2) (by exact h5) (by rfl) o2 o5 _ (fun f fr g L3 hL3 h1 h2 h5 o2 o5=>?_);simp only[Qa,seval];refine QQz hM S hS w L3 (by rw[hL3,hL,QVE,QVU];omega) _ _ g (by exact h1) (by exact h2) (by exact h5) (by rfl) o2 o5 _ (fun f fr g L4 hL4 h1 h2 h5 o2 o5=>?_);have e:Q0 S w=L4:=by rw[hL4,hL3,hL];rfl
 have ht:List.take L4.length (L4.map Qk)=L4.map Qk:=QVQ (by simp);rw[e];simp only[h5,o5,ht,QWE,QVY,QVH,QVi,QWh,QWn,AV.un,eE,seval]
end

theorem Hq (A B:List (List UInt8)):(A.any fun s=>B.contains s)=B.any fun s=>A.contains s:=by
 rw[QV7,QWR,QWR]
 constructor
 ·rintro⟨x,h1,h2⟩;exact⟨x,QXj.1 h2,QXj.2 h1⟩
 ·rintro⟨x,h1,h2⟩;exact⟨x,QXj.1 h2,QXj.2 h1⟩

section
variable {M:Nat}(hM:M≤1048576)(S:SC)(hS:S.ok M)(h8:S.msgs.length≤8∧S.enums.length≤8∧S.servs.length≤8)

include hM hS h8 in
theorem QQA (fr:Nat→Ob)(o1:fr 1=.cells [.list (S.msgs.map fun n=>.agg n.cells),.list (S.enums.map fun n=>.agg n.cells),.list (S.servs.map fun n=>.agg n.cells)])(f:Fr)(h1:f 1=.ptr 0 1 0)(h3:f 3=.ptr 0 3 0)(h4:f 4=.int .i64 1)(Q:Exit→St→Prop)
  (hq:∀f,f 1=.ptr 0 1 0→f 3=.ptr 0 3 0→Q (.exit 0) ⟨f,[Q7 fr 3 1100 [] (JQ (Q0 S 1) (Q0 S 2) (Q0 S 3) 3)],[]⟩):QJ Tryz.prog (.loop CL) ⟨f,[Q7 fr 3 1100 [] []],[]⟩ Q:=by
 obtain⟨l1,l2,l3⟩:=h8;have n1:(Q0 S 1).length≤8:=by simp[Q0];omega
 have n2:(Q0 S 2).length≤8:=by simp[Q0];omega
 have n3:(Q0 S 3).length≤8:=by simp[Q0];omega
 let I:Nat→St→Prop:=fun n st=>∃f i,st=⟨f,[Q7 fr 3 1100 [] (JQ (Q0 S 1) (Q0 S 2) (Q0 S 3) i)],[]⟩∧n=3-i∧i≤3∧f 1=.ptr 0 1 0∧f 3=.ptr 0 3 0∧f 4=.int .i64 ((i+1:Nat):Int)
 refine Qf I _ ⟨f,0,rfl,rfl,by omega,h1,h3,h4⟩ ?_;clear h1 h3 h4;rintro _ st ⟨f,i,rfl,rfl,hi,h1,h3,h4⟩;simp only[CL,Eh,h4,Qa,seval];by_cases hlt:i<3
 case neg=>
  have e:i=3:=by omega
  subst e;have d:decide (((3+1:Nat):Int)≤3)=false:=rfl;simp only[Qa,seval];exact hq _ (by exact h1) (by exact h3)
 have d:decide (((i+1:Nat):Int)≤3)=true:=QXb (by omega);have e1:IntKind.i64.wrap (((i+1:Nat):Int)+1)=((i+1+1:Nat):Int):=by simp only[Jb];omega
 have hc:=IF hM S hS ((i+1:Nat):Int);simp only[SC.av]at hc;obtain⟨L,hLe,hLl,hp,hps⟩:∃L,Q0 S ((i+1:Nat):Int)=L∧L.length≤8∧(JQ (Q0 S 1) (Q0 S 2) (Q0 S 3) i).length≤100∧JQ (Q0 S 1) (Q0 S 2) (Q0 S 3) (i+1)=JQ (Q0 S 1) (Q0 S 2) (Q0 S 3) i++Jp L:=by
  have b1:=ZW (Q0 S 1);have b2:=ZW (Q0 S 2);rcases(show i=0∨i=1∨i=2 by omega)with rfl|rfl|rfl
  ·exact⟨_,rfl,n1,by simp[JQ],rfl⟩
  ·exact⟨_,rfl,n2,by simp only[JQ];omega,rfl⟩
  ·exact⟨_,rfl,n3,by simp only[JQ,QVU];omega,rfl⟩
 rw[hLe]at hc;generalize JQ (Q0 S 1) (Q0 S 2) (Q0 S 3) i=p at *;have q1:=Qy hp [] (-1) (decide (L.length≤64)) 3;have hb:decide (L.length≤64)=!decide ((L.length:Int) > 64):=(by rw[QV7];simp only[QWA,QV9,QXc];omega);simp only[d,Ei,QA,h1,h4,o1,eE,seval];refine aC hc ?_;simp only[Ej,QWE,Qa,seval];refine QN (by decide) (by exact h3) rfl rfl rfl (by omega) ?_;rw[←hb];simp only[Ek,Qa,seval];refine aC (u51 L (by simp only[maxLen];omega)) ?_;simp only[Qa,seval];refine QN (by decide) (by exact h3) rfl rfl rfl (by omega) ?_;simp only[Em,h4,e1,Qa,seval];exact⟨3-(i+1),by omega,_,i+1,by rw[hps,Jp,QXm,QVC],rfl,by omega,(by exact h1),(by exact h3),(by rfl)⟩

def AS (fr:Nat→Ob)(L:List PB):Prop:=∃g,fr 3=.cells [.str [],.vec 0 1100 g 0 L.length false]∧fr 1100=.vec g 3 (L.map PB.av)

include hM hS in
theorem QQB (hF:(QT S).length=S.msgs.length)(l:List PB)(hl:l.length≤1000000000)(h8:S.msgs.length≤8)(f:Fr)(fr:Nat→Ob)(h1:f 1=.ptr 0 1 0)(h3:f 3=.ptr 0 3 0)(h9:f 9=.list ((QT S).map AV.bool))(hk:f 10=.int .i64 0)
  (o1:fr 1=.cells [.list (S.msgs.map fun n=>.agg n.cells),.list (S.enums.map fun n=>.agg n.cells),.list (S.servs.map fun n=>.agg n.cells)]) (hA:AS fr l) (Q:Exit→St→Prop)
  (hq:∀(f:Fr) (fr:Nat→Ob),f 1=.ptr 0 1 0→f 3=.ptr 0 3 0→f 9=.list ((QT S).map AV.bool)→fr 1=.cells [.list (S.msgs.map fun n=>.agg n.cells),.list (S.enums.map fun n=>.agg n.cells),.list (S.servs.map fun n=>.agg n.cells)]→AS fr (l++S.msgs.flatMap (Jn S (Xg S (QT S))))→Q (.exit 2) ⟨f,[fr],[]⟩):QJ Tryz.prog (.loop Ff) ⟨f,[fr],[]⟩ Q:=by
 let I:Nat→St→Prop:=fun n st=>∃f fr i,st=⟨f,[fr],[]⟩∧n=S.msgs.length-i∧i≤S.msgs.length∧f 1=.ptr 0 1 0∧f 3=.ptr 0 3 0∧f 9=.list ((QT S).map AV.bool)∧f 10=.int .i64 (i:Nat)∧
  fr 1=.cells [.list (S.msgs.map fun n=>.agg n.cells),.list (S.enums.map fun n=>.agg n.cells),.list (S.servs.map fun n=>.agg n.cells)]∧AS fr (l++(S.msgs.take i).flatMap (Jn S (Xg S (QT S))))
 have hg:∀x∈S.msgs,((Jn S (Xg S (QT S))) x).length≤14000000:=fun x hx=>UH hM S _ x (hS.msgs x hx)
 have _:=hF;refine Qf I _ ⟨f,fr,0,rfl,rfl,QVr _,h1,h3,h9,hk,o1,by simpa using hA⟩ ?_;clear h1 h3 h9 hk o1 hA;rintro _ st ⟨f,fr,i,rfl,rfl,hi,h1,h3,h9,hk,o1,⟨g,oS,oR⟩⟩;simp only[Ff,Rf,Rg,Rh,QWE,h1,hk,o1,eE,seval];by_cases hlt:i<S.msgs.length
 case neg=>
  have e:i=S.msgs.length:=by omega
  subst e;simp only[Qu hlt,Qa,seval];rw[QWQ]at oS oR;exact hq _ _ (by exact h1) (by exact h3) (by exact h9) o1 ⟨g,oS,oR⟩
 obtain⟨x,hx⟩:∃x,S.msgs[i]? = some x:=⟨S.msgs[i],QVl hlt⟩;have hm:=QVw hx;have hgx:(S.msgs.map fun n=>AV.agg n.cells)[i]? = some (.agg x.cells):=by rw[QWB,hx];rfl
 rw[XL]at hgx;have e1:=Qh i _ hlt (by simp only[maxLen];omega);have q1:=Jq hg i;have q2:=hg x hm;have hc:=u54 hM S hS x (hS.msgs x hm) (QT S) hF;simp only[Q4,XL x,SC.av]at hc;simp only[Qs hlt,Qd,QWH,Qb,hgx,h1,h3,h9,hk,o1,oS,eE,seval];refine aC hc ?_;refine QI (xs:=(l++(S.msgs.take i).flatMap (Jn S (Xg S (QT S)))).map PB.av) (by rfl) (by exact oR) rfl (by simp) (by rfl) (Df _) (by simp only[QVU,QWE,maxLen];omega) (by simp only[QVU,QWE];omega) ?_;simp only[h3,hk,oS,e1,eE,seval];refine⟨S.msgs.length-(i+1),by omega,_,_,i+1,rfl,rfl,by omega,(by exact h1),(by exact h3),(by exact h9),(by rfl),(by exact o1),⟨g+1,?_,?_⟩⟩
 ·rw[Zn hx,←QVC];simp only[QVU,QWE,Qa,seval]
 ·rw[Zn hx,←QVC];simp only[QWS,Qa,seval]

include hM hS in
theorem QQC (hF:(QT S).length=S.msgs.length)(l:List PB)(hl:l.length≤1000000000)(h8:S.enums.length≤8)(f:Fr)(fr:Nat→Ob)(h1:f 1=.ptr 0 1 0)(h3:f 3=.ptr 0 3 0)(h9:f 9=.list ((QT S).map AV.bool))(hk:f 11=.int .i64 0)
  (o1:fr 1=.cells [.list (S.msgs.map fun n=>.agg n.cells),.list (S.enums.map fun n=>.agg n.cells),.list (S.servs.map fun n=>.agg n.cells)]) (hA:AS fr l) (Q:Exit→St→Prop)
  (hq:∀(f:Fr) (fr:Nat→Ob),f 1=.ptr 0 1 0→f 3=.ptr 0 3 0→f 9=.list ((QT S).map AV.bool)→fr 1=.cells [.list (S.msgs.map fun n=>.agg n.cells),.list (S.enums.map fun n=>.agg n.cells),.list (S.servs.map fun n=>.agg n.cells)]→AS fr (l++S.enums.flatMap (Jj))→Q (.exit 4) ⟨f,[fr],[]⟩):QJ Tryz.prog (.loop Fg) ⟨f,[fr],[]⟩ Q:=by
 let I:Nat→St→Prop:=fun n st=>∃f fr i,st=⟨f,[fr],[]⟩∧n=S.enums.length-i∧i≤S.enums.length∧f 1=.ptr 0 1 0∧f 3=.ptr 0 3 0∧f 9=.list ((QT S).map AV.bool)∧f 11=.int .i64 (i:Nat)∧
  fr 1=.cells [.list (S.msgs.map fun n=>.agg n.cells),.list (S.enums.map fun n=>.agg n.cells),.list (S.servs.map fun n=>.agg n.cells)]∧AS fr (l++(S.enums.take i).flatMap (Jj))
 have hg:∀x∈S.enums,((Jj) x).length≤14000000:=fun x hx=>UI hM x (hS.enums x hx)
 have _:=hF;refine Qf I _ ⟨f,fr,0,rfl,rfl,QVr _,h1,h3,h9,hk,o1,by simpa using hA⟩ ?_;clear h1 h3 h9 hk o1 hA;rintro _ st ⟨f,fr,i,rfl,rfl,hi,h1,h3,h9,hk,o1,⟨g,oS,oR⟩⟩;simp only[Fg,Ri,Rj,Rk,QWE,h1,hk,o1,eE,seval];by_cases hlt:i<S.enums.length
 case neg=>
  have e:i=S.enums.length:=by omega
  subst e;simp only[Qu hlt,Qa,seval];rw[QWQ]at oS oR;exact hq _ _ (by exact h1) (by exact h3) (by exact h9) o1 ⟨g,oS,oR⟩
 obtain⟨x,hx⟩:∃x,S.enums[i]? = some x:=⟨S.enums[i],QVl hlt⟩;have hm:=QVw hx;have hgx:(S.enums.map fun n=>AV.agg n.cells)[i]? = some (.agg x.cells):=by rw[QWB,hx];rfl
 rw[X7]at hgx;have e1:=Qh i _ hlt (by simp only[maxLen];omega);have q1:=Jq hg i;have q2:=hg x hm;have hc:=u55 hM x (hS.enums x hm);simp only[X3,X7 x]at hc;simp only[Qs hlt,Qd,QWH,Qb,hgx,h1,h3,hk,o1,oS,eE,seval];refine aC hc ?_;refine QI (xs:=(l++(S.enums.take i).flatMap (Jj)).map PB.av) (by rfl) (by exact oR) rfl (by simp) (by rfl) (Df _) (by simp only[QVU,QWE,maxLen];omega) (by simp only[QVU,QWE];omega) ?_;simp only[h3,hk,oS,e1,eE,seval];refine⟨S.enums.length-(i+1),by omega,_,_,i+1,rfl,rfl,by omega,(by exact h1),(by exact h3),(by exact h9),(by rfl),(by exact o1),⟨g+1,?_,?_⟩⟩
 ·rw[Zn hx,←QVC];simp only[QVU,QWE,Qa,seval]
 ·rw[Zn hx,←QVC];simp only[QWS,Qa,seval]

include hM hS in
theorem QQD (hF:(QT S).length=S.msgs.length)(l:List PB)(hl:l.length≤1000000000)(h8:S.servs.length≤8)(f:Fr)(fr:Nat→Ob)(h1:f 1=.ptr 0 1 0)(h3:f 3=.ptr 0 3 0)(h9:f 9=.list ((QT S).map AV.bool))(hk:f 12=.int .i64 0)
  (o1:fr 1=.cells [.list (S.msgs.map fun n=>.agg n.cells),.list (S.enums.map fun n=>.agg n.cells),.list (S.servs.map fun n=>.agg n.cells)]) (hA:AS fr l) (Q:Exit→St→Prop)
  (hq:∀(f:Fr) (fr:Nat→Ob),f 1=.ptr 0 1 0→f 3=.ptr 0 3 0→f 9=.list ((QT S).map AV.bool)→fr 1=.cells [.list (S.msgs.map fun n=>.agg n.cells),.list (S.enums.map fun n=>.agg n.cells),.list (S.servs.map fun n=>.agg n.cells)]→AS fr (l++S.servs.flatMap (Jz S))→Q (.exit 6) ⟨f,[fr],[]⟩):QJ Tryz.prog (.loop Fh) ⟨f,[fr],[]⟩ Q:=by
 let I:Nat→St→Prop:=fun n st=>∃f fr i,st=⟨f,[fr],[]⟩∧n=S.servs.length-i∧i≤S.servs.length∧f 1=.ptr 0 1 0∧f 3=.ptr 0 3 0∧f 9=.list ((QT S).map AV.bool)∧f 12=.int .i64 (i:Nat)∧
  fr 1=.cells [.list (S.msgs.map fun n=>.agg n.cells),.list (S.enums.map fun n=>.agg n.cells),.list (S.servs.map fun n=>.agg n.cells)]∧AS fr (l++(S.servs.take i).flatMap (Jz S))
 have hg:∀x∈S.servs,((Jz S) x).length≤14000000:=fun x hx=>VX hM S x (hS.servs x hx)
 have _:=hF;refine Qf I _ ⟨f,fr,0,rfl,rfl,QVr _,h1,h3,h9,hk,o1,by simpa using hA⟩ ?_;clear h1 h3 h9 hk o1 hA;rintro _ st ⟨f,fr,i,rfl,rfl,hi,h1,h3,h9,hk,o1,⟨g,oS,oR⟩⟩;simp only[Fh,Rl,Rm,Rn,QWE,h1,hk,o1,eE,seval];by_cases hlt:i<S.servs.length
 case neg=>
  have e:i=S.servs.length:=by omega
  subst e;simp only[Qu hlt,Qa,seval];rw[QWQ]at oS oR;exact hq _ _ (by exact h1) (by exact h3) (by exact h9) o1 ⟨g,oS,oR⟩
 obtain⟨x,hx⟩:∃x,S.servs[i]? = some x:=⟨S.servs[i],QVl hlt⟩;have hm:=QVw hx;have hgx:(S.servs.map fun n=>AV.agg n.cells)[i]? = some (.agg x.cells):=by rw[QWB,hx];rfl
 rw[KS]at hgx;have e1:=Qh i _ hlt (by simp only[maxLen];omega);have q1:=Jq hg i;have q2:=hg x hm;have hc:=u56 hM S hS x (hS.servs x hm);simp only[WF,KS x,SC.av]at hc;simp only[Qs hlt,Qd,QWH,Qb,hgx,h1,h3,hk,o1,oS,eE,seval];refine aC hc ?_;refine QI (xs:=(l++(S.servs.take i).flatMap (Jz S)).map PB.av) (by rfl) (by exact oR) rfl (by simp) (by rfl) (Df _) (by simp only[QVU,QWE,maxLen];omega) (by simp only[QVU,QWE];omega) ?_;simp only[h3,hk,oS,e1,eE,seval];refine⟨S.servs.length-(i+1),by omega,_,_,i+1,rfl,rfl,by omega,(by exact h1),(by exact h3),(by exact h9),(by rfl),(by exact o1),⟨g+1,?_,?_⟩⟩
 ·rw[Zn hx,←QVC];simp only[QVU,QWE,Qa,seval]
 ·rw[Zn hx,←QVC];simp only[QWS,Qa,seval]

theorem Hr (S:SC):(QT S).length=S.msgs.length:=by
 unfold QT;rw[Hn,QWI]

include hM hS h8 in
theorem u26:Qj Tryz.prog 26 [S.av] (.list ((W3 S (Xg S (QT S))).map PB.av)):=by
 have h8':=h8;obtain⟨l1,l2,l3⟩:=h8';refine k26.fn (by simp) ?_;simp only[r26,o26,Ee,Ef,SC.av,eE,seval];refine Xm rfl rfl rfl rfl ?_;generalize hb:(Qn Qg 1 _:Nat→Ob)=base;have o1:base 1=.cells [.list (S.msgs.map fun n=>.agg n.cells),.list (S.enums.map fun n=>.agg n.cells),.list (S.servs.map fun n=>.agg n.cells)]:=by rw[←hb];exact(by rfl)
 clear hb;rw[Fu base 3 1100 [] _ (by decide)];simp only[Eg,Qa,seval];refine QQA hM S hS h8 base o1 _ (by rfl) (by rfl) (by rfl) _ (fun f h1 h3=>?_);have m1:=IF hM S hS 1;have m2:=IF hM S hS 2;have m3:=IF hM S hS 3;have n1:(Q0 S 1).length≤8:=by simp[Q0];omega
 have n2:(Q0 S 2).length≤8:=by simp[Q0];omega
 have n3:(Q0 S 3).length≤8:=by simp[Q0];omega
 have eA:Q0 S 1=S.msgs.map SM.name:=by simp[Q0]
 have eB:Q0 S 2=S.enums.map SE.name:=by simp[Q0]
 have eC:Q0 S 3=S.servs.map SQ.name:=by simp[Q0]
 have hap:Uu (Q0 S 1) (Q0 S 2) (Q0 S 3)=JY S:=by rw[eA,eB,eC];exact Su S
 have hlA:∀A B C:List (List UInt8),Jp A++Jp B++Jp C=JQ A B C 3:=fun _ _ _=>rfl
 have hpa:W3 S (Xg S (QT S))=JQ (Q0 S 1) (Q0 S 2) (Q0 S 3) 3++pb [] (-1) (JY S) 9++S.msgs.flatMap (Jn S (Xg S (QT S)))++S.enums.flatMap Jj++S.servs.flatMap (Jz S):=by
  unfold W3;rw[eA,eB,eC,hlA]
 rw[hpa];have q0:(JQ (Q0 S 1) (Q0 S 2) (Q0 S 3) 3).length≤6:=by
  have a:=ZW (Q0 S 1);have b:=ZW (Q0 S 2);have c:=ZW (Q0 S 3);simp only[JQ,QVU];omega
 have hmt:JY S=!((Q0 S 1).any (fun s=>(Q0 S 2).contains s)||(Q0 S 1).any (fun s=>(Q0 S 3).contains s)||(Q0 S 2).any (fun s=>(Q0 S 3).contains s)):=by
  rw[←hap,Hq (Q0 S 1) (Q0 S 2),Hq (Q0 S 1) (Q0 S 3),Hq (Q0 S 2) (Q0 S 3),Bool.not_or,Bool.not_or];rfl
 generalize JQ (Q0 S 1) (Q0 S 2) (Q0 S 3) 3=p at *;clear eA eB eC hap hlA hpa;generalize Q0 S 1=A at *;generalize Q0 S 2=B at *;generalize Q0 S 3=C at *;simp only[SC.av]at m1 m2 m3;have k1:=u52 A B (by simp only[maxLen];omega) (by simp only[maxLen];omega);have k2:=u52 A C (by simp only[maxLen];omega) (by simp only[maxLen];omega);have k3:=u52 B C (by simp only[maxLen];omega) (by simp only[maxLen];omega);simp only[Eo,QA,h1,o1,eE,seval];refine aC m1 ?_;simp only[Ep,QA,h1,o1,eE,seval];refine aC m2 ?_;simp only[Rd,QA,h1,o1,eE,seval];refine aC m3 ?_;have key:∀f:Fr,f 1=.ptr 0 1 0→f 3=.ptr 0 3 0→QJ Tryz.prog (.seq (.reg Bu) (.seq (.seq (.reg Bv) (.block 2 (.loop Ff))) (.seq (.seq (.reg Bw) (.block 4 (.loop Fg))) (.seq (.seq (.reg Bx) (.block 6 (.loop Fh))) (.seq (.reg Bz) .ret)))))
   ⟨f,[Q7 base 3 1100 [] (p++pb [] (-1) (JY S) 9)],[]⟩ (Zi [.tmp 2] 0 fun x _=>x=.list ((p++pb [] (-1) (JY S) 9++S.msgs.flatMap (Jn S (Xg S (QT S)))++S.enums.flatMap Jj++S.servs.flatMap (Jz S)).map PB.av)):=by
  intro f h1 h3;have q1:=Qy q0 [] (-1) (JY S) 9;generalize p++pb [] (-1) (JY S) 9=L at *;have hf:=u53 hM S hS;simp only[SC.av]at hf;simp only[Bu,QA,h1,o1,eE,seval];refine aC hf ?_;simp only[Bv,Qa,seval];refine QQB hM S hS (Hr S) L (by omega) l1 _ _ (by exact h1) (by exact h3) (by rfl) (by rfl) (by rw[ZX _ _ _ _ _ (by decide) (by decide)];exact o1) ⟨_,UJ _ _ _ _ _,UK _ _ _ _ _ (by decide)⟩ _ (fun f fr h1 h3 h9 o1 hA=>?_);have q2:=Jq (l:=S.msgs) (fun x hx=>UH hM S (Xg S (QT S)) x (hS.msgs x hx)) S.msgs.length;rw[QWQ]at q2;simp only[Bw,Qa,seval];refine QQC hM S hS (Hr S) _ (by rw[QVU];omega) l2 _ _ (by exact h1) (by exact h3) (by exact h9) (by rfl) o1 hA _ (fun f fr h1 h3 h9 o1 hA=>?_);have q3:=Jq (l:=S.enums) (fun x hx=>UI hM x (hS.enums x hx)) S.enums.length;rw[QWQ]at q3;simp only[Bx,Qa,seval];refine QQD hM S hS (Hr S) _ (by rw[QVU,QVU];omega) l3 _ _ (by exact h1) (by exact h3) (by exact h9) (by rfl) o1 hA _ (fun f fr h1 h3 h9 o1 hA=>?_);obtain⟨g,oS,oR⟩:=hA;simp only[Bz,h3,oS,oR,QWE,QVY,WG,QVH,QVi,QWh,QWn,AV.un,eE,seval]
 simp only[Qa,seval]at key;simp only[Re,Qa,seval];refine aC k1 ?_;cases c1:A.any fun s=>B.contains s
 ·simp only[Qa,seval];refine aC k2 ?_;cases c2:A.any fun s=>C.contains s
  ·simp only[Qa,seval];refine aC k3 ?_;simp only[Qa,seval];refine QN (by decide) (by exact h3) rfl rfl rfl (by omega) ?_;have e:(!(B.any fun s=>C.contains s))=JY S:=by rw[hmt,c1,c2,QW1,QW1]
   rw[e];simp only[Qa,seval];exact key _ (by exact h1) (by exact h3)
  ·have e:(!true)=JY S:=by rw[hmt,c1,c2];rfl
   simp only[Qa,seval];refine QN (by decide) (by exact h3) rfl rfl rfl (by omega) ?_;rw[e];simp only[Qa,seval];exact key _ (by exact h1) (by exact h3)
 ·have e:(!true)=JY S:=by rw[hmt,c1];rfl
  simp only[Qa,seval];refine QN (by decide) (by exact h3) rfl rfl rfl (by omega) ?_;rw[e];simp only[Qa,seval];exact key _ (by exact h1) (by exact h3)

include hM hS in
theorem u16 (h8:S.msgs.length≤8∧S.enums.length≤8∧S.servs.length≤8):Qj Tryz.prog 16 [S.av] (.bool (XR S)):=by
 have hc:=u26 hM S hS h8;have hv:(((W3 S (Xg S (QT S))).length:Int)==0)=XR S:=by
  have e:W3 S (Xg S (QT S))=[]↔XR S=true:=Qcz;rw[QV7,QVG,←e]
  constructor
  ·intro h;exact QWi (by omega)
  ·intro h;rw[h];rfl
 refine k16.fn (by simp) ?_;simp only[SC.av,eE,seval];simp only[SC.av]at hc;refine aC hc ?_;simp only[QWE,hv,Qa,seval]
end

def V0:V:=.mk 0 0 [] [] [] [] []
theorem QQE (n:SN):n.cells=.str n.name :: n.val.cells:=rfl

theorem QQF (o:SN)(fr:Nat→Ob)(n:List UInt8)(hf:fr 3=.cells [.str n]):Qp Tryz.prog 178 [Gw o,.ptr 1 3 0] [Qg,fr] fun y m1=>y=.bool (o.name==n)∧m1=[Qg,fr]:=by
 refine Qj5.go (by simp) ?_;simp only[hf,Gw,WD,Qz,eE,seval]

section
variable (l:List SN)(hl:l.length≤maxLen)(n:List UInt8)
include hl
theorem QQG:Qj Tryz.prog 142 [.list (l.map fun n=>.agg n.cells),.str n] (.int .i64 (QW (fun x:SN=>x.name==n) l 0)):=by
 refine QhJ.fn (by simp) ?_;simp only[eE,seval];refine Qc (QPm l hl (fun x=>x.name==n) 178 [.ptr 0 3 0] _ fun o _=>QQF o _ n (by rfl)) (by simp only[QVP,QWe,Qa,seval]<;>rfl) ?_;simp only[Qa,seval]

theorem QQH:Qj Tryz.prog 114 [.list (l.map fun n=>.agg n.cells),.str n] (.int .i64 (QW (fun x:SN=>x.name==n) l 0)):=by
 let I:Nat→St→Prop:=fun k st=>∃f i,st=⟨f,[Qg],[]⟩∧k=l.length-i∧QW (fun x:SN=>x.name==n) l 0=QW (fun x:SN=>x.name==n) (l.drop i) i∧f 0=.list (l.map fun n=>.agg n.cells)∧f 1=.str n∧f 5=.int .i64 (i:Nat)
 refine QOg.fn (by simp) ?_;simp only[Qa,seval];refine Qf I _ ⟨_,0,rfl,rfl,rfl,(by rfl),(by rfl),(by rfl)⟩ ?_;rintro _ st ⟨f,i,rfl,rfl,hx,h0,h1,h5⟩;simp only[QWE,h0,h5,Qa,seval];by_cases hlt:i<l.length
 ·obtain⟨x,hi⟩:∃x,l[i]? = some x:=⟨l[i],QVl hlt⟩;have hg:(l.map fun n=>AV.agg n.cells)[i]? = some (.agg x.cells):=by rw[QWB,hi];rfl
  have e1:=Qh i _ hlt hl;rw[WD]at hg;rw[XD _ hi]at hx;simp only[Qs hlt,Qd,QWH,Qb,hg,h0,h1,h5,Qz,eE,seval];cases hp:(x.name==n)
  ·rw[hp]at hx;simp only[QVB,if_false]at hx;simp only[h5,e1,Qa,seval];exact⟨l.length-(i+1),by omega,_,i+1,rfl,rfl,hx,(by exact h0),(by exact h1),(by rfl)⟩
  ·rw[hp]at hx;simp only[if_true]at hx;simp only[hx,h5,Qa,seval]
 ·have hx':QW (fun x:SN=>x.name==n) l 0 = -1:=by rw[hx,QVT (by omega)];rfl
  simp only[Qu hlt,hx',Qa,seval]

theorem QzI:Qj Tryz.prog 104 [.list (l.map fun n=>.agg n.cells),.str n] (.tup [(((l.find? fun x:SN=>x.name==n).map SN.val).getD V0).av,.bool (l.find? fun x:SN=>x.name==n).isSome]):=by
 refine QeP.fn (by simp) ?_;simp only[eE,seval];refine aC (QQG l hl n) ?_;rcases Xn (fun x:SN=>x.name==n) l 0 with⟨h1,h2⟩|⟨j,o,h1,h2,h3⟩
 ·have e:V0.av=.agg [.int .i64 0,.int .u64 ((0:Nat):Int),.str [],.list [],.list [],.list [],.list []]:=by rw[V.av,V.eta];rfl
  simp only[h1,h2,QWa,QWP,QV5,e,eE,seval]
 ·have hj:(l.map fun o=>AV.agg o.cells)[j]? = some (.agg o.cells):=by simp[h2]
  have d:decide ((j:Int)<0)=false:=QW3 (by omega);rw[QVH]at h1;rw[WD]at hj;have e:o.val.av=.agg o.val.cells:=rfl;rw[V.eta]at e;simp only[h1,d,Qd,QWH,Qb,hj,h3,QVI,QWo,QW4,e,eE,seval]

theorem u71:Qj Tryz.prog 71 [.list (l.map fun n=>.agg n.cells),.str n] (.tup [(((l.find? fun x:SN=>x.name==n).map SN.val).getD V0).av,.bool (l.find? fun x:SN=>x.name==n).isSome]):=by
 refine k71.fn (by simp) ?_;simp only[eE,seval];refine aC (QQH l hl n) ?_;rcases Xn (fun x:SN=>x.name==n) l 0 with⟨h1,h2⟩|⟨j,o,h1,h2,h3⟩
 ·have e:V0.av=.agg [.int .i64 0,.int .u64 ((0:Nat):Int),.str [],.list [],.list [],.list [],.list []]:=by rw[V.av,V.eta];rfl
  simp only[h1,h2,QWa,QWP,QV5,e,eE,seval]
 ·have hj:(l.map fun o=>AV.agg o.cells)[j]? = some (.agg o.cells):=by simp[h2]
  have d:decide ((j:Int)<0)=false:=QW3 (by omega);rw[QVH]at h1;rw[WD]at hj;have e:o.val.av=.agg o.val.cells:=rfl;rw[V.eta]at e;simp only[h1,d,Qd,QWH,Qb,hj,h3,QVI,QWo,QW4,e,eE,seval]

omit hl in
theorem YB:(l.find? fun x:SN=>x.name==alias).map SN.val=Xc l:=rfl

theorem s99:Qj Tryz.prog 99 [.list (l.map fun n=>.agg n.cells)] (.str (((Xc l).map V.text).getD [])):=by
 have hf:=QzI l hl alias;rw[YB]at hf;have e:((Xc l).map V.text).getD []=((Xc l).getD V0).text:=by cases Xc l<;>rfl
 rw[e];generalize (Xc l).getD V0=v at *;rw[V.av,V.eta]at hf;simp only[alias]at hf;refine k99.fn (by simp) ?_;simp only[Qa,seval];refine aC hf ?_;simp only[eE,seval]
end

theorem QQI (o:SM)(fr:Nat→Ob)(k:Int)(n:List UInt8)(hf:fr 3=.cells [.int .i64 k,.str n]):Qp Tryz.prog 139 [Q4 o,.ptr 1 3 0] [Qg,fr] fun y m1=>y=.bool (o.name==n)∧m1=[Qg,fr]:=by
 refine Qhn.go (by simp) ?_;simp only[hf,Q4,XL,Qz,eE,seval]

theorem QQJ (o:SE)(fr:Nat→Ob)(k:Int)(n:List UInt8)(hf:fr 3=.cells [.int .i64 k,.str n]):Qp Tryz.prog 141 [X3 o,.ptr 1 3 0] [Qg,fr] fun y m1=>y=.bool (o.name==n)∧m1=[Qg,fr]:=by
 refine QhE.go (by simp) ?_;simp only[hf,X3,X7,Qz,eE,seval]

theorem QQK (S:SC)(l1:S.msgs.length≤maxLen)(l2:S.enums.length≤maxLen)(f:SF):Qj Tryz.prog 100 [S.av,.agg [.int .i64 f.kind,.str f.tname]] (.int .i64 (Jy S f)):=by
 refine Qeq.fn (by simp) ?_;unfold Jy;simp only[SC.av,eE,seval];by_cases h1:f.kind=10
 ·have d:(f.kind==10)=true:=by simp[h1]
  rw[QVq h1];simp only[d,eE,seval];refine Qc (Qzt S.msgs l1 (fun m=>m.name==f.tname) 139 [.ptr 0 3 0] _ fun o _=>QQI o _ f.kind f.tname (by rfl)) (by simp only[QVP,QWe,Qa,seval]<;>rfl) ?_;simp only[Qa,seval]
 have d:(f.kind==10)=false:=by simp[h1]
 rw[QVp h1];by_cases h2:f.kind=9
 ·have d2:(f.kind==9)=true:=by simp[h2]
  rw[QVq h2];simp only[d,d2,eE,seval];refine Qc (Qzu S.enums l2 (fun m=>m.name==f.tname) 141 [.ptr 0 3 0] _ fun o _=>QQJ o _ f.kind f.tname (by rfl)) (by simp only[QVP,QWe,Qa,seval]<;>rfl) ?_;simp only[Qa,seval]
 have d2:(f.kind==9)=false:=by simp[h2]
 rw[QVp h2];simp only[d,d2,Qa,seval]

theorem u72 (S:SC)(hl:S.msgs.length≤maxLen)(s:List UInt8):Qj Tryz.prog 72 [S.av,.str s] (.tup [Q4 ((S.msgs.find? fun m=>m.name==s).getD Sk),.int .i64 (JP S s)]):=by
 let I:Nat→St→Prop:=fun k st=>∃f fr i,st=⟨f,[fr],[]⟩∧k=S.msgs.length-i∧JP S s=QW (fun g:SM=>g.name==s) (S.msgs.drop i) i∧(S.msgs.find? fun g:SM=>g.name==s)=((S.msgs.drop i).find? fun g:SM=>g.name==s)∧f 1=.str s∧f 2=.ptr 0 2 0∧f 4=.ptr 0 4 0∧f 6=.int .i64 (i:Nat)∧
  fr 2=.cells [.list (S.msgs.map fun n=>.agg n.cells),.list (S.enums.map fun n=>.agg n.cells),.list (S.servs.map fun n=>.agg n.cells)]∧∃a b c d e,fr 4=.cells [a,b,c,d,e]
 refine k72.fn (by simp) ?_;simp only[SC.av,eE,seval];refine Qf I _ ⟨_,_,0,rfl,rfl,rfl,rfl,(by rfl),(by rfl),(by rfl),(by rfl),(by rfl),⟨_,_,_,_,_,rfl⟩⟩ ?_;rintro _ st ⟨f,fr,i,rfl,rfl,hx,hy,h1,h2,h4,h6,m2,a,b,c,d,e,m4⟩;simp only[QWE,h2,h6,m2,eE,seval];by_cases hlt:i<S.msgs.length
 ·obtain⟨x,hi⟩:∃x,S.msgs[i]? = some x:=⟨S.msgs[i],QVl hlt⟩;have hg:(S.msgs.map fun n=>AV.agg n.cells)[i]? = some (.agg x.cells):=by rw[QWB,hi];rfl
  have e1:=Qh i _ hlt hl;rw[XL]at hg;rw[XD _ hi]at hx;rw[KQ _ hi]at hy;simp only[Qs hlt,Qd,QWH,Qb,hg,h1,h2,h6,m2,Qz,eE,seval];cases hp:(x.name==s)
  ·rw[hp]at hx hy;simp only[QVB,if_false]at hx hy;simp only[h6,e1,Qa,seval];exact⟨S.msgs.length-(i+1),by omega,_,_,i+1,rfl,rfl,hx,hy,(by exact h1),(by exact h2),(by exact h4),(by rfl),m2,_,_,_,_,_,m4⟩
  ·rw[hp]at hx hy;simp only[if_true]at hx hy;simp only[hx,hy,QWo,Q4,XL x,Qd,QWH,Qb,hg,h2,h4,h6,m2,m4,eE,seval]
 ·have hx':JP S s = -1:=by rw[hx,QVT (by omega)];rfl
  have hy':(S.msgs.find? fun g:SM=>g.name==s)=none:=by rw[hy,QVT (by omega)];rfl
  simp only[Qu hlt,hx',hy',QWP,Sk,Q4,XL,QWe,h4,m4,eE,seval]

theorem u73 (S:SC)(hl:S.enums.length≤maxLen)(s:List UInt8):Qj Tryz.prog 73 [S.av,.str s] (.tup [X3 ((S.enums.find? fun m=>m.name==s).getD Sl),.int .i64 (U4 S s)]):=by
 let I:Nat→St→Prop:=fun k st=>∃f fr i,st=⟨f,[fr],[]⟩∧k=S.enums.length-i∧U4 S s=QW (fun g:SE=>g.name==s) (S.enums.drop i) i∧(S.enums.find? fun g:SE=>g.name==s)=((S.enums.drop i).find? fun g:SE=>g.name==s)∧f 1=.str s∧f 2=.ptr 0 2 0∧f 4=.ptr 0 4 0∧f 6=.int .i64 (i:Nat)∧
  fr 2=.cells [.list (S.msgs.map fun n=>.agg n.cells),.list (S.enums.map fun n=>.agg n.cells),.list (S.servs.map fun n=>.agg n.cells)]∧∃a b c d e,fr 4=.cells [a,b,c,d,e]
 refine k73.fn (by simp) ?_;simp only[SC.av,eE,seval];refine Qf I _ ⟨_,_,0,rfl,rfl,rfl,rfl,(by rfl),(by rfl),(by rfl),(by rfl),(by rfl),⟨_,_,_,_,_,rfl⟩⟩ ?_;rintro _ st ⟨f,fr,i,rfl,rfl,hx,hy,h1,h2,h4,h6,m2,a,b,c,d,e,m4⟩;simp only[QWE,h2,h6,m2,eE,seval];by_cases hlt:i<S.enums.length
 ·obtain⟨x,hi⟩:∃x,S.enums[i]? = some x:=⟨S.enums[i],QVl hlt⟩;have hg:(S.enums.map fun n=>AV.agg n.cells)[i]? = some (.agg x.cells):=by rw[QWB,hi];rfl
  have e1:=Qh i _ hlt hl;rw[X7]at hg;rw[XD _ hi]at hx;rw[KQ _ hi]at hy;simp only[Qs hlt,Qd,QWH,Qb,hg,h1,h2,h6,m2,Qz,eE,seval];cases hp:(x.name==s)
  ·rw[hp]at hx hy;simp only[QVB,if_false]at hx hy;simp only[h6,e1,Qa,seval];exact⟨S.enums.length-(i+1),by omega,_,_,i+1,rfl,rfl,hx,hy,(by exact h1),(by exact h2),(by exact h4),(by rfl),m2,_,_,_,_,_,m4⟩
  ·rw[hp]at hx hy;simp only[if_true]at hx hy;simp only[hx,hy,QWo,X3,X7 x,Qd,QWH,Qb,hg,h2,h4,h6,m2,m4,eE,seval]
 ·have hx':U4 S s = -1:=by rw[hx,QVT (by omega)];rfl
  have hy':(S.enums.find? fun g:SE=>g.name==s)=none:=by rw[hy,QVT (by omega)];rfl
  simp only[Qu hlt,hx',hy',QWP,Sl,X3,X7,QWe,h4,m4,eE,seval]

theorem Sy {sz:Nat}(h0:sz≠0){xs:List AV}(h:xs.all (fun e=>e.cells.length==sz)=true)(hf:QS xs=[]):xs=[]:=by
 cases xs with
 |nil=>rfl
 |cons x xs=>
  have hl:x.cells.length=sz:=by simpa using QVv.1 h x (by simp)
  have:x.cells=[]:=(QXl.1 hf).1;rw[this]at hl;exact absurd hl.symm h0
theorem QQL (L:List PS)(hn:L.length≤1000000000):Qj Tryz.prog 103 [.list (L.map QV)] (.list (L.map QV)):=by
 have h:(L.map QV).all (fun e=>e.cells.length==2)=true:=by
  rw[QVv];intro x hx;obtain⟨y,_,rfl⟩:=QWz.1 hx;rfl
 have ht:List.take L.length (L.map QV)=L.map QV:=QVQ (by simp);refine QNz.fn (by simp) ?_;simp only[Qa,seval];refine CD (ys:=L.map QV) (by simp only[Qa,seval]) ?_ ?_
 ·simp only[Qa,seval];refine DE rfl ?_;simp only[Qa,seval];refine QI (site:=5) (g:=1) (xs:=[]) (ys:=L.map QV) rfl rfl rfl rfl rfl h (by simp only[QWE,maxLen];omega) (by simp only[QWE];omega) ?_;simp only[QWE,QVE,QVH,QVY,ht,QVi,QWh,QWn,AV.un,eE,seval]
 ·intro he;have hx:L=[]:=by
   rcases he with he|he
   ·exact List.map_eq_nil_iff.1 he
   ·exact List.map_eq_nil_iff.1 (Sy (by decide) h he)
  subst hx;simp only[Qa,seval];refine Zv (by simp only[Qa,seval]) rfl ?_;simp only[QVH,QVi,QWh,QWn,AV.un,eE,seval]

def un (l:List SF)(i:Nat):List (List UInt8):=unl [] (l.take i)
theorem Di {l:List SF}{i:Nat}{x:SF}(h:l[i]? = some x):un l (i+1)=if x.union=[]∨(un l i).contains x.union=true then un l i else un l i++[x.union]:=by
 unfold un;rw[QWT,h,QWU,W2];rfl
theorem Uv (l:List SF):∀i,(un l i).length≤i
 |0=>QVi _
 |i+1=>by
  have ih:=Uv l i;cases hx:l[i]? with
  |none=>
   have e:un l (i+1)=un l i:=by unfold un;rw[QWT,hx,Option.toList_none,QWg]
   rw[e];omega
  |some x=>
   rw[Di hx];split
   ·omega
   ·rw[QVU,QWM];omega
theorem QzJ {l:List SF}{i:Nat}{u:List UInt8}(h:(un l i).contains u=true):XH (unl [] l) u=XH (un l i) u:=by
 have e:unl [] l=unl (un l i) (l.drop i):=by
  unfold un;rw[←W2,QWu]
 obtain⟨r,hr⟩:=UE (l.drop i) (un l i);rw[e,hr];exact(Db (QXj.1 h)).1
theorem Nm (l:List SF):un l l.length=unl [] l:=by unfold un;rw[QWQ]

def Wq (S:SC)(x:SF)(u:Int):List AV:=[.int .i64 x.num,.str x.name,.str (((Xc x.notes).map V.text).getD []),.int .i64 x.card,.int .i64 x.key,.int .i64 x.kind,.int .i64 (Jy S x),.int .i64 u]
theorem Sz (S:SC)(us:List (List UInt8))(x:SF):(Kt S us x).cells=Wq S x (X2 us x):=rfl

section
variable {M:Nat}(hM:M≤1048576)(S:SC)(hS:S.ok M)(m:SM)(hm:m.ok M)

def PgI (k:Nat)(st:St):Prop :=
 ∃f fr i g h,st=⟨f,[fr],[]⟩∧k=m.fields.length-i∧i≤m.fields.length∧f 2=.ptr 0 2 0∧f 4=.ptr 0 4 0∧f 5=.ptr 0 5 0∧f 6=.vec 0 6 g 0 (un m.fields i).length false∧f 14=.list (m.fields.map fun n=>.agg n.cells)∧f 15=.int .i64 (m.fields.length:Nat)∧f 16=.int .i64 (i:Nat)∧
  fr 2=.cells [.list (S.msgs.map fun n=>.agg n.cells),.list (S.enums.map fun n=>.agg n.cells),.list (S.servs.map fun n=>.agg n.cells)]∧fr 4=.cells [.str [],.nils,.int .i64 0]∧fr 5=.cells [.str m.name,.vec 0 1100 h 0 i false,.int .i64 0]∧fr 6=.vec g 1 ((un m.fields i).map Qk)∧
  fr 1100=.vec h 8 ((m.fields.take i).map fun x=>.agg (Kt S (unl [] m.fields) x).cells)∧∀s∈[9,8],(fr s).isRow=false

include hM hm in
theorem SA (Q:Exit→St→Prop)(i:Nat)(x:SF)(hx:m.fields[i]? = some x)(f:Fr)(fr:Nat→Ob)(g h:Nat)(h2:f 2=.ptr 0 2 0)(h4:f 4=.ptr 0 4 0)(h5:f 5=.ptr 0 5 0)(h6:f 6=.vec 0 6 g 0 (un m.fields (i+1)).length false)(h9:f 9=.ptr 0 9 0)(h14:f 14=.list (m.fields.map fun n=>.agg n.cells))(h15:f 15=.int .i64 (m.fields.length:Nat))(h16:f 16=.int .i64 (i:Nat))
  (o2:fr 2=.cells [.list (S.msgs.map fun n=>.agg n.cells),.list (S.enums.map fun n=>.agg n.cells),.list (S.servs.map fun n=>.agg n.cells)]) (o4:fr 4=.cells [.str [],.nils,.int .i64 0]) (o5:fr 5=.cells [.str m.name,.vec 0 1100 h 0 i false,.int .i64 0]) (o6:fr 6=.vec g 1 ((un m.fields (i+1)).map Qk))
  (oR:fr 1100=.vec h 8 ((m.fields.take i).map fun x=>.agg (Kt S (unl [] m.fields) x).cells)) (o9:fr 9=.cells (Wq S x (X2 (unl [] m.fields) x))) (r8:(fr 8).isRow=false) :
  Ql Tryz.prog Gb ⟨f,[fr],[]⟩ (Kb 1 (Kc Tryz.prog (.reg Gc) (Kl (PgI S m) (m.fields.length-i) Q)) Exit.normal):=by
 have hlt:i<m.fields.length:=(QVk.1 hx).1;have hl1:=hm.len1;have e1:=Qh i _ hlt (by simp only[maxLen];omega);have ht:(m.fields.take i).length=i:=by rw[QV8];omega
 simp only[Wq]at o9;simp only[Gb,Gc,h5,h9,o5,o9,eE,seval];refine QM rfl rfl (by decide) rfl rfl ?_;simp only[nn0,QVP,QWe,seval];refine QI (xs:=(m.fields.take i).map fun x=>.agg (Kt S (unl [] m.fields) x).cells) (by rfl) (by exact oR) rfl (by rw[QWE,ht]) (by rfl) rfl (by simp only[QVx,QWp,maxLen];omega) (by simp only[QVx,QWp];omega) ?_;simp only[h5,h16,o5,e1,eE,seval];refine⟨m.fields.length-(i+1),by omega,_,_,i+1,g,h+1,rfl,rfl,by omega,(by exact h2),(by exact h4),(by exact h5),(by exact h6),(by exact h14),(by exact h15),(by rfl),(by exact o2),(by exact o4),(by rfl),(by exact o6),?_,?_⟩
 ·rw[QWT,hx,QWU,QWS];simp only[QVP,QWe,Sz,Wq,Qa,seval]
 ·intro s hs;simp only[QWy,QXi,or_false]at hs;rcases hs with rfl|rfl
  ·simp only[o9,Qa,seval]<;>rfl
  ·exact r8

include hM hm in
theorem SB (Q:Exit→St→Prop)(i:Nat)(x:SF)(hx:m.fields[i]? = some x)(hu:x.union≠[])(hc:(un m.fields (i+1)).contains x.union=true)(f:Fr)(fr:Nat→Ob)(g h:Nat)(h2:f 2=.ptr 0 2 0)(h4:f 4=.ptr 0 4 0)(h5:f 5=.ptr 0 5 0)(h6:f 6=.vec 0 6 g 0 (un m.fields (i+1)).length false)(h8:f 8=.ptr 0 8 0)(h9:f 9=.ptr 0 9 0)(h14:f 14=.list (m.fields.map fun n=>.agg n.cells))(h15:f 15=.int .i64 (m.fields.length:Nat))(h16:f 16=.int .i64 (i:Nat))
  (o2:fr 2=.cells [.list (S.msgs.map fun n=>.agg n.cells),.list (S.enums.map fun n=>.agg n.cells),.list (S.servs.map fun n=>.agg n.cells)]) (o4:fr 4=.cells [.str [],.nils,.int .i64 0]) (o5:fr 5=.cells [.str m.name,.vec 0 1100 h 0 i false,.int .i64 0]) (o6:fr 6=.vec g 1 ((un m.fields (i+1)).map Qk))
  (oR:fr 1100=.vec h 8 ((m.fields.take i).map fun x=>.agg (Kt S (unl [] m.fields) x).cells)) (o9:fr 9=.cells (Wq S x (-1))) (o8:fr 8=.cells x.cells) :
  Ql Tryz.prog Bc ⟨f,[fr],[]⟩ (Kc Tryz.prog (.reg Gb) (Kb 1 (Kc Tryz.prog (.reg Gc) (Kl (PgI S m) (m.fields.length-i) Q))) Exit.normal):=by
 have hlt:i<m.fields.length:=(QVk.1 hx).1;have hl1:=hm.len1;have hul:=Uv m.fields (i+1);have eu:X2 (unl [] m.fields) x=XH (un m.fields (i+1)) x.union:=by
  rw[X2,QVp hu];exact QzJ hc
 rw[QL]at o8;simp only[Wq]at o9;simp only[Bc,h6,h8,o8,eE,seval];refine Xe (Qzy (un m.fields (i+1)) (by simp only[maxLen];omega) x.union) ?_ rfl rfl (.inr rfl) ?_
 ·have ht:List.take (un m.fields (i+1)).length ((un m.fields (i+1)).map Qk)=(un m.fields (i+1)).map Qk:=QVQ (by simp);simp only[QVP,QWe,AV.stillL,AV.still,Am.Qe,o6,QWE,ht,QVY,QVH,QVi,QWh,QWL,QVB,Qa,seval]<;>rfl
 simp only[h9,o9,eE,seval];exact SA hM S m hm _ i x hx _ _ g h (by exact h2) (by exact h4) (by exact h5) (by exact h6) (by exact h9) (by exact h14) (by exact h15) (by exact h16) (by exact o2) (by exact o4) (by exact o5) (by exact o6) (by exact oR) (by rw[eu];rfl) (by simp only[o8,Qa,seval]<;>rfl)

include hM hm hS in
theorem s58:Qj Tryz.prog 58 [S.av,Q4 m] (.agg (Zq S m).cells):=by
 obtain⟨l1,l2,_⟩:=ZV S hS hM;have hl1:=hm.len1;refine k58.fn (by simp) ?_;simp only[r58,o58,AT,AU,SC.av,Q4,XL m,eE,seval];refine Xm rfl rfl rfl rfl ?_;simp only[AW,Qa,seval];refine Zv rfl rfl ?_;simp only[AX,QWE,eE,seval];refine Qf (PgI S m) _ ⟨_,_,0,1,1,rfl,rfl,QVr _,(by rfl),(by rfl),(by rfl),(by rfl),(by rfl),(by rfl),(by rfl),(by rfl),(by rfl),(by rfl),(by rfl),(by rfl),by intro s hs;simp only[QWy,QXi,or_false]at hs;rcases hs with rfl|rfl<;>rfl⟩ ?_;rintro _ st ⟨f0,fr0,i,g,h,rfl,rfl,hi,h20,h40,h50,h60,h140,h150,h160,J4,KX,Eu,MZ,oR0,r8⟩;refine QR (a:=_) [9,8] r8 ?_;intro f fr hf hmm hn;have h2:f 2=.ptr 0 2 0:=by rw[hf,h20]<;>rfl
 have h4:f 4=.ptr 0 4 0:=by rw[hf,h40]<;>rfl
 have h5:f 5=.ptr 0 5 0:=by rw[hf,h50]<;>rfl
 have h6:f 6=.vec 0 6 g 0 (un m.fields i).length false:=by rw[hf,h60]<;>rfl
 have h14:f 14=.list (m.fields.map fun n=>.agg n.cells):=by rw[hf,h140]<;>rfl
 have h15:f 15=.int .i64 (m.fields.length:Nat):=by rw[hf,h150]<;>rfl
 have h16:f 16=.int .i64 (i:Nat):=by rw[hf,h160]<;>rfl
 have o2:fr 2=.cells [.list (S.msgs.map fun n=>.agg n.cells),.list (S.enums.map fun n=>.agg n.cells),.list (S.servs.map fun n=>.agg n.cells)]:=by rw[hmm 2 (by decide),J4]<;>rfl
 have o4:fr 4=.cells [.str [],.nils,.int .i64 0]:=by rw[hmm 4 (by decide),KX]<;>rfl
 have o5:fr 5=.cells [.str m.name,.vec 0 1100 h 0 i false,.int .i64 0]:=by rw[hmm 5 (by decide),Eu]<;>rfl
 have o6:fr 6=.vec g 1 ((un m.fields i).map Qk):=by rw[hmm 6 (by decide),MZ]<;>rfl
 have oR:fr 1100=.vec h 8 ((m.fields.take i).map fun x=>.agg (Kt S (unl [] m.fields) x).cells):=by rw[hmm 1100 (by decide),oR0]<;>rfl
 have n8:=hn 8 (by decide);have n9:=hn 9 (by decide);clear hf hmm hn h20 h40 h50 h60 h140 h150 h160 J4 KX Eu MZ oR0 r8;simp only[AY,h15,h16,Qa,seval];by_cases hlt:i<m.fields.length
 case neg=>
  have e:i=m.fields.length:=by omega
  subst e;have eG:(Zq S m).cells=[.str m.name,.list (m.fields.map fun x=>.agg (Kt S (unl [] m.fields) x).cells),.int .i64 ((un m.fields m.fields.length).length:Nat)]:=by
   rw[Nm];unfold PG.cells Zq;simp only[QWW];rfl
  have ht:List.take m.fields.length (m.fields.map fun x=>AV.agg (Kt S (unl [] m.fields) x).cells)=m.fields.map fun x=>AV.agg (Kt S (unl [] m.fields) x).cells:=QVQ (by simp)
  rw[QWQ]at oR;simp only[Qu hlt,MX,MY,h4,h5,h6,o4,o5,o6,oR,eG,ht,QWE,QVY,QVH,QVi,QWh,QWn,AV.un,AV.unL,eE,seval]
 obtain⟨x,hx⟩:∃x,m.fields[i]? = some x:=⟨m.fields[i],QVl hlt⟩;have hg:(m.fields.map fun n=>AV.agg n.cells)[i]? = some (.agg x.cells):=by rw[QWB,hx];rfl
 rw[QL]at hg;have hxo:=hm.fields x (QVw hx);have hln:=hxo.len;have hal:=s99 x.notes (by simp only[maxLen];omega);have htr:=QQK S l1 l2 x;simp only[SC.av]at htr;have hus:=Di hx;have hul:=Uv m.fields i;simp only[Qs hlt,n8,AZ,A1,Qd,QWH,Qb,hg,h14,h16,eE,seval];refine aC hal ?_;simp only[h2,o2,eE,seval];refine aC htr ?_;simp only[n9,A2,eE,seval];by_cases hu:x.union=[]
 ·have d:(x.union==[])=true:=by simp[hu]
  rw[QVq (.inl hu)]at hus;have eu:X2 (unl [] m.fields) x = -1:=QVq hu;simp only[d,Qz,QWZ,Qa,seval];exact SA hM S m hm _ i x hx _ _ g h (by exact h2) (by exact h4) (by exact h5) (by rw[hus];exact(by exact h6)) (by rfl) (by exact h14) (by exact h15) (by exact h16) (by exact o2) (by exact o4) (by exact o5) (by rw[hus];exact(by exact o6)) (by exact oR) (by rw[eu];rfl) rfl
 have d:(x.union==[])=false:=by simp[hu]
 have eu:X2 (unl [] m.fields) x=XH (unl [] m.fields) x.union:=QVp hu;simp only[d,Qz,A3,h6,QWl,eE,seval];refine Xe (Aa (un m.fields i) (by simp only[maxLen];omega) x.union) ?_ rfl rfl (.inr rfl) ?_
 ·have ht:List.take (un m.fields i).length ((un m.fields i).map Qk)=(un m.fields i).map Qk:=QVQ (by simp);simp only[QVP,QWe,AV.stillL,AV.still,Am.Qe,o6,QWE,ht,QVY,QVH,QVi,QWh,QWL,QVB,Qa,seval]<;>rfl
 cases hc:(un m.fields i).contains x.union
 ·rw[QVp (by simp only[hu,hc,QVB,or_self,not_false_eq_true])]at hus;have hcc:(un m.fields (i+1)).contains x.union=true:=by
   rw[hus];exact QXj.2 (List.mem_append_right _ (QXk.2 rfl))
  simp only[A4,h6,QWl,eE,seval];refine ZD (w:=x.union) rfl ?_;refine QI (xs:=(un m.fields i).map Qk) (by rfl) (by exact o6) rfl (by simp) (by rfl) rfl (by simp only[QVx,QWp,maxLen];omega) (by simp only[QVx,QWp];omega) ?_;simp only[Qa,seval];exact SB hM S m hm _ i x hx hu hcc _ _ (g+1) h (by exact h2) (by exact h4) (by exact h5) (by rw[hus,QVU];exact(by rfl)) (by rfl) (by rfl) (by exact h14) (by exact h15) (by exact h16) (by exact o2) (by exact o4) (by exact o5) (by rw[hus,QWS];exact(by rfl)) (by exact oR) rfl (by rw[QL];rfl)
 ·rw[QVq (.inr hc)]at hus;simp only[QWZ,Qa,seval];exact SB hM S m hm _ i x hx hu (by rw[hus];exact hc) _ _ g h (by exact h2) (by exact h4) (by exact h5) (by rw[hus];exact(by exact h6)) (by rfl) (by rfl) (by exact h14) (by exact h15) (by exact h16) (by exact o2) (by exact o4) (by exact o5) (by rw[hus];exact(by exact o6)) (by exact oR) rfl (by rw[QL];rfl)
end

theorem Nn {x:SI}(h:Xc x.notes=none):(ZJ x).cells=[.str x.name,.int .i64 x.num,.list []]:=by
 unfold ZJ PI.cells;rw[h];rfl
theorem No {x:SI}{v:V}(h:Xc x.notes=some v):(ZJ x).cells=[.str x.name,.int .i64 x.num,.list [.agg (.str alias :: v.cells)]]:=by
 unfold ZJ PI.cells;rw[h];simp only[QVP,QWe,PN.cells];rw[V.eta];rfl
section
variable {M:Nat}(hM:M≤1048576)(e:SE)(he:e.ok M)
def EnI (k:Nat)(st:St):Prop :=
 ∃f fr i h,st=⟨f,[fr],[]⟩∧k=e.items.length-i∧i≤e.items.length∧f 2=.ptr 0 2 0∧f 3=.ptr 0 3 0∧f 18=.list (e.items.map fun n=>.agg n.cells)∧f 19=.int .i64 (e.items.length:Nat)∧f 20=.int .i64 (i:Nat)∧
  fr 2=.cells [.str [],.bool false,.nils,.nils,.nils]∧fr 3=.cells [.str e.name,.bool e.opn,.vec 0 1100 h 0 i false,.list (e.free.map QV),.nils]∧
  fr 1100=.vec h 3 ((e.items.take i).map fun x=>.agg (ZJ x).cells)∧∀s∈[7,6,5],(fr s).isRow=false

include hM he in
theorem SD (Q:Exit→St→Prop)(i:Nat)(x:SI)(hx:e.items[i]? = some x)(f:Fr)(fr:Nat→Ob)(h:Nat)(l:List AV)(hl:(ZJ x).cells=[.str x.name,.int .i64 x.num,.list l])(z:AV)(hz:nn0 z=.list l)(hzr:z.rf=true)(hzl:z.leaf=true)(h2:f 2=.ptr 0 2 0)(h3:f 3=.ptr 0 3 0)(h6:f 6=.ptr 0 6 0)(h18:f 18=.list (e.items.map fun n=>.agg n.cells))(h19:f 19=.int .i64 (e.items.length:Nat))(h20:f 20=.int .i64 (i:Nat))
  (o2:fr 2=.cells [.str [],.bool false,.nils,.nils,.nils]) (o3:fr 3=.cells [.str e.name,.bool e.opn,.vec 0 1100 h 0 i false,.list (e.free.map QV),.nils]) (oR:fr 1100=.vec h 3 ((e.items.take i).map fun x=>.agg (ZJ x).cells)) (o6:fr 6=.cells [.str x.name,.int .i64 x.num,z]) (r5:∀s∈[7,5],(fr s).isRow=false) :
  Ql Tryz.prog CU ⟨f,[fr],[]⟩ (Kb 1 (Kc Tryz.prog (.reg BZ) (Kl (EnI e) (e.items.length-i) Q)) Exit.normal):=by
 have hlt:i<e.items.length:=(QVk.1 hx).1;have hl1:=he.len1;have e1:=Qh i _ hlt (by simp only[maxLen];omega);have ht:(e.items.take i).length=i:=by rw[QV8];omega
 simp only[CU,BZ,h3,h6,o3,o6,eE,seval];have hll:[AV.str x.name,.int .i64 x.num,z].all AV.leaf=true:=by
  simp only[QWq,QWr,hzl,QWs];rfl
 have hnn:[AV.str x.name,.int .i64 x.num,z].map nn0=[.str x.name,.int .i64 x.num,.list l]:=by
  simp only[QVP,QWe,hz];rfl
 refine QM rfl rfl (by decide) (by simp only[AV.rfL,AV.rf,hzr,Bool.and_self]) hll ?_;rw[hnn];refine QI (xs:=(e.items.take i).map fun x=>.agg (ZJ x).cells) (by rfl) (by exact oR) rfl (by rw[QWE,ht]) (by rfl) rfl (by simp only[QVx,QWp,maxLen];omega) (by simp only[QVx,QWp];omega) ?_;simp only[h3,h20,o3,e1,eE,seval];refine⟨e.items.length-(i+1),by omega,_,_,i+1,h+1,rfl,rfl,by omega,(by exact h2),(by exact h3),(by exact h18),(by exact h19),(by rfl),(by exact o2),(by rfl),?_,?_⟩
 ·rw[QWT,hx,QWU,QWS];simp only[QVP,QWe,hl,Qa,seval]
 ·intro s hs;simp only[QWy,QXi,or_false]at hs;rcases hs with rfl|rfl|rfl
  ·exact r5 7 (by decide)
  ·simp only[o6,Qa,seval]<;>rfl
  ·exact r5 5 (by decide)

include hM he in
theorem s59:Qj Tryz.prog 59 [X3 e] (.agg (ZS e).cells):=by
 have hl1:=he.len1;have hl2:=he.len2;have hc:=QQL e.free (by omega);refine k59.fn (by simp) ?_;simp only[r59,o59,E3,E4,X3,X7 e,eE,seval];refine aC hc ?_;simp only[eE,seval];refine Xm rfl rfl rfl rfl ?_;simp only[E5,QWE,eE,seval];refine Qf (EnI e) _ ⟨_,_,0,1,rfl,rfl,QVr _,(by rfl),(by rfl),(by rfl),(by rfl),(by rfl),(by rfl),(by rfl),(by rfl),by intro s hs;simp only[QWy,QXi,or_false]at hs;rcases hs with rfl|rfl|rfl<;>rfl⟩ ?_;rintro _ st ⟨f0,fr0,i,h,rfl,rfl,hi,h20',h30,h180,h190,h200,J4,KO,oR0,r8⟩;refine QR (a:=_) [7,6,5] r8 ?_;intro f fr hf hmm hn;have h2:f 2=.ptr 0 2 0:=by rw[hf,h20']<;>rfl
 have h3:f 3=.ptr 0 3 0:=by rw[hf,h30]<;>rfl
 have h18:f 18=.list (e.items.map fun n=>.agg n.cells):=by rw[hf,h180]<;>rfl
 have h19:f 19=.int .i64 (e.items.length:Nat):=by rw[hf,h190]<;>rfl
 have h20:f 20=.int .i64 (i:Nat):=by rw[hf,h200]<;>rfl
 have o2:fr 2=.cells [.str [],.bool false,.nils,.nils,.nils]:=by rw[hmm 2 (by decide),J4]<;>rfl
 have o3:fr 3=.cells [.str e.name,.bool e.opn,.vec 0 1100 h 0 i false,.list (e.free.map QV),.nils]:=by rw[hmm 3 (by decide),KO]<;>rfl
 have oR:fr 1100=.vec h 3 ((e.items.take i).map fun x=>.agg (ZJ x).cells):=by rw[hmm 1100 (by decide),oR0]<;>rfl
 have n5:=hn 5 (by decide);have n6:=hn 6 (by decide);have n7:=hn 7 (by decide);clear hf hmm hn h20' h30 h180 h190 h200 J4 KO oR0 r8;simp only[E6,h19,h20,Qa,seval];by_cases hlt:i<e.items.length
 case neg=>
  have ei:i=e.items.length:=by omega
  subst ei;have eG:(ZS e).cells=[.str e.name,.bool e.opn,.list (e.items.map fun x=>.agg (ZJ x).cells),.list (e.free.map QV),.list []]:=by
   unfold PE.cells ZS;simp only[QWW];rfl
  have ht:List.take e.items.length (e.items.map fun x=>AV.agg (ZJ x).cells)=e.items.map fun x=>AV.agg (ZJ x).cells:=QVQ (by simp)
  rw[QWQ]at oR;simp only[Qu hlt,RE,h2,h3,o2,o3,oR,eG,ht,QWE,QVY,QVH,QVi,QWh,QWn,AV.un,AV.unL,eE,seval]
 obtain⟨x,hx⟩:∃x,e.items[i]? = some x:=⟨e.items[i],QVl hlt⟩;have hg:(e.items.map fun n=>AV.agg n.cells)[i]? = some (.agg x.cells):=by rw[QWB,hx];rfl
 rw[Jk]at hg;have hxo:=he.items x (QVw hx);have hln:=hxo.len;have hfd:=QzI x.notes (by simp only[maxLen];omega) alias;have eis:(x.notes.find? fun x=>x.name==alias).isSome=(Xc x.notes).isSome:=by unfold Xc;rw[Option.isSome_map]
 rw[YB,eis]at hfd;simp only[Qs hlt,n5,n6,E7,E8,E9,Qd,QWH,Qb,hg,h18,h20,eE,seval];cases hal:Xc x.notes with
 |none=>
  rw[hal]at hfd;simp only[QWP,QV5,alias]at hfd;rw[V.av,V.eta]at hfd;refine aC hfd ?_;simp only[n7,CS,eE,seval];exact SD hM e he _ i x hx _ _ h [] (Nn hal) .nils rfl rfl rfl (by exact h2) (by exact h3) (by rfl) (by exact h18) (by exact h19) (by exact h20) (by exact o2) (by exact o3) (by exact oR) (by rfl) (by intro s hs;simp only[QWy,QXi,or_false]at hs;rcases hs with rfl|rfl<;>rfl)
 |some v=>
  rw[hal]at hfd;simp only[QWo,QW4,alias]at hfd;rw[V.av,V.eta]at hfd;have hm:=No hal;simp only[alias]at hm;rw[V.eta]at hm;refine aC hfd ?_;simp only[n7,CS,Ia,eE,seval];refine QM rfl rfl (by decide) rfl rfl ?_;simp only[nn0,QVP,QWe,eE,seval];exact SD hM e he _ i x hx _ _ h _ hm _ rfl rfl rfl (by exact h2) (by exact h3) (by rfl) (by exact h18) (by exact h19) (by exact h20) (by exact o2) (by exact o3) (by exact oR) (by rfl) (by intro s hs;simp only[QWy,QXi,or_false]at hs;rcases hs with rfl|rfl<;>rfl)
end

def DV (S:SC):AV:=if XR S=true then .tup [(QE S).av,.int .i64 0]else .tup [.agg [.list [],.list []],.int .i64 1]

section
variable {M:Nat}(hM:M≤1048576)(S:SC)(hS:S.ok M)
def VZ (i j:Nat)(f:Fr)(fr:Nat→Ob):Prop:=f 1=.ptr 0 1 0∧f 2=.ptr 0 2 0∧f 4=.ptr 0 4 0∧(∃a b,fr 2=.cells [a,b])∧
  fr 1=.cells [.list (S.msgs.map fun n=>.agg n.cells),.list (S.enums.map fun n=>.agg n.cells),.list (S.servs.map fun n=>.agg n.cells)]∧(∀s∈[6,8],(fr s).isRow=false)∧
  ∃g h,fr 4=.cells [.vec 0 1100 g 0 i false,.vec 0 1101 h 0 j false]∧fr 1100=.vec g 3 ((S.msgs.take i).map fun m=>.agg (Zq S m).cells)∧fr 1101=.vec h 5 ((S.enums.take j).map fun e=>.agg (ZS e).cells)

include hM hS in
theorem QQM {i:Nat}(f:Fr)(fr:Nat→Ob)(H:VZ S (i) (0) f fr)(hi0:i=0)(hw:f 14=.list (S.msgs.map fun n=>.agg n.cells))(hz:f 15=.int .i64 (S.msgs.length:Nat))(hk:f 16=.int .i64 0)(Q:Exit→St→Prop)
  (hq:∀f fr,VZ S (S.msgs.length) (0) f fr→Q (.exit 0) ⟨f,[fr],[]⟩):QJ Tryz.prog (.loop AO) ⟨f,[fr],[]⟩ Q:=by
 let I:Nat→St→Prop:=fun n st=>∃f fr i,st=⟨f,[fr],[]⟩∧n=S.msgs.length-i∧i≤S.msgs.length∧VZ S (i) (0) f fr∧f 14=.list (S.msgs.map fun n=>.agg n.cells)∧f 15=.int .i64 (S.msgs.length:Nat)∧f 16=.int .i64 (i:Nat)
 have hl1:=hS.len1;subst hi0;refine Qf I _ ⟨f,fr,0,rfl,rfl,QVr _,H,hw,hz,hk⟩ ?_;clear H hw hz hk;rintro _ st ⟨f0,fr0,i,rfl,rfl,hi,⟨h10,h20,h40,⟨a,b,J4⟩,XG,r6,g,h,KX,oR0,oT0⟩,hw0,hz0,hk0⟩;refine QR (a:=_) [6] (by intro s hs;exact r6 s (by simp only[QWy,QXi,or_false]at hs ⊢;omega)) ?_;intro f fr hf hmm hn;have h1:f 1=.ptr 0 1 0:=by rw[hf,h10]<;>rfl
 have h2:f 2=.ptr 0 2 0:=by rw[hf,h20]<;>rfl
 have h4:f 4=.ptr 0 4 0:=by rw[hf,h40]<;>rfl
 have hw:f 14=.list (S.msgs.map fun n=>.agg n.cells):=by rw[hf,hw0]<;>rfl
 have hz:f 15=.int .i64 (S.msgs.length:Nat):=by rw[hf,hz0]<;>rfl
 have hk:f 16=.int .i64 (i:Nat):=by rw[hf,hk0]<;>rfl
 have o1:fr 1=.cells [.list (S.msgs.map fun n=>.agg n.cells),.list (S.enums.map fun n=>.agg n.cells),.list (S.servs.map fun n=>.agg n.cells)]:=by rw[hmm 1 (by decide),XG]<;>rfl
 have o2:∃a b,fr 2=.cells [a,b]:=⟨_,_,by rw[hmm 2 (by decide),J4];rfl⟩;have o4:fr 4=.cells [.vec 0 1100 g 0 (i) false,.vec 0 1101 h 0 (0) false]:=by rw[hmm 4 (by decide),KX]<;>rfl
 have oR:fr 1100=.vec g 3 ((S.msgs.take (i)).map fun m=>.agg (Zq S m).cells):=by rw[hmm 1100 (by decide),oR0]<;>rfl
 have oT:fr 1101=.vec h 5 ((S.enums.take (0)).map fun e=>.agg (ZS e).cells):=by rw[hmm 1101 (by decide),oT0]<;>rfl
 have nv:=hn 6 (by decide);have r6':∀s∈[6,8],(fr s).isRow=false:=by
  intro s hs;by_cases hsv:s=6
  ·subst hsv;rw[nv];rfl
  ·rw[hmm s (by simp only[QWy,QXi,or_false];exact hsv)];have:=r6 s hs
   revert this
   cases fr0 s<;>intro h<;>first|rfl|exact h
 clear hf hmm hn h10 h20 h40 J4 XG r6 KX oR0 oT0 hw0 hz0 hk0;simp only[AK,AL,AM,AN,hz,hk,Qa,seval];by_cases hlt:i<S.msgs.length
 case neg=>
  have e:i=S.msgs.length:=by omega
  subst e;simp only[Qu hlt,Qa,seval];exact hq _ _ ⟨(by exact h1),(by exact h2),(by exact h4),o2,o1,r6',g,h,o4,oR,oT⟩
 obtain⟨x,hx⟩:∃x,S.msgs[i]? = some x:=⟨S.msgs[i],QVl hlt⟩;have hm:=QVw hx;have hg:(S.msgs.map fun n=>AV.agg n.cells)[i]? = some (.agg x.cells):=by rw[QWB,hx];rfl
 rw[XL]at hg;have e1:=Qh i _ hlt (by simp only[maxLen];omega);have htl:(S.msgs.take i).length=i:=by rw[QV8];omega
 have hc:=s58 hM S hS x (hS.msgs x hm);simp only[Q4,XL x,SC.av]at hc;simp only[Qs hlt,nv,Qd,QWH,Qb,hg,h1,h4,hw,hk,o1,o4,eE,seval];refine aC hc ?_;refine QM rfl rfl (by decide) rfl rfl ?_;rw[show List.map nn0 (Zq S x).cells=(Zq S x).cells from rfl];refine QI (xs:=(S.msgs.take i).map (fun m=>AV.agg (Zq S m).cells)) (by rfl) (by exact oR) rfl (by rw[QWE,htl]) (by rfl) rfl (by simp only[QVx,QWp,maxLen];omega) (by simp only[QVx,QWp];omega) ?_;simp only[h4,hk,o4,e1,eE,seval];obtain⟨a2,b2,o2⟩:=o2;have hsu:(S.msgs.take (i+1)).map (fun m=>AV.agg (Zq S m).cells)=(S.msgs.take i).map (fun m=>AV.agg (Zq S m).cells)++[(fun m=>AV.agg (Zq S m).cells) x]:=by rw[QWT,hx,QWU,QWS];rfl
 refine⟨S.msgs.length-(i+1),by omega,_,_,i+1,rfl,rfl,by omega,⟨(by exact h1),(by exact h2),(by exact h4),⟨a2,b2,(by exact o2)⟩,(by exact o1),?_,_,_,(by rfl),?_,?_⟩,(by exact hw),(by exact hz),(by rfl)⟩
 ·intro s hs;simp only[QWy,QXi,or_false]at hs;rcases hs with rfl|rfl<;>first|rfl|exact r6' _ (by decide)
 ·first|exact oR|(rw[hsu];rfl)|simp only[oR,eE,seval]
 ·first|exact oT|(rw[hsu];rfl)|simp only[oT,eE,seval]

include hM hS in
theorem QQN {i:Nat}(f:Fr)(fr:Nat→Ob)(H:VZ S (S.msgs.length) (i) f fr)(hi0:i=0)(hw:f 30=.list (S.enums.map fun n=>.agg n.cells))(hz:f 31=.int .i64 (S.enums.length:Nat))(hk:f 32=.int .i64 0)(Q:Exit→St→Prop)
  (hq:∀f fr,VZ S (S.msgs.length) (S.enums.length) f fr→Q (.exit 2) ⟨f,[fr],[]⟩):QJ Tryz.prog (.loop AQ) ⟨f,[fr],[]⟩ Q:=by
 let I:Nat→St→Prop:=fun n st=>∃f fr i,st=⟨f,[fr],[]⟩∧n=S.enums.length-i∧i≤S.enums.length∧VZ S (S.msgs.length) (i) f fr∧f 30=.list (S.enums.map fun n=>.agg n.cells)∧f 31=.int .i64 (S.enums.length:Nat)∧f 32=.int .i64 (i:Nat)
 have hl1:=hS.len2;subst hi0;refine Qf I _ ⟨f,fr,0,rfl,rfl,QVr _,H,hw,hz,hk⟩ ?_;clear H hw hz hk;rintro _ st ⟨f0,fr0,i,rfl,rfl,hi,⟨h10,h20,h40,⟨a,b,J4⟩,XG,r6,g,h,KX,oR0,oT0⟩,hw0,hz0,hk0⟩;refine QR (a:=_) [8] (by intro s hs;exact r6 s (by simp only[QWy,QXi,or_false]at hs ⊢;omega)) ?_;intro f fr hf hmm hn;have h1:f 1=.ptr 0 1 0:=by rw[hf,h10]<;>rfl
 have h2:f 2=.ptr 0 2 0:=by rw[hf,h20]<;>rfl
 have h4:f 4=.ptr 0 4 0:=by rw[hf,h40]<;>rfl
 have hw:f 30=.list (S.enums.map fun n=>.agg n.cells):=by rw[hf,hw0]<;>rfl
 have hz:f 31=.int .i64 (S.enums.length:Nat):=by rw[hf,hz0]<;>rfl
 have hk:f 32=.int .i64 (i:Nat):=by rw[hf,hk0]<;>rfl
 have o1:fr 1=.cells [.list (S.msgs.map fun n=>.agg n.cells),.list (S.enums.map fun n=>.agg n.cells),.list (S.servs.map fun n=>.agg n.cells)]:=by rw[hmm 1 (by decide),XG]<;>rfl
 have o2:∃a b,fr 2=.cells [a,b]:=⟨_,_,by rw[hmm 2 (by decide),J4];rfl⟩;have o4:fr 4=.cells [.vec 0 1100 g 0 (S.msgs.length) false,.vec 0 1101 h 0 (i) false]:=by rw[hmm 4 (by decide),KX]<;>rfl
 have oR:fr 1100=.vec g 3 ((S.msgs.take (S.msgs.length)).map fun m=>.agg (Zq S m).cells):=by rw[hmm 1100 (by decide),oR0]<;>rfl
 have oT:fr 1101=.vec h 5 ((S.enums.take (i)).map fun e=>.agg (ZS e).cells):=by rw[hmm 1101 (by decide),oT0]<;>rfl
 have nv:=hn 8 (by decide);have r6':∀s∈[6,8],(fr s).isRow=false:=by
  intro s hs;by_cases hsv:s=8
  ·subst hsv;rw[nv];rfl
  ·rw[hmm s (by simp only[QWy,QXi,or_false];exact hsv)];have:=r6 s hs
   revert this
   cases fr0 s<;>intro h<;>first|rfl|exact h
 clear hf hmm hn h10 h20 h40 J4 XG r6 KX oR0 oT0 hw0 hz0 hk0;simp only[MS,MT,MU,MV,hz,hk,Qa,seval];by_cases hlt:i<S.enums.length
 case neg=>
  have e:i=S.enums.length:=by omega
  subst e;simp only[Qu hlt,Qa,seval];exact hq _ _ ⟨(by exact h1),(by exact h2),(by exact h4),o2,o1,r6',g,h,o4,oR,oT⟩
 obtain⟨x,hx⟩:∃x,S.enums[i]? = some x:=⟨S.enums[i],QVl hlt⟩;have hm:=QVw hx;have hg:(S.enums.map fun n=>AV.agg n.cells)[i]? = some (.agg x.cells):=by rw[QWB,hx];rfl
 rw[X7]at hg;have e1:=Qh i _ hlt (by simp only[maxLen];omega);have htl:(S.enums.take i).length=i:=by rw[QV8];omega
 have hc:=s59 hM x (hS.enums x hm);simp only[X3,X7 x]at hc;simp only[Qs hlt,nv,Qd,QWH,Qb,hg,h4,hw,hk,o4,eE,seval];refine aC hc ?_;refine QM rfl rfl (by decide) rfl rfl ?_;rw[show List.map nn0 (ZS x).cells=(ZS x).cells from rfl];refine QI (xs:=(S.enums.take i).map (fun e=>AV.agg (ZS e).cells)) (by rfl) (by exact oT) rfl (by rw[QWE,htl]) (by rfl) rfl (by simp only[QVx,QWp,maxLen];omega) (by simp only[QVx,QWp];omega) ?_;simp only[h4,hk,o4,e1,eE,seval];obtain⟨a2,b2,o2⟩:=o2;have hsu:(S.enums.take (i+1)).map (fun e=>AV.agg (ZS e).cells)=(S.enums.take i).map (fun e=>AV.agg (ZS e).cells)++[(fun e=>AV.agg (ZS e).cells) x]:=by rw[QWT,hx,QWU,QWS];rfl
 refine⟨S.enums.length-(i+1),by omega,_,_,i+1,rfl,rfl,by omega,⟨(by exact h1),(by exact h2),(by exact h4),⟨a2,b2,(by exact o2)⟩,(by exact o1),?_,_,_,(by rfl),?_,?_⟩,(by exact hw),(by exact hz),(by rfl)⟩
 ·intro s hs;simp only[QWy,QXi,or_false]at hs;rcases hs with rfl|rfl<;>first|rfl|exact r6' _ (by decide)
 ·first|exact oR|(rw[hsu];rfl)|simp only[oR,eE,seval]
 ·first|exact oT|(rw[hsu];rfl)|simp only[oT,eE,seval]

include hM hS in
theorem s28 (h8:S.msgs.length≤8∧S.enums.length≤8∧S.servs.length≤8):Qj Tryz.prog 28 [S.av] (DV S):=by
 have hv:=s57 hM S hS h8;simp only[SC.av]at hv;refine k28.fn (by simp) ?_;simp only[r28,o28,AE,AG,SC.av,eE,seval];refine aC hv ?_;unfold DV;cases hs:XR S
 ·rw[QVp (by simp)];simp only[AH,QWl,eE,seval]
 rw[QVq rfl];simp only[AI,QWZ,eE,seval];refine Xm rfl rfl rfl rfl ?_;refine Xm rfl rfl rfl rfl ?_;simp only[AJ,QWE,eE,seval];refine QQM hM S hS (i:=0) _ _ ⟨(by rfl),(by rfl),(by rfl),⟨_,_,rfl⟩,(by rfl),by intro s hs;simp only[QWy,QXi,or_false]at hs;rcases hs with rfl|rfl<;>rfl,1,1,(by rfl),(by rfl),(by rfl)⟩ rfl (by rfl) (by rfl) (by rfl) _ (fun f fr H=>?_);obtain⟨h1,h2,h4,o2,o1,r6,g,h,o4,oR,oT⟩:=H;simp only[AP,h1,o1,QWE,eE,seval];refine QQN hM S hS (i:=0) _ _ ⟨(by exact h1),(by exact h2),(by exact h4),o2,o1,r6,g,h,o4,oR,oT⟩ rfl (by rfl) (by rfl) (by rfl) _ (fun f fr H=>?_);clear h1 h2 h4 o2 o1 r6 o4 oR oT;obtain⟨h1,h2,h4,⟨a,b,o2⟩,o1,r6,g,h,o4,oR,oT⟩:=H;have ht1:List.take S.msgs.length (S.msgs.map fun m=>AV.agg (Zq S m).cells)=S.msgs.map fun m=>AV.agg (Zq S m).cells:=QVQ (by simp)
 have ht2:List.take S.enums.length (S.enums.map fun m=>AV.agg (ZS m).cells)=S.enums.map fun m=>AV.agg (ZS m).cells:=QVQ (by simp)
 have eP:(QE S).av=.agg [.list (S.msgs.map fun m=>.agg (Zq S m).cells),.list (S.enums.map fun e=>.agg (ZS e).cells)]:=by
  unfold PL.av QE;simp only[QWW];rfl
 rw[QWQ]at oR oT;simp only[MW,h2,h4,o2,o4,oR,oT,eP,ht1,ht2,QWE,QVY,QVH,QVi,QWh,QWn,AV.un,AV.unL,eE,seval]
end

section
variable {P:Program}{M k:Nat}{t:TypeId}
end
section
variable {M:Nat}(hM:M≤1048576)(S:SC)(hS:S.ok M)(hv:XR S=true)
end

theorem Hs {α:Type}{p:α→Bool}:∀ {l:List α} {i:Nat} {x:α},l[i]? = some x→p x=true→(∀y∈l.take i,p y=false)→l.find? p=some x
 | [],_,_,h,_,_=>by simp at h
 |y :: l,0,x,h,hp,_=>by
  simp only[QWf,QVJ]at h;subst h;rw[QW2,hp]
 |y :: l,i+1,x,h,hp,hn=>by
  rw[QWk]at h;rw[QW2,hn y (by simp)];exact Hs h hp fun z hz=>hn z (by simp[hz])
theorem QcF {ops:List PO}(h:XN ops (C1 PO.num)=true):ops.Pairwise fun a b=>a.num<b.num:=by
 have hs:∀i (hi:i+1<ops.length),ops[i].num<ops[i+1].num:=by
  intro i hi;unfold XN at h;have:=QU.1 h (i+1) hi;rw[JL (QVl (by omega:i<ops.length)) (QVl hi)]at this;unfold C1 at this
  simpa using this
 rw[List.pairwise_iff_getElem];intro i j hi hj hij;obtain⟨d,rfl⟩:∃d,j=i+1+d:=⟨j-(i+1),by omega⟩;clear hij
 induction d with
 |zero=>exact hs i (by omega)
 |succ d ih=>
  have a:=ih (by omega);have b:=hs (i+1+d) (by omega);exact Int.lt_trans a b
theorem QcG {ops:List PO}(h:ops.Pairwise fun a b=>a.num<b.num){i:Nat}{o x:PO}(ho:ops[i]? = some o)(hx:x∈ops.take i):x.num<o.num:=by
 obtain⟨j,hj,rfl⟩:=List.mem_iff_getElem.1 hx;rw[QV8]at hj;obtain⟨hi,e⟩:=QVk.1 ho;subst e;rw[List.getElem_take];exact List.pairwise_iff_getElem.1 h j i (by omega) hi (by omega)

structure OwnO (P:PL)(g:PG)(o:PO):Prop where
 num:g.ops.find? (fun x=>x.num==o.num)=some o
 Iw:g.ops.find? (fun x=>x.name==o.name)=some o
 kd:1≤o.kind∧o.kind≤10
 key:o.card=5→1≤o.key∧o.key≤9
 tgP:o.kind=10→∃(j:Nat) (h:PG),P.progs[j]? = some h∧o.target=(j:Int)
 tgE:o.kind=9→∃(j:Nat) (e:PE),P.enums[j]? = some e∧o.target=(j:Int)
structure Own (P:PL):Prop where
 l1:P.progs.length≤64
 l2:P.enums.length≤64
 ops:∀g∈P.progs,g.ops.length≤64
 its:∀e∈P.enums,e.items.length≤64
 up:∀g∈P.progs,g.ops.Pairwise fun a b=>a.num<b.num
 op:∀g∈P.progs,∀o∈g.ops,OwnO P g o
theorem ZF {P:PL}(h:ck P=0):Own P:=by
 unfold ck at h;split at h
 ·omega
 rename_i hl;split at h
 ·omega
 split at h
 ·omega
 rename_i ho;split at h
 ·omega
 rename_i hs;split at h
 ·omega
 split at h
 ·omega
 rename_i ha;rw[Bool.not_eq_false]at hl ho hs ha;obtain⟨l1,l2,l3,l4⟩:=Sd hl;unfold Iy at ho;simp only[QVF,QVv]at ho;unfold Iz at hs;simp only[QVF,QVv]at hs;unfold args at ha;simp only[QVF,QVv]at ha;have hup:∀g∈P.progs,g.ops.Pairwise fun a b=>a.num<b.num:=fun g hg=>QcF (ho.1.2 g hg)
 refine⟨l1,l2,l3,fun e he=>(l4 e he).2.1,hup,fun g hg o hoo=>?_⟩;obtain⟨i,hi⟩:=QVu.1 hoo;have h1:=hs.1 g hg;unfold TQ at h1;simp only[QVF]at h1;have h2:=QU.1 h1.2 i (QVk.1 hi).1;rw[WZ hi,QVv]at h2;have h3:=ha.1 g hg;unfold C4 at h3;simp only[QVF,QVv]at h3;have h4:=(h3.2 o hoo).1;unfold TX at h4;simp only[QVF,QWA]at h4;obtain⟨⟨_,hk⟩,haim⟩:=h4;unfold aim at haim;refine⟨Hs hi (by simp) fun y hy=>?_,Hs hi (by simp) fun y hy=>by simpa using h2 y hy,?_,fun h5=>?_,fun h10=>?_,fun h9=>?_⟩
 ·have:=QcG (hup g hg) hi hy;rw[QXd];omega
 ·split at haim
  ·omega
  split at haim
  ·omega
  unfold Uj at haim;simp only[QVF,QWA]at haim;omega
 ·unfold key at hk;rw[QVq h5]at hk;simp only[QVF,QWA]at hk;omega
 ·rw[QVq h10]at haim;simp only[QVF,QWA]at haim;exact⟨o.target.toNat,_,QVl (by omega),by omega⟩
 ·rw[QVp (by omega),QVq h9]at haim;simp only[QVF,QWA]at haim;exact⟨o.target.toNat,_,QVl (by omega),by omega⟩

theorem Jd (e:PE):Z2 e=.agg [.str e.name,.bool e.opn,.list (e.items.map Zp),.list (e.free.map QV),.list (e.notes.map fun n=>Q1 n.cells)]:=rfl
theorem Je (g:PG):Xk g=.agg [.str g.name,.list (g.ops.map QB),.int .i64 g.unions]:=rfl
theorem Qx (o:PO):QB o=.agg [.int .i64 o.num,.str o.name,.str o.alias,.int .i64 o.card,.int .i64 o.key,.int .i64 o.kind,.int .i64 o.target,.int .i64 o.union]:=rfl
theorem QzL (x:PI):Zp x=.agg [.str x.name,.int .i64 x.num,.list (x.notes.map fun n=>Q1 n.cells)]:=rfl

def Fm (fm:Int):Prop:=fm=1∨fm=2∨fm=4
section
variable (P:PL)(fm:Int)

theorem v66 (o:PO):Qj Tryz.prog 66 [QB o] (.bool (o.card != 4&&o.card != 5)):=by
 refine k66.fn (by simp) ?_;simp only[Qx,eE,seval];cases h:(o.card != 4)<;>simp only[QWY,QWL,eE,seval]

theorem v67 (a b:PO):Qj Tryz.prog 67 [QB a,QB b] (.bool (decide (a.union<0)||a.union != b.union)):=by
 refine k67.fn (by simp) ?_;simp only[Qx,eE,seval];cases h:decide (a.union<0)<;>simp only[QW0,QW1,eE,seval]

theorem QzM (e:PE)(hl:e.items.length≤64)(n:Int):Qj Tryz.prog 113 [Z2 e,.int .i64 n] (.bool (e.items.any fun x=>x.num==n)):=by
 let I:Nat→St→Prop:=fun m st=>∃f fr k,st=⟨f,[fr],[]⟩∧m=e.items.length-k∧k≤e.items.length∧f 1=.int .i64 n∧f 8=.list (e.items.map Zp)∧f 9=.int .i64 (e.items.length:Nat)∧f 10=.int .i64 (k:Nat)∧(e.items.take k).any (fun x=>x.num==n)=false∧∀s∈[6],(fr s).isRow=false
 refine Qga.fn (by simp) ?_;simp only[Jd,QWE,eE,seval];refine Qf I _ ⟨_,_,0,rfl,rfl,QVr _,(by rfl),(by rfl),(by rfl),(by rfl),rfl,by intro s hs;simp only[QWy,QXi,or_false]at hs;subst hs;rfl⟩ ?_;rintro _ st ⟨f0,fr0,k,rfl,rfl,hk,h10,h80,h90,h100,hq,r6⟩;refine QR (a:=_) [6] r6 ?_;intro f fr hf hmm hn;have h1:f 1=.int .i64 n:=by rw[hf,h10]<;>rfl
 have h8:f 8=.list (e.items.map Zp):=by rw[hf,h80]<;>rfl
 have h9:f 9=.int .i64 (e.items.length:Nat):=by rw[hf,h90]<;>rfl
 have hx:f 10=.int .i64 (k:Nat):=by rw[hf,h100]<;>rfl
 have n6:=hn 6 (by decide);clear hf hmm hn h10 h80 h90 h100 r6;simp only[h9,hx,Qa,seval];by_cases hlt:k<e.items.length
 case neg=>
  rw[QVQ (by omega)]at hq;simp only[Qu hlt,hq,Qa,seval]
 obtain⟨x,hg⟩:∃x,e.items[k]? = some x:=⟨e.items[k],QVl hlt⟩;have hgi:(e.items.map Zp)[k]? = some (Zp x):=by rw[QWB,hg];rfl
 rw[QzL]at hgi;have e1:=Qh k _ hlt (by simp only[maxLen];omega);have ht:=Zh (q:=fun x=>x.num==n) hg;rw[hq,QW1]at ht;simp only[Qs hlt,n6,Qd,QWH,Qb,hgi,h1,h8,hx,eE,seval];cases hp:(x.num==n)
 ·rw[hp]at ht;simp only[hx,e1,Qa,seval];exact⟨e.items.length-(k+1),by omega,_,_,k+1,rfl,rfl,by omega,(by exact h1),(by exact h8),(by exact h9),(by rfl),ht,by intro s hs;simp only[QWy,QXi,or_false]at hs;subst hs;rfl⟩
 ·have:e.items.any (fun x=>x.num==n)=true:=QWR.2 ⟨x,QVw hg,hp⟩;simp only[this,Qa,seval]

theorem QQO (e:PE)(hl:e.items.length≤64)(n:List UInt8):Qj Tryz.prog 147 [Z2 e,.str n] (.bool (e.items.any fun x=>x.name==n)):=by
 let I:Nat→St→Prop:=fun m st=>∃f fr k,st=⟨f,[fr],[]⟩∧m=e.items.length-k∧k≤e.items.length∧f 1=.str n∧f 8=.list (e.items.map Zp)∧f 9=.int .i64 (e.items.length:Nat)∧f 10=.int .i64 (k:Nat)∧(e.items.take k).any (fun x=>x.name==n)=false∧∀s∈[6],(fr s).isRow=false
 refine QiH.fn (by simp) ?_;simp only[Jd,QWE,eE,seval];refine Qf I _ ⟨_,_,0,rfl,rfl,QVr _,(by rfl),(by rfl),(by rfl),(by rfl),rfl,by intro s hs;simp only[QWy,QXi,or_false]at hs;subst hs;rfl⟩ ?_;rintro _ st ⟨f0,fr0,k,rfl,rfl,hk,h10,h80,h90,h100,hq,r6⟩;refine QR (a:=_) [6] r6 ?_;intro f fr hf hmm hn;have h1:f 1=.str n:=by rw[hf,h10]<;>rfl
 have h8:f 8=.list (e.items.map Zp):=by rw[hf,h80]<;>rfl
 have h9:f 9=.int .i64 (e.items.length:Nat):=by rw[hf,h90]<;>rfl
 have hx:f 10=.int .i64 (k:Nat):=by rw[hf,h100]<;>rfl
 have n6:=hn 6 (by decide);clear hf hmm hn h10 h80 h90 h100 r6;simp only[h9,hx,Qa,seval];by_cases hlt:k<e.items.length
 case neg=>
  rw[QVQ (by omega)]at hq;simp only[Qu hlt,hq,Qa,seval]
 obtain⟨x,hg⟩:∃x,e.items[k]? = some x:=⟨e.items[k],QVl hlt⟩;have hgi:(e.items.map Zp)[k]? = some (Zp x):=by rw[QWB,hg];rfl
 rw[QzL]at hgi;have e1:=Qh k _ hlt (by simp only[maxLen];omega);have ht:=Zh (q:=fun x=>x.name==n) hg;rw[hq,QW1]at ht;simp only[Qs hlt,n6,Qd,QWH,Qb,hgi,h1,h8,hx,Qz,eE,seval];cases hp:(x.name==n)
 ·rw[hp]at ht;simp only[hx,e1,Qa,seval];exact⟨e.items.length-(k+1),by omega,_,_,k+1,rfl,rfl,by omega,(by exact h1),(by exact h8),(by exact h9),(by rfl),ht,by intro s hs;simp only[QWy,QXi,or_false]at hs;subst hs;rfl⟩
 ·have:e.items.any (fun x=>x.name==n)=true:=QWR.2 ⟨x,QVw hg,hp⟩;simp only[this,Qa,seval]

def Kf (P:PL)(o:PO):Bool:=if o.card=3∧o.kind=9 then(match P.enums[o.target.toNat]? with|some e=>e.opn||decide ((e.items.length:Int) > 1)|none=>true)else true
end

end Go.Proofs.YtjjmjopabpakoaaGreatDoor.Va

namespace Go.Proofs.YtjjmjopabpakoaaGreatDoor.Am
open Go

variable {P:Program}{m:Qo}

def Ag {α:Type}(f:Nat→α)(L:List (Nat×α)):Prop:=L.map (fun p=>f p.1)=L.map Prod.snd
theorem Ag.iff {α:Type}{f:Nat→α}{L:List (Nat×α)}:Ag f L↔∀q∈L,f q.1=q.2:=List.map_inj_left
def Xa {α:Type}:List (Nat×α)→(Nat→α)→Nat→α
 | [],f=>f
 |p :: L,f=>Qn (Xa L f) p.1 p.2
theorem Np {α:Type}{f:Nat→α}{d:Nat}{x:α}(h:f d=x):Qn f d x=f:=by
 funext i;by_cases e:i=d
 ·rw[e,QP,h]
 ·rw[QX _ _ e]
theorem Dj {α:Type}{f:Nat→α}:∀ {L:List (Nat×α)},Ag f L→Xa L f=f
 | [],_=>rfl
 |q :: L,h=>by
  rw[Ag.iff]at h;rw[Xa,Dj (Ag.iff.2 fun x hx=>h x (QVy _ hx))];exact Np (h q QVA)

def Ix {X:Type}(L:X→List (Nat×AV))(O:X→List (Nat×Ob))(l:List Nat)(mu:X→Nat)(p:X→Prop)(mm:X→Qo)(n:Nat)(st:St):Prop :=
 ∃x f fr,st=⟨f,fr :: mm x,[]⟩∧n=mu x∧p x∧Ag f (L x)∧Ag fr (O x)∧(l.all fun s=>!(fr s).isRow)=true
theorem Ix.go {X:Type}{L:X→List (Nat×AV)}{O:X→List (Nat×Ob)}{l:List Nat}{mu:X→Nat}{p:X→Prop}{mm:X→Qo}(x:X){n:Nat}{f:Fr}{fr:Nat→Ob}(hn:mu x<n)(hp:p x)(hf:Ag f (L x):=by exact rfl)(ho:Ag fr (O x):=by exact rfl)(hr:(l.all fun s=>!(fr s).isRow)=true:=by exact rfl) :
  ∃k,k<n∧Ix L O l mu p mm k ⟨f,fr :: mm x,[]⟩:=⟨mu x,hn,x,f,fr,rfl,rfl,hp,hf,ho,hr⟩

theorem QO {X:Type}{a:RC}{Q:Exit→St→Prop}{f:Fr}{fr:Nat→Ob}(L:X→List (Nat×AV))(O:X→List (Nat×Ob))(l:List Nat)(mu:X→Nat)(p:X→Prop)(mm:X→Qo)(x0:X)(hp:p x0)
  (h:∀x f fr,p x→QJ P a ⟨Xa (L x) f,Xa (O x++l.map fun s=>(s,.none)) fr :: mm x,[]⟩ (Kl (Ix L O l mu p mm) (mu x) Q))
  (hf:Ag f (L x0):=by exact rfl) (ho:Ag fr (O x0):=by exact rfl) (hr:(l.all fun s=>!(fr s).isRow)=true:=by exact rfl) (hm:m=mm x0:=by exact rfl)
  (hs:∀x,(L x).map (fun q=>Yp l q.2)=(L x).map Prod.snd:=by exact fun _=>rfl) (ht:∀x,(O x).map (fun q=>(l.contains q.1,KL l q.2))=(O x).map fun q=>(false,q.2):=by exact fun _=>rfl):QJ P (.loop (H2 l a)) ⟨f,fr :: m,[]⟩ Q:=by
 subst hm;refine Qf (Ix L O l mu p mm) (mu x0) ⟨x0,f,fr,rfl,rfl,hp,hf,ho,hr⟩ ?_;rintro _ _ ⟨x,f1,fr1,rfl,rfl,hp,hf,ho,hr⟩;refine QR l (fun s hs=>by simpa using QVv.1 hr s hs) ?_;intro f2 fr2 h1 h2 h3;have e1:Ag f2 (L x):=Ag.iff.2 fun q hq=>by
  rw[h1,Ag.iff.1 hf q hq];exact List.map_inj_left.1 (hs x) q hq
 have e2:Ag fr2 (O x++l.map fun s=>(s,.none)):=Ag.iff.2 fun q hq=>by
  rcases QWw.1 hq with hq|hq
  ·have:=List.map_inj_left.1 (ht x) q hq;simp only[Prod.mk.injEq]at this;rw[h2 _ (fun hi=>by rw[QXj.2 hi]at this;cases this.1),Ag.iff.1 ho q hq];exact this.2
  ·obtain⟨s,hs,rfl⟩:=QWz.1 hq;exact h3 s hs
 have:=h x f2 fr2 hp;rw[Dj e1,Dj e2]at this;exact this

theorem Xi {α:Type}(l:List α)(i:Nat):(∃x,l[i]? = some x∧i<l.length)∨¬i<l.length:=by
 by_cases h:i<l.length
 ·exact .inl ⟨l[i],QVl h,h⟩
 ·exact .inr h

end Go.Proofs.YtjjmjopabpakoaaGreatDoor.Am

namespace Go.Proofs.YtjjmjopabpakoaaGreatDoor.Va
open Go Am Rc Bt Br Up So

def jc (P R:PL)(fm:Int):List AV:=[.list (P.progs.map Xk),.list (P.enums.map Z2),.list (R.progs.map Xk),.list (R.enums.map Z2),.int .i64 fm]
def jv (P R:PL)(fm:Int):AV:=.agg (jc P R fm)
theorem QC (P R:PL)(fm:Int):jv P R fm=.agg [.list (P.progs.map Xk),.list (P.enums.map Z2),.list (R.progs.map Xk),.list (R.enums.map Z2),.int .i64 fm]:=rfl

def Nq (s:List UInt8)(L:List PO):Option PO:=if (L.find? fun o=>o.name==s).isSome=true then L.find? fun o=>o.name==s else L.find? fun o=>o.alias==s && !(s==[])
def oq (q:Option PO):AV:=.tup [QB (q.getD JK),.bool q.isSome]
theorem SG (s:List UInt8)(L:List PO):DN s L=oq (Nq s L):=by
 unfold DN Nq;split<;>rfl
def mq (fm:Int)(h:PG)(o:PO):Option PO:=if fm=4 then Nq o.name h.ops else h.ops.find? fun x=>x.num==o.num
theorem QcH {s:List UInt8}{L:List PO}{q:PO}(h:Nq s L=some q):q∈L:=by
 unfold Nq at h;split at h<;>exact QW9 h
theorem KT {fm:Int}{h:PG}{o q:PO}(e:mq fm h o=some q):q∈h.ops:=by
 unfold mq at e;split at e
 ·exact QcH e
 ·exact QW9 e

def ZY (fm:Int):Int:=bif fm==1 then 13 else 12
def DW (o:PO):Bool:=o.card != 4&&o.card != 5
def YS (fm:Int)(o q:PO):Bool:=!((o.card==5)==(q.card==5))||(bif fm==1 then(pk o.card o.kind&&DW q)||(o.card==4&&q.card==4 && !(pk o.card o.kind==pk q.card q.kind))else o.card==4 && !(q.card==4)&&fm==2)
def V1 (fm a b:Int):Option Int:=match Zz Ev.Xl Ev.tab (Zk Ev.Xl Ev.tab 300) 144 [.int .i64 fm,.int .i64 a,.int .i64 b] []with
 |some (.int .i64 n,[])=>
  if n=0 then some (ZY fm)else if n=1 then
   (match Zz Ev.Xl Ev.tab (Zk Ev.Xl Ev.tab 300) 145 [.int .i64 fm,.int .i64 a,.int .i64 b] []with
   |some (.tup [.agg [.int .i64 k,.int .u64 x,.str t,.list [],.list [],.list [],.list []],.bool _],[])=>
    (match Zz Ev.Xl Ev.tab (Zk Ev.Xl Ev.tab 300) 146 [.int .i64 fm,.int .i64 a,.int .i64 b,.agg [.int .i64 k,.int .u64 x,.str t,.list [],.list [],.list [],.list []]] []with
    |some (.tup [.agg [.int .i64 _,.int .u64 _,.str _,.list [],.list [],.list [],.list []],.int .i64 e],[])=>some e
    |_=>none)
   |_=>none)
  else if n=2 then some 0 else none
 |_=>none
def SH (fm a b:Int):Option Int:=match Zz Ev.Xl Ev.tab (Zk Ev.Xl Ev.tab 300) 148 [.int .i64 fm,.int .i64 a,.int .i64 b] []with
 |some (.int .i64 n,[])=>
  if a=10∨b=10 then some (ZY fm)else
  if n=0 then some (ZY fm)else if n=2 then some 0 else
   (match Zz Ev.Xl Ev.tab (Zk Ev.Xl Ev.tab 300) 149 [.int .i64 fm,.int .i64 a,.int .i64 b] []with
   |some (.tup [.agg [.int .i64 k,.int .u64 x,.str t,.list [],.list [],.list [],.list []],.bool _],[])=>
    (match Zz Ev.Xl Ev.tab (Zk Ev.Xl Ev.tab 300) 150 [.int .i64 fm,.int .i64 a,.int .i64 b,.agg [.int .i64 k,.int .u64 x,.str t,.list [],.list [],.list [],.list []]] []with
    |some (.tup [.agg [.int .i64 _,.int .u64 _,.str _,.list [],.list [],.list [],.list []],.int .i64 e],[])=>some e
    |_=>none)
   |_=>none)
 |_=>none
def kd (fm a b:Int):Int:=(V1 fm a b).getD 0
theorem QcI:(([1,2,4]:List Int).all fun fm=>([1,2,3,4,5,6,7,8,9]:List Int).all fun a=>([1,2,3,4,5,6,7,8,9]:List Int).all fun b=>(V1 fm a b).isSome&&SH fm a b==V1 fm a b)=true:=by decide +kernel
theorem in9 {k:Int}(h:1≤k∧k≤9):k∈([1,2,3,4,5,6,7,8,9]:List Int):=by
 have:k=1∨k=2∨k=3∨k=4∨k=5∨k=6∨k=7∨k=8∨k=9:=by omega
 rcases this with rfl|rfl|rfl|rfl|rfl|rfl|rfl|rfl|rfl<;>simp
theorem QzN {k:Int}(h:1≤k∧k≤10):k∈([1,2,3,4,5,6,7,8,9,10]:List Int):=by
 have:k=1∨k=2∨k=3∨k=4∨k=5∨k=6∨k=7∨k=8∨k=9∨k=10:=by omega
 rcases this with rfl|rfl|rfl|rfl|rfl|rfl|rfl|rfl|rfl|rfl<;>simp
theorem in3 {fm:Int}(h:Fm fm):fm∈([1,2,4]:List Int):=by rcases h with rfl|rfl|rfl<;>simp
section
variable {fm a b:Int}(hf:Fm fm)
include hf
theorem IG (ha:1≤a∧a≤9)(hb:1≤b∧b≤9):V1 fm a b=some (kd fm a b)∧SH fm a b=some (kd fm a b):=by
 have h:=QVv.1 (QVv.1 (QVv.1 QcI fm (in3 hf)) a (in9 ha)) b (in9 hb);rw[QVF,QVG]at h;obtain⟨h1,h2⟩:=h;obtain⟨e,he⟩:=QVK.1 h1;unfold kd;rw[h2,he];exact⟨rfl,rfl⟩
end

def ZZ (e:PE)(n:Int):Bool:=e.items.any fun x=>x.num==n
def JE (e:PE)(s:List UInt8):Bool:=e.items.any fun x=>x.name==s
def PE0:PE:=⟨[],false,[],[],[]⟩
def X4 (P:PL)(t:Int):PE:=(P.enums[t.toNat]?).getD PE0
def YC (P:PL)(o:PO):Bool:=(X4 P o.target).opn||(X4 P o.target).items.any fun x=>decide (x.num > 1)
def DX (P:PL)(fm:Int)(o q:PO):Int :=
 bif o.card==5&&q.card==5&&kd fm o.key q.key != 0 then kd fm o.key q.key
 else bif (o.kind==10&&q.kind==10)||(o.kind==9&&q.kind==9)then 0
 else bif o.kind==10||q.kind==10 then ZY fm
 else bif o.kind==9&&q.kind==1&&fm==1 then(bif YC P o then 6 else 0)else kd fm o.kind q.kind
def Jr (P:PL)(e:PE)(o:PO):Bool:=e.opn||(bif o.kind==1 then ZZ e 0&&ZZ e 1 else !(X4 P o.target).opn&&(X4 P o.target).items.all fun x=>ZZ e x.num)
def V2 (d e:PE)(o:PO):Bool:=(d.items.all fun x=>!((x.num != 0||o.card != 3) && !JE e x.name))&&(!d.opn||((e.items.all fun x=>ZZ d x.num)&&e.opn))
def Nr (P R:PL)(fm:Int)(o q:PO):Bool :=
 q.kind==9&&(o.kind==9||o.kind==1)&&(bif fm==4 then o.kind==9 && !V2 (X4 P o.target) (X4 R q.target) o else(fm==2||o.card==5) && !Jr P (X4 R q.target) o)
def KZ (P R:PL)(fm:Int)(o q:PO):Int :=
 bif YS fm o q then ZY fm else bif DX P fm o q != 0 then DX P fm o q else bif Nr P R fm o q then 16 else bif fm==4&&o.card==4&&DW q then 9 else 0
def Dk (a b:PO):Bool:=decide (a.union<0)||a.union != b.union
def Gy (P:PL)(fm:Int)(h:PG)(o q x:PO):Bool:=match mq fm h x with
 |some y=>Kf P x&&Dk x o&&y.num==q.num
 |none=>false
def Gz (P:PL)(fm:Int)(h:PG)(o q x:PO):Bool:=match mq fm h x with
 |some y=>Kf P x&&Dk x o&&y.num != q.num&&decide (q.union≥0)&&y.union==q.union
 |none=>false
def WH (P:PL)(fm:Int)(h:PG)(l:List PO)(o q:PO):Bool:=fm==4&&q.card != 4&&l.any (Gy P fm h o q)
def WI (P:PL)(fm:Int)(h:PG)(l:List PO)(o q:PO):Bool:=fm != 1&&l.any (Gz P fm h o q)
def DY (P R:PL)(fm:Int)(h:PG)(q o:PO):Bool:=match mq fm h o with
 |some y=>y.num==q.num&&o.card==1&&(fm != 1||q.kind != 9||(o.kind != 9&&o.kind != 1)||Jr P (X4 R q.target) o)
 |none=>false
def GA (P R:PL)(fm:Int)(g h:PG)(q:PO):Bool:=g.ops.any (DY P R fm h q)
def K0 (P R:PL)(fm:Int)(h:PG)(o q p:PO):Bool:=match mq fm h p with
 |some y=>decide (p.num > o.num)&&p.card==1&&y.union==q.union&&y.num != q.num&&(y.kind != 9||(p.kind != 9&&p.kind != 1)||Jr P (X4 R y.target) p)
 |none=>false
def WJ (P R:PL)(fm:Int)(g h:PG)(o q:PO):Bool:=fm==1&&decide (q.union≥0)&&g.ops.any (K0 P R fm h o q)

structure FD where
 df:List UInt8
 num:Int
 err:Int
 path:List Int
def iw (n:Int):AV:=.int .i64 n
def FD.cells (x:FD):List AV:=[.str x.df,.int .i64 x.num,.int .i64 x.err,.list (x.path.map iw)]
def Xd (x:FD):AV:=.agg x.cells
theorem JF (x:FD):Xd x=.agg [.str x.df,.int .i64 x.num,.int .i64 x.err,.list (x.path.map iw)]:=rfl
structure Pq where
 w:Nat
 r:Nat
 path:List Int
 hid:Bool
def Pq.av (p:Pq):AV:=.agg [.int .i64 (p.w:Nat),.int .i64 (p.r:Nat),.list (p.path.map iw),.bool p.hid]
theorem DZ (p:Pq):p.av=.agg [.int .i64 (p.w:Nat),.int .i64 (p.r:Nat),.list (p.path.map iw),.bool p.hid]:=rfl

section
variable (P R:PL)(fm:Int)(g h:PG)(p:Pq)
def Xu (b:Bool)(n e:Int):List FD:=if b=true then [⟨h.name,n,e,p.path⟩]else []
def GB (i:Nat):List FD:=match g.ops[i]? with
 |none=>[]
 |some o=>if Kf P o=true then(match mq fm h o with
  |none=>Xu h p (fm==4) o.num 8
  |some q=>Xu h p (KZ P R fm o q != 0) o.num (KZ P R fm o q)++(Xu h p (WH P fm h (g.ops.take i) o q) o.num 9++Xu h p (WI P fm h (g.ops.take i) o q) o.num 15))else []
def Js (q:PO):List FD:=Xu h p (!p.hid&&q.card==1 && !GA P R fm g h q) q.num 14
def Uw (n:Nat):List FD:=(List.range n).flatMap (GB P R fm g h p)
def Wr:List FD:=Uw P R fm g h p g.ops.length++h.ops.flatMap (Js P R fm g h p)
theorem Ht (n:Nat):Uw P R fm g h p (n+1)=Uw P R fm g h p n++GB P R fm g h p n:=by
 unfold Uw;rw[List.range_succ,QXn,List.flatMap_singleton]
theorem W9 (b:Bool)(n e:Int):(Xu h p b n e).length≤1:=by
 unfold Xu;split<;>simp
theorem QKb (a b c:Bool)(n e n' e' n'' e'':Int):(Xu h p a n e++(Xu h p b n' e'++Xu h p c n'' e'')).length≤3:=by
 have h1:=W9 h p a n e;have h2:=W9 h p b n' e';have h3:=W9 h p c n'' e'';rw[QVU,QVU];omega
theorem QcJ (i:Nat):(GB P R fm g h p i).length≤3:=by
 unfold GB;split
 ·simp
 ·split
  ·split
   ·exact QVj (W9 h p _ _ _) (by decide)
   ·exact QKb h p _ _ _ _ _ _ _ _ _
  ·simp
theorem UL:∀n,(Uw P R fm g h p n).length≤3*n
 |0=>by simp[Uw]
 |n+1=>by
  have:=UL n;have:=QcJ P R fm g h p n;rw[Ht,QVU];omega
end

def Hu (L:List Pq)(a b:Int)(hd:Bool):Bool:=L.any fun y=>((y.w:Int)==a&&(y.r:Int)==b)&&(!y.hid||hd)
section
variable (P R:PL)(fm:Int)(g h:PG)(p:Pq)
def Jt (L:List Pq)(x:PO):List Pq:=match mq fm h x with
 |none=>L
 |some q=>if Kf P x=true∧x.kind=10∧q.kind=10∧YS fm x q=false then
   (if Hu L x.target q.target (p.hid||WJ P R fm g h x q)=true then L else L++[⟨x.target.toNat,q.target.toNat,p.path++[x.num],p.hid||WJ P R fm g h x q⟩])else L
def JS (L:List Pq)(k:Nat):List Pq:=(g.ops.take k).foldl (Jt P R fm g h p) L
def JT (L:List Pq):List Pq:=g.ops.foldl (Jt P R fm g h p) L
end

section
variable (P R:PL)(fm:Int)

theorem QzO:Qj Tryz.prog 110 [jv P R fm] (.int .i64 (ZY fm)):=by
 refine Qfv.fn (by simp) ?_;simp only[QC,ZY,eE,seval];cases d:(fm==1)<;>simp only[cond_true,cond_false,Qa,seval]

theorem w31 (g:PG)(o:PO)(ho:OwnO P g o):Qj Tryz.prog 31 [jv P R fm,QB o] (.bool (Kf P o)):=by
 refine k31.fn (by simp) ?_;simp only[QC,Qx,Kf,eE,seval];by_cases h3:o.card=3
 case neg=>
  have d:(o.card != 3)=true:=by simp[h3]
  rw[QVp (fun h=>h3 h.1)];simp only[d,Qa,seval]
 have d:(o.card != 3)=false:=by simp[h3]
 by_cases h9:o.kind=9
 case neg=>
  have d2:(o.kind != 9)=true:=by simp[h9]
  rw[QVp (fun h=>h9 h.2)];simp only[d,d2,eE,seval]
 have d2:(o.kind != 9)=false:=by simp[h9]
 obtain⟨j,e,he,ht⟩:=ho.tgE h9;have hg:(P.enums.map Z2)[j]? = some (Z2 e):=by rw[QWB,he];rfl
 rw[Jd]at hg;rw[QVq ⟨h3,h9⟩];simp only[d,d2,ht,QWH,he,Qd,Qb,hg,eE,seval];cases ho:e.opn
 ·simp only[QWE,QW1,eE,seval]
 ·simp only[QW0,Qa,seval]

theorem SJ (h:PG)(hl:h.ops.length≤64)(o:PO):Qj Tryz.prog 32 [jv P R fm,Xk h,QB o] (oq (mq fm h o)):=by
 have h1:=y62 h (by simp only[maxLen];omega) o.name;have h2:=y63 h (by simp only[maxLen];omega) o.num;rw[SG]at h1;simp only[Kn]at h2;unfold mq;refine k32.fn (by simp) ?_;simp only[QC,Je,Qx,eE,seval];by_cases h4:fm=4
 ·have d:(fm==4)=true:=by simp[h4]
  rw[QVq h4];generalize Nq o.name h.ops=q at h1;simp only[oq,Je,Qx]at h1 ⊢;simp only[d,eE,seval];refine aC h1 ?_;simp only[eE,seval]
 ·have d:(fm==4)=false:=by simp[h4]
  rw[QVp h4];generalize h.ops.find? (fun x=>x.num==o.num)=q at h2;simp only[oq,Je,Qx]at h2 ⊢;simp only[d,eE,seval];refine aC h2 ?_;simp only[eE,seval]

theorem w36 (o q:PO):Qj Tryz.prog 36 [jv P R fm,QB o,QB q] (.int .i64 (bif YS fm o q then ZY fm else 0)):=by
  have cp:=y69 o.num o.name o.alias o.card o.key o.kind o.target o.union;have cq:=y69 q.num q.name q.alias q.card q.key q.kind q.target q.union;have cs:=v66 q;rw[Qx]at cs;simp only[oc]at cp cq;have hs:(q.card != 4&&q.card != 5)=DW q:=rfl;rw[hs]at cs;refine k36.fn (by simp) ?_;simp only[QC,Qx,YS,ZY,eE,seval];cases c4:(o.card==4)<;>cases d4:(q.card==4)<;>cases hm:((o.card==5)==(q.card==5))<;>cases f1:(fm==1)<;>simp only[c4,d4,f1,QWY,QWL,QWs,QXe,QW0,QW1,QXf,QWZ,QWl,cond_true,cond_false,eE,seval]
  all_goals first
    |done
    |(cases f2:(fm==2)<;>simp only[cond_true,cond_false,Qa,seval];done)
    | (refine aC cp ?_
       cases hp:pk o.card o.kind
       · simp only[QWL,QW1,cond_true,cond_false,Bool.false_beq,eE,seval]
         all_goals
           refine aC cp ?_;simp only[hp,cond_true,cond_false,eE,seval];refine aC cq ?_;cases hq:pk q.card q.kind<;>simp only[QWZ,QWl,cond_true,cond_false,Bool.false_beq,Qa,seval]
       · simp only[QWY,cond_true,cond_false,Bool.true_beq,eE,seval];refine aC cs ?_;cases hsq:DW q
         · simp only[QW1,cond_true,cond_false,eE,seval]
           all_goals
             refine aC cp ?_;simp only[hp,cond_true,cond_false,eE,seval];refine aC cq ?_;cases hq:pk q.card q.kind<;>simp only[QWZ,QWl,cond_true,cond_false,Bool.true_beq,Qa,seval]
         · simp only[QW0,cond_true,cond_false,Qa,seval])

theorem Af {a b e:Int}(h:V1 fm a b=some e):Qj Tryz.prog 109 [jv P R fm,.int .i64 a,.int .i64 b] (.int .i64 e):=by
 unfold V1 at h;split at h
 case h_2=>cases h
 rename_i n hn;have c1:Qj Tryz.prog 144 [.int .i64 fm,.int .i64 a,.int .i64 b] (.int .i64 n):=(XZ Ev.XX Ev.ZR (JJ Ev.XX Ev.ZR 300) _ _ _ _ _ hn).mono fun _ _ e=>e.1
 have cr:=QzO P R fm;simp only[QC]at cr;refine Qfo.fn (by simp) ?_;simp only[QC,eE,seval];refine aC c1 ?_;by_cases n0:n=0
 ·rw[QVq n0]at h;cases h;have d:(n==0)=true:=by simp[n0]
  simp only[d,eE,seval];refine aC cr ?_;simp only[Qa,seval]
 rw[QVp n0]at h;have d0:(n==0)=false:=by simp[n0]
 by_cases n1:n=1
 ·rw[QVq n1]at h;have d1:(n==1)=true:=by simp[n1]
  split at h
  case h_2=>cases h
  rename_i k x t b1 h2;split at h
  case h_2=>cases h
  rename_i k' x' t' e' h3;cases h;have c2:Qj Tryz.prog 145 [.int .i64 fm,.int .i64 a,.int .i64 b] _:=(XZ Ev.XX Ev.ZR (JJ Ev.XX Ev.ZR 300) _ _ _ _ _ h2).mono fun _ _ e=>e.1
  have c3:Qj Tryz.prog 146 [.int .i64 fm,.int .i64 a,.int .i64 b,_] _:=(XZ Ev.XX Ev.ZR (JJ Ev.XX Ev.ZR 300) _ _ _ _ _ h3).mono fun _ _ e=>e.1
  simp only[d0,d1,eE,seval];refine aC c2 ?_;simp only[eE,seval];refine aC c3 ?_;simp only[eE,seval]
 ·rw[QVp n1]at h;split at h
  ·rename_i n2;cases h;have d1:(n==1)=false:=by simp[n1]
   simp only[d0,d1,Qa,seval]
  ·cases h
theorem KW (hf:Fm fm){a b:Int}(ha:1≤a∧a≤9)(hb:1≤b∧b≤9):Qj Tryz.prog 109 [jv P R fm,.int .i64 a,.int .i64 b] (.int .i64 (kd fm a b)):=Af P R fm (IG hf ha hb).1
end

theorem Ux {α:Type}{l:List α}{q:α→Bool}{i:Nat}{x:α}(h:l[i]? = some x):(l.take (i+1)).all q=((l.take i).all q&&q x):=by
 rw[QWT,h,QWU,QWv];simp
theorem XB {P:PL}{t:Int}{j:Nat}{e:PE}(he:P.enums[j]? = some e)(ht:t=(j:Int)):X4 P t=e:=by
 unfold X4;rw[ht,QWH,he];rfl
theorem Z0 {P:PL}{j:Nat}{e:PE}(he:P.enums[j]? = some e):(P.enums.map Z2)[j]? = some (.agg [.str e.name,.bool e.opn,.list (e.items.map Zp),.list (e.free.map QV),.list (e.notes.map fun n=>Q1 n.cells)]):=by
 rw[QWB,he];rfl
theorem Z9 {l:List PI}{j:Nat}{x:PI}(h:l[j]? = some x):(l.map Zp)[j]? = some (.agg [.str x.name,.int .i64 x.num,.list (x.notes.map fun n=>Q1 n.cells)]):=by
 rw[QWB,h];rfl

section
variable (P R:PL)(fm:Int)

theorem QQP (g:PG)(o:PO)(ho:OwnO P g o)(h9:o.kind=9)(hP:∀e∈P.enums,e.items.length≤64):Qj Tryz.prog 111 [jv P R fm,QB o] (.int .i64 (bif YC P o then 6 else 0)):=by
 obtain⟨j,d,hd,ht⟩:=ho.tgE h9;have hdl:=hP d (QVw hd);have hgd:=Z0 hd;unfold YC;rw[XB hd ht];refine QfJ.fn (by simp) ?_;simp only[QC,Qx,ht,Qd,QWH,Qb,hgd,eE,seval];cases hdo:d.opn
 case true=>simp only[QW0,cond_true,cond_false,Qa,seval]
 simp only[QWE,QW1,cond_true,cond_false,eE,seval];refine QO (X:=Nat) (fun k=>[(18,.list (d.items.map Zp)),(19,.int .i64 (d.items.length:Nat)),(20,.int .i64 (k:Nat))]) (fun _=>[]) [7] (fun k=>d.items.length-k) (fun k=>k≤d.items.length∧(d.items.take k).any (fun x=>decide (x.num > 1))=false) (fun _=>[]) 0 ⟨QVr _,rfl⟩ ?_;rintro k f fr ⟨hk,hq⟩;simp only[Xa,QVP,QWe,QVE,Qa,seval];rcases Xi d.items k with⟨x,hx,hlt⟩|hlt
 case inr=>
  rw[QVQ (by omega)]at hq;simp only[Qu hlt,hq,cond_true,cond_false,Qa,seval]
 have hgi:=Z9 hx;have e1:=Qh k _ hlt (by simp only[maxLen];omega);have hT:=Zh (q:=fun x:PI=>decide (x.num > 1)) hx;rw[hq,QW1]at hT;simp only[Qs hlt,Qd,QWH,Qb,hgi,eE,seval];cases d1:decide (x.num > 1)
 ·rw[d1]at hT;simp only[e1,Qa,seval];exact Ix.go (k+1) (by omega) ⟨by omega,hT⟩
 ·have ha:d.items.any (fun x=>decide (x.num > 1))=true:=QWR.2 ⟨x,QVw hx,d1⟩;rw[ha];simp only[cond_true,cond_false,Qa,seval]

theorem w68 (g:PG)(o:PO)(ho:OwnO P g o)(hk:o.kind=9∨o.kind=1)(hP:∀e∈P.enums,e.items.length≤64)(e:PE)(hl:e.items.length≤64):Qj Tryz.prog 68 [jv P R fm,Z2 e,QB o] (.bool (Jr P e o)):=by
 have cn:=fun n=>QzM e hl n
 have hN:∀n,(e.items.any fun x=>x.num==n)=ZZ e n:=fun _=>rfl
 simp only[hN,Jd]at cn;unfold Jr;refine k68.fn (by simp) ?_;simp only[QC,Jd,Qx,eE,seval];cases ho':e.opn
 case true=>simp only[QW0,cond_true,cond_false,Qa,seval]
 rw[ho']at cn;rcases hk with h9|h1
 case inr=>
  have d1:(o.kind==1)=true:=by simp[h1]
  have c0:=cn 0;have c1:=cn 1;simp only[d1,QW1,cond_true,cond_false,eE,seval];refine aC c0 ?_;cases h0:ZZ e 0
  ·simp only[QWL,cond_true,cond_false,Qa,seval]
  simp only[QWY,cond_true,cond_false,eE,seval];refine aC c1 ?_;simp only[Qa,seval]
 have d1:(o.kind==1)=false:=by simp[h9]
 obtain⟨j,d,hd,ht⟩:=ho.tgE h9;have hdl:=hP d (QVw hd);have hgd:=Z0 hd;rw[XB hd ht];simp only[d1,ht,Qd,QWH,Qb,hgd,QWs,QW1,cond_true,cond_false,eE,seval];cases hdo:d.opn
 case true=>simp only[QWL,QWZ,cond_true,cond_false,Qa,seval]
 simp only[QWE,QWY,QWl,cond_true,cond_false,eE,seval];refine QO (X:=Nat) (fun k=>[(4,.ptr 0 4 0),(31,.list (d.items.map Zp)),(32,.int .i64 (d.items.length:Nat)),(33,.int .i64 (k:Nat))]) (fun _=>[(4,.cells [.str e.name,.bool false,.list (e.items.map Zp),.list (e.free.map QV),.list (e.notes.map fun n=>Q1 n.cells)])]) [9] (fun k=>d.items.length-k) (fun k=>k≤d.items.length∧(d.items.take k).all (fun x=>ZZ e x.num)=true) (fun _=>[]) 0 ⟨QVr _,rfl⟩ ?_;rintro k f fr ⟨hk,hq⟩;simp only[Xa,QVP,QWe,QVD,QVE,Qa,seval];rcases Xi d.items k with⟨x,hx,hlt⟩|hlt
 case inr=>
  rw[QVQ (by omega)]at hq;simp only[Qu hlt,hq,Qa,seval]
 have hgi:=Z9 hx;have e1:=Qh k _ hlt (by simp only[maxLen];omega);have hT:=Ux (q:=fun x:PI=>ZZ e x.num) hx;rw[hq,QWY]at hT;have c1:=cn x.num;simp only[Qs hlt,Qd,QWH,Qb,hgi,eE,seval];refine aC c1 ?_;cases d1:ZZ e x.num
 ·have ha:d.items.all (fun x=>ZZ e x.num)=false:=QXo.2 ⟨x,QVw hx,by rw[d1];simp⟩;rw[ha];simp only[QWl,cond_true,cond_false,Qa,seval]
 ·rw[d1]at hT;simp only[e1,QWZ,cond_true,cond_false,Qa,seval];exact Ix.go (k+1) (by omega) ⟨by omega,hT⟩

theorem QQQ (g h:PG)(o q:PO)(ho:OwnO P g o)(hq:OwnO R h q)(h9:o.kind=9)(hq9:q.kind=9)(hP:∀e∈P.enums,e.items.length≤64)(hR:∀e∈R.enums,e.items.length≤64):Qj Tryz.prog 112 [jv P R fm,QB o,QB q] (.bool (V2 (X4 P o.target) (X4 R q.target) o)):=by
 obtain⟨j,d,hd,ht⟩:=ho.tgE h9;obtain⟨i,e,he,hte⟩:=hq.tgE hq9;have hdl:=hP d (QVw hd);have hel:=hR e (QVw he);have hgd:=Z0 hd;have hge:=Z0 he;have cs:=fun s=>QQO e hel s
 have cn:=fun n=>QzM d hdl n
 have hS:∀s,(e.items.any fun x=>x.name==s)=JE e s:=fun _=>rfl
 have hN:∀n,(d.items.any fun x=>x.num==n)=ZZ d n:=fun _=>rfl
 simp only[hN,Jd]at cn;simp only[hS,Jd]at cs;rw[XB hd ht,XB he hte];unfold V2;refine QfY.fn (by simp) ?_;simp only[QC,Qx,ht,hte,Qd,QWH,Qb,hgd,hge,QWE,eE,seval]
 let D:List AV:=[.str d.name,.bool d.opn,.list (d.items.map Zp),.list (d.free.map QV),.list (d.notes.map fun n=>Q1 n.cells)]
 let E:List AV:=[.str e.name,.bool e.opn,.list (e.items.map Zp),.list (e.free.map QV),.list (e.notes.map fun n=>Q1 n.cells)]
 let O:List AV:=[.int .i64 o.num,.str o.name,.str o.alias,.int .i64 o.card,.int .i64 o.key,.int .i64 o.kind,.int .i64 (j:Nat),.int .i64 o.union]
 refine QO (X:=Nat) (fun k=>[(4,.ptr 0 4 0),(7,.ptr 0 7 0),(8,.ptr 0 8 0),(28,.list (d.items.map Zp)),(29,.int .i64 (d.items.length:Nat)),(30,.int .i64 (k:Nat))]) (fun _=>[(4,.cells O),(7,.cells D),(8,.cells E),(12,.none)]) [10] (fun k=>d.items.length-k) (fun k=>k≤d.items.length∧(d.items.take k).all (fun x=>!((x.num != 0||o.card != 3) && !JE e x.name))=true) (fun _=>[]) 0 ⟨QVr _,rfl⟩ ?_;rintro k f fr ⟨hk,hq⟩;simp only[D,E,O,Xa,QVP,QWe,QVD,QVE,Qa,seval];rcases Xi d.items k with⟨x,hx,hlt⟩|hlt
 case inl=>
  have hgi:=Z9 hx;have e1:=Qh k _ hlt (by simp only[maxLen];omega);have hT:=Ux (q:=fun x:PI=>!((x.num != 0||o.card != 3) && !JE e x.name)) hx;rw[hq,QWY]at hT;have hF:(!((x.num != 0||o.card != 3) && !JE e x.name))=false→d.items.all (fun x=>!((x.num != 0||o.card != 3) && !JE e x.name))=false:=fun e=>QXo.2 ⟨x,QVw hx,by rw[e];simp⟩
  have c1:=cs x.name;simp only[Qs hlt,Qd,QWH,Qb,hgi,eE,seval];cases d1:(x.num != 0)
  ·cases d2:(o.card != 3)
   ·rw[d1,d2]at hT;simp only[d2,e1,eE,seval];exact Ix.go (k+1) (by omega) ⟨by omega,by simpa using hT⟩
   ·rw[d1,d2]at hT hF;simp only[d2,eE,seval];refine aC c1 ?_;cases d3:JE e x.name
    ·rw[hF (by rw[d3];rfl)];simp only[QWY,QWL,QXg,QWl,cond_true,cond_false,Qa,seval]
    ·rw[d3]at hT;simp only[e1,QWY,QXg,QWZ,cond_true,cond_false,Qa,seval];exact Ix.go (k+1) (by omega) ⟨by omega,by simpa using hT⟩
  ·rw[d1]at hT hF;simp only[eE,seval];refine aC c1 ?_;cases d3:JE e x.name
   ·rw[hF (by rw[d3];rfl)];simp only[QWL,QWl,cond_true,cond_false,Qa,seval]
   ·rw[d3]at hT;simp only[e1,QWZ,cond_true,cond_false,Qa,seval];exact Ix.go (k+1) (by omega) ⟨by omega,by simpa using hT⟩
 rw[QVQ (by omega)]at hq;rw[hq,QWY];simp only[Qu hlt,eE,seval];clear hlt;cases hdo:d.opn
 ·simp only[QW0,QWl,cond_true,cond_false,Qa,seval]
 rw[hdo]at cn;simp only[QWE,QW1,QWZ,cond_true,cond_false,eE,seval];refine QO (X:=Nat) (fun k=>[(7,.ptr 0 7 0),(8,.ptr 0 8 0),(54,.list (e.items.map Zp)),(55,.int .i64 (e.items.length:Nat)),(56,.int .i64 (k:Nat))]) (fun _=>[(7,.cells [.str d.name,.bool true,.list (d.items.map Zp),.list (d.free.map QV),.list (d.notes.map fun n=>Q1 n.cells)]),(8,.cells [.str e.name,.bool e.opn,.list (e.items.map Zp),.list (e.free.map QV),.list (e.notes.map fun n=>Q1 n.cells)])]) [12] (fun k=>e.items.length-k) (fun k=>k≤e.items.length∧(e.items.take k).all (fun x=>ZZ d x.num)=true) (fun _=>[]) 0 ⟨QVr _,rfl⟩ ?_;clear hq hk;rintro k f fr ⟨hk,hq⟩;simp only[Xa,QVP,QWe,QVD,QVE,Qa,seval];rcases Xi e.items k with⟨x,hx,hlt⟩|hlt
 case inr=>
  rw[QVQ (by omega)]at hq;simp only[Qu hlt,hq,QWY,cond_true,cond_false,eE,seval]
 have hgi:=Z9 hx;have e1:=Qh k _ hlt (by simp only[maxLen];omega);have hT:=Ux (q:=fun x:PI=>ZZ d x.num) hx;rw[hq,QWY]at hT;have c1:=cn x.num;simp only[Qs hlt,Qd,QWH,Qb,hgi,eE,seval];refine aC c1 ?_;cases d1:ZZ d x.num
 ·have ha:e.items.all (fun x=>ZZ d x.num)=false:=QXo.2 ⟨x,QVw hx,by rw[d1];simp⟩;rw[ha];simp only[QWL,QWl,cond_true,cond_false,Qa,seval]
 ·rw[d1]at hT;simp only[e1,QWZ,cond_true,cond_false,Qa,seval];exact Ix.go (k+1) (by omega) ⟨by omega,hT⟩

theorem w65 (g h:PG)(o q:PO)(ho:OwnO P g o)(hq:OwnO R h q)(hP:∀e∈P.enums,e.items.length≤64)(hR:∀e∈R.enums,e.items.length≤64):Qj Tryz.prog 65 [jv P R fm,QB o,QB q] (.int .i64 (bif Nr P R fm o q then 16 else 0)):=by
 unfold Nr;refine k65.fn (by simp) ?_;cases d1:(q.kind==9)
 case false=>
  have d1':(q.kind != 9)=true:=by simp[bne,d1]
  simp only[QC,Qx,d1',QWL,QWs,cond_true,cond_false,eE,seval]
 have d1':(q.kind != 9)=false:=by simp[bne,d1]
 have q9:q.kind=9:=by simpa using d1
 by_cases Uh:o.kind=9∨o.kind=1
 case neg=>
  have a1:(o.kind==9)=false:=by simp;omega
  have a2:(o.kind==1)=false:=by simp;omega
  have b1:(o.kind != 9)=true:=by simp[bne,a1]
  have b2:(o.kind != 1)=true:=by simp[bne,a2]
  simp only[QC,Qx,d1',a1,a2,b1,b2,QWL,QWs,QXe,QXf,cond_true,cond_false,eE,seval]
 obtain⟨i,e,he,hte⟩:=hq.tgE q9;have hge:=Z0 he;have ca:=w68 P R fm g o ho Uh hP e (hR e (QVw he));rw[XB he hte];simp only[QC,Jd,Qx]at ca;by_cases o9:o.kind=9
 ·have ci:=QQQ P R fm g h o q ho hq o9 q9 hP hR;rw[XB he hte]at ci;simp only[QC,Qx,hte]at ci;have a1:(o.kind==9)=true:=by simp[o9]
  have b1:(o.kind != 9)=false:=by simp[o9]
  simp only[QC,Qx,hte,d1',a1,b1,QWY,QWs,QW0,cond_true,cond_false,eE,seval];cases f4:(fm==4)
  ·cases f2:(fm==2)
   ·cases c5:(o.card==5)
    ·simp only[f2,c5,QWL,QXf,cond_true,cond_false,eE,seval]
    ·simp only[f2,c5,Qd,QWH,Qb,hge,QWY,QXg,cond_true,cond_false,eE,seval];refine aC ca ?_;cases Jr P e o<;>simp only[QWZ,QWl,cond_true,cond_false,Qa,seval]
   ·simp only[f2,Qd,QWH,Qb,hge,QWY,QW0,cond_true,cond_false,eE,seval];refine aC ca ?_;cases Jr P e o<;>simp only[QWZ,QWl,cond_true,cond_false,Qa,seval]
  ·simp only[b1,cond_true,cond_false,eE,seval];refine aC ci ?_;cases V2 (X4 P o.target) e o<;>simp only[QWZ,QWl,cond_true,cond_false,Qa,seval]
 ·have o1:o.kind=1:=by omega
  have a1:(o.kind==9)=false:=by simp[o9]
  have b1:(o.kind != 9)=true:=by simp[o9]
  have a2:(o.kind==1)=true:=by simp[o1]
  have b2:(o.kind != 1)=false:=by simp[o1]
  simp only[QC,Qx,hte,d1',a1,b1,a2,b2,QWY,QWL,QWs,QXg,cond_true,cond_false,eE,seval];cases f4:(fm==4)
  ·cases f2:(fm==2)
   ·cases c5:(o.card==5)
    ·simp only[f2,c5,QWL,QXf,cond_true,cond_false,eE,seval]
    ·simp only[f2,c5,Qd,QWH,Qb,hge,QWY,QXg,cond_true,cond_false,eE,seval];refine aC ca ?_;cases Jr P e o<;>simp only[QWZ,QWl,cond_true,cond_false,Qa,seval]
   ·simp only[f2,Qd,QWH,Qb,hge,QWY,QW0,cond_true,cond_false,eE,seval];refine aC ca ?_;cases Jr P e o<;>simp only[QWZ,QWl,cond_true,cond_false,Qa,seval]
  ·simp only[b1,cond_true,cond_false,eE,seval]

set_option maxHeartbeats 2000000 in
theorem w64 (hf:Fm fm)(g h:PG)(o q:PO)(ho:OwnO P g o)(hq:OwnO R h q)(hP:∀e∈P.enums,e.items.length≤64):Qj Tryz.prog 64 [jv P R fm,QB o,QB q] (.int .i64 (DX P fm o q)):=by
 have cr:=QzO P R fm;simp only[QC]at cr;have hko:=ho.kd;have hkq:=hq.kd;unfold DX;have hcls:(o.kind=10∧q.kind=10)∨(o.kind=9∧q.kind=9)∨(o.kind=10∧q.kind≠10)∨(o.kind=9∧q.kind=10)∨((o.kind≠10∧o.kind≠9)∧q.kind=10)∨(o.kind=9∧q.kind=1∧fm=1)∨((o.kind≠10∧o.kind≠9)∧q.kind≠10)∨(o.kind=9∧q.kind≠10∧q.kind≠9∧q.kind≠1)∨(o.kind=9∧q.kind=1∧fm≠1):=by omega
 refine k64.fn (by simp) ?_;rcases hcls with⟨k1,k2⟩|⟨k1,k2⟩|⟨k1,k2⟩|⟨k1,k2⟩|⟨⟨k1,k3⟩,k2⟩|⟨k1,k2,k3⟩|⟨⟨k1,k3⟩,k2⟩|⟨k1,k2,k3,k4⟩|⟨k1,k2,k3⟩
 ·skip
  cases c5:(o.card==5)
  ·simp only[QC,Qx,c5,k1,k2,seval,QWL,QWs,QXe,QXg,QXf,cond_true,cond_false,eE]
   all_goals skip
  cases d5:(q.card==5)
  ·simp only[QC,Qx,c5,d5,k1,k2,seval,QWL,QWs,QXe,QXg,QXf,cond_true,cond_false,eE]
   all_goals skip
  have ck:=KW P R fm hf (ho.key (by simpa using c5)) (hq.key (by simpa using d5));simp only[QC]at ck;simp only[QC,Qx,c5,d5,k1,k2,seval,QWY,QWL,QWs,QXe,QXg,QXf,cond_true,cond_false,eE];refine aC ck ?_;cases d0:(kd fm o.key q.key != 0)
  ·simp only[d0,seval,cond_true,cond_false,eE]
   all_goals skip
  ·simp only[d0,cond_true,cond_false,Qa,seval]

 ·skip
  cases c5:(o.card==5)
  ·simp only[QC,Qx,c5,k1,k2,seval,QWL,QWs,QXe,QXg,QXf,cond_true,cond_false,eE]
   all_goals skip
  cases d5:(q.card==5)
  ·simp only[QC,Qx,c5,d5,k1,k2,seval,QWL,QWs,QXe,QXg,QXf,cond_true,cond_false,eE]
   all_goals skip
  have ck:=KW P R fm hf (ho.key (by simpa using c5)) (hq.key (by simpa using d5));simp only[QC]at ck;simp only[QC,Qx,c5,d5,k1,k2,seval,QWY,QWL,QWs,QXe,QXg,QXf,cond_true,cond_false,eE];refine aC ck ?_;cases d0:(kd fm o.key q.key != 0)
  ·simp only[d0,seval,cond_true,cond_false,eE]
   all_goals skip
  ·simp only[d0,cond_true,cond_false,Qa,seval]

 ·have b2:(q.kind==10)=false:=by simp[k2]
  cases c5:(o.card==5)
  ·simp only[QC,Qx,c5,k1,b2,seval,QWL,QWs,QXe,QXf,cond_true,cond_false,eE]
   all_goals(refine aC cr ?_;simp only[cond_true,cond_false,Qa,seval])
  cases d5:(q.card==5)
  ·simp only[QC,Qx,c5,d5,k1,b2,seval,QWL,QWs,QXe,QXf,cond_true,cond_false,eE]
   all_goals(refine aC cr ?_;simp only[cond_true,cond_false,Qa,seval])
  have ck:=KW P R fm hf (ho.key (by simpa using c5)) (hq.key (by simpa using d5));simp only[QC]at ck;simp only[QC,Qx,c5,d5,k1,b2,seval,QWY,QWL,QWs,QXe,QXf,cond_true,cond_false,eE];refine aC ck ?_;cases d0:(kd fm o.key q.key != 0)
  ·simp only[d0,b2,seval,cond_true,cond_false,eE]
   all_goals(refine aC cr ?_;simp only[cond_true,cond_false,Qa,seval])
  ·simp only[d0,cond_true,cond_false,Qa,seval]

 ·skip
  cases c5:(o.card==5)
  ·simp only[QC,Qx,c5,k1,k2,seval,QWL,QWs,QXe,QXg,QXf,cond_true,cond_false,eE]
   all_goals(refine aC cr ?_;simp only[cond_true,cond_false,Qa,seval])
  cases d5:(q.card==5)
  ·simp only[QC,Qx,c5,d5,k1,k2,seval,QWL,QWs,QXe,QXg,QXf,cond_true,cond_false,eE]
   all_goals(refine aC cr ?_;simp only[cond_true,cond_false,Qa,seval])
  have ck:=KW P R fm hf (ho.key (by simpa using c5)) (hq.key (by simpa using d5));simp only[QC]at ck;simp only[QC,Qx,c5,d5,k1,k2,seval,QWY,QWL,QWs,QXe,QXg,QXf,cond_true,cond_false,eE];refine aC ck ?_;cases d0:(kd fm o.key q.key != 0)
  ·simp only[d0,seval,cond_true,cond_false,eE]
   all_goals(refine aC cr ?_;simp only[cond_true,cond_false,Qa,seval])
  ·simp only[d0,cond_true,cond_false,Qa,seval]

 ·(have b1:(o.kind==10)=false:=by simp[k1]);(have b3:(o.kind==9)=false:=by simp[k3])
  cases c5:(o.card==5)
  ·simp only[QC,Qx,c5,b1,b3,k2,seval,QWL,QWs,QXe,QXg,QXf,cond_true,cond_false,eE]
   all_goals(refine aC cr ?_;simp only[cond_true,cond_false,Qa,seval])
  cases d5:(q.card==5)
  ·simp only[QC,Qx,c5,d5,b1,b3,k2,seval,QWL,QWs,QXe,QXg,QXf,cond_true,cond_false,eE]
   all_goals(refine aC cr ?_;simp only[cond_true,cond_false,Qa,seval])
  have ck:=KW P R fm hf (ho.key (by simpa using c5)) (hq.key (by simpa using d5));simp only[QC]at ck;simp only[QC,Qx,c5,d5,b1,b3,k2,seval,QWY,QWL,QWs,QXe,QXg,QXf,cond_true,cond_false,eE];refine aC ck ?_;cases d0:(kd fm o.key q.key != 0)
  ·simp only[d0,b1,b3,seval,cond_true,cond_false,eE]
   all_goals(refine aC cr ?_;simp only[cond_true,cond_false,Qa,seval])
  ·simp only[d0,cond_true,cond_false,Qa,seval]

 ·have c9:=QQP P R fm g o ho k1 hP;simp only[QC,Qx,k1]at c9;have b5:(fm==1)=true:=by simp[k3]
  cases c5:(o.card==5)
  ·simp only[QC,Qx,c5,k1,k2,b5,seval,QWL,QWs,QXe,QXf,cond_true,cond_false,eE]
   all_goals(refine aC c9 ?_;simp only[cond_true,cond_false,Qa,seval])
  cases d5:(q.card==5)
  ·simp only[QC,Qx,c5,d5,k1,k2,b5,seval,QWL,QWs,QXe,QXf,cond_true,cond_false,eE]
   all_goals(refine aC c9 ?_;simp only[cond_true,cond_false,Qa,seval])
  have ck:=KW P R fm hf (ho.key (by simpa using c5)) (hq.key (by simpa using d5));simp only[QC]at ck;simp only[QC,Qx,c5,d5,k1,k2,b5,seval,QWY,QWs,QXe,QXf,cond_true,cond_false,eE];refine aC ck ?_;cases d0:(kd fm o.key q.key != 0)
  ·simp only[d0,b5,seval,cond_true,cond_false,eE]
   all_goals(refine aC c9 ?_;simp only[cond_true,cond_false,Qa,seval])
  ·simp only[d0,cond_true,cond_false,Qa,seval]

 ·(have b1:(o.kind==10)=false:=by simp[k1]);(have b3:(o.kind==9)=false:=by simp[k3]);(have b2:(q.kind==10)=false:=by simp[k2]);have c9:=KW P R fm hf (a:=o.kind) (b:=q.kind) (by omega) (by omega);simp only[QC]at c9
  cases c5:(o.card==5)
  ·simp only[QC,Qx,c5,b1,b2,b3,seval,QWL,QWs,QXe,QXf,cond_true,cond_false,eE]
   all_goals(refine aC c9 ?_;simp only[cond_true,cond_false,Qa,seval])
  cases d5:(q.card==5)
  ·simp only[QC,Qx,c5,d5,b1,b2,b3,seval,QWL,QWs,QXe,QXf,cond_true,cond_false,eE]
   all_goals(refine aC c9 ?_;simp only[cond_true,cond_false,Qa,seval])
  have ck:=KW P R fm hf (ho.key (by simpa using c5)) (hq.key (by simpa using d5));simp only[QC]at ck;simp only[QC,Qx,c5,d5,b1,b2,b3,seval,QWY,QWL,QWs,QXe,QXf,cond_true,cond_false,eE];refine aC ck ?_;cases d0:(kd fm o.key q.key != 0)
  ·simp only[d0,b1,b2,b3,seval,cond_true,cond_false,eE]
   all_goals(refine aC c9 ?_;simp only[cond_true,cond_false,Qa,seval])
  ·simp only[d0,cond_true,cond_false,Qa,seval]

 ·(have b2:(q.kind==10)=false:=by simp[k2]);(have b3:(q.kind==9)=false:=by simp[k3]);(have b4:(q.kind==1)=false:=by simp[k4]);have c9:=KW P R fm hf (a:=o.kind) (b:=q.kind) (by omega) (by omega);simp only[QC]at c9;simp only[k1]at c9
  cases c5:(o.card==5)
  ·simp only[QC,Qx,c5,k1,b2,b3,b4,seval,QWL,QWs,QXe,QXf,cond_true,cond_false,eE]
   all_goals(refine aC c9 ?_;simp only[cond_true,cond_false,Qa,seval])
  cases d5:(q.card==5)
  ·simp only[QC,Qx,c5,d5,k1,b2,b3,b4,seval,QWL,QWs,QXe,QXf,cond_true,cond_false,eE]
   all_goals(refine aC c9 ?_;simp only[cond_true,cond_false,Qa,seval])
  have ck:=KW P R fm hf (ho.key (by simpa using c5)) (hq.key (by simpa using d5));simp only[QC]at ck;simp only[QC,Qx,c5,d5,k1,b2,b3,b4,seval,QWY,QWL,QWs,QXe,QXf,cond_true,cond_false,eE];refine aC ck ?_;cases d0:(kd fm o.key q.key != 0)
  ·simp only[d0,b2,b3,b4,seval,cond_true,cond_false,eE]
   all_goals(refine aC c9 ?_;simp only[cond_true,cond_false,Qa,seval])
  ·simp only[d0,cond_true,cond_false,Qa,seval]

 ·(have b5:(fm==1)=false:=by simp[k3]);have c9:=KW P R fm hf (a:=o.kind) (b:=q.kind) (by omega) (by omega);simp only[QC]at c9;simp only[k1,k2]at c9
  cases c5:(o.card==5)
  ·simp only[QC,Qx,c5,k1,k2,b5,seval,QWL,QWs,QXe,QXf,cond_true,cond_false,eE]
   all_goals(refine aC c9 ?_;simp only[cond_true,cond_false,Qa,seval])
  cases d5:(q.card==5)
  ·simp only[QC,Qx,c5,d5,k1,k2,b5,seval,QWL,QWs,QXe,QXf,cond_true,cond_false,eE]
   all_goals(refine aC c9 ?_;simp only[cond_true,cond_false,Qa,seval])
  have ck:=KW P R fm hf (ho.key (by simpa using c5)) (hq.key (by simpa using d5));simp only[QC]at ck;simp only[QC,Qx,c5,d5,k1,k2,b5,seval,QWY,QWs,QXe,QXf,cond_true,cond_false,eE];refine aC ck ?_;cases d0:(kd fm o.key q.key != 0)
  ·simp only[d0,b5,seval,cond_true,cond_false,eE]
   all_goals(refine aC c9 ?_;simp only[cond_true,cond_false,Qa,seval])
  ·simp only[d0,cond_true,cond_false,Qa,seval]

theorem w33 (hf:Fm fm)(g h:PG)(o q:PO)(ho:OwnO P g o)(hq:OwnO R h q)(hP:∀e∈P.enums,e.items.length≤64)(hR:∀e∈R.enums,e.items.length≤64):Qj Tryz.prog 33 [jv P R fm,QB o,QB q] (.int .i64 (KZ P R fm o q)):=by
 have c1:=w36 P R fm o q;have c2:=w64 P R fm hf g h o q ho hq hP;have c3:=w65 P R fm g h o q ho hq hP hR;have c4:=v66 q;have hs:(q.card != 4&&q.card != 5)=DW q:=rfl;rw[hs]at c4;have hu:(ZY fm != 0)=true:=by unfold ZY;cases(fm==1)<;>rfl
 unfold KZ;simp only[QC,Qx]at c1 c2 c3 c4;refine k33.fn (by simp) ?_;simp only[QC,Qx,eE,seval];refine aC c1 ?_;cases YS fm o q
 case true=>simp only[hu,cond_true,cond_false,Qa,seval]
 simp only[cond_true,cond_false,eE,seval];refine aC c2 ?_;cases d2:(DX P fm o q != 0)
 case true=>simp only[d2,cond_true,cond_false,Qa,seval]
 simp only[d2,cond_true,cond_false,eE,seval];refine aC c3 ?_;cases Nr P R fm o q
 case true=>simp only[cond_true,cond_false,Qa,seval]
 simp only[cond_true,cond_false,eE,seval];cases f4:(fm==4)
 ·simp only[QWL,cond_true,cond_false,Qa,seval]
 cases d4:(o.card==4)
 ·simp only[d4,QWL,QXe,cond_true,cond_false,eE,seval]
 simp only[d4,QWY,QWs,cond_true,cond_false,eE,seval];refine aC c4 ?_;cases DW q<;>simp only[cond_true,cond_false,Qa,seval]
end

structure EnO (P:PL):Prop where
 num:∀e∈P.enums,∀x∈e.items,0≤x.num∧x.num≤2147483647
 zero:∀e∈P.enums,∃x,e.items[0]? = some x∧x.num=0
 up:∀e∈P.enums,∀(i:Nat) (x:PI),e.items[i]? = some x→0<i→0<x.num

def Jf (e:PE)(n:Int):Bool:=e.items.any fun x=>IntKind.u64.wrap x.num==n
theorem YD {n:Int}(h:0≤n∧n≤2147483647):IntKind.u64.wrap n=n:=by rw[Tt];omega
theorem SK {e:PE}(h:∀x∈e.items,0≤x.num∧x.num≤2147483647)(n:Int):Jf e n=ZZ e n:=by
 unfold Jf ZZ;rw[QV7,QWR,QWR]
 constructor<;>rintro⟨x,hx,hp⟩<;>refine⟨x,hx,?_⟩
 ·rwa [YD (h x hx)]at hp
 ·rwa [YD (h x hx)]

theorem D0 {α:Type}{l:List α}{p:α→Bool}{k:Nat}{x:α}(hx:l[k]? = some x)(ht:(l.take k).find? p=none):(l.take (k+1)).find? p=(if p x=true then some x else none):=by
 rw[QWT,hx,QWU,List.find?_append,ht,Option.none_or,QW2];cases p x<;>rfl
theorem JZ {α:Type}{l:List α}{p:α→Bool}{k:Nat}{x:α}(hx:l[k]? = some x)(ht:(l.take k).find? p=none)(hp:p x=true):l.find? p=some x:=by
 have e:l=l.take (k+1)++l.drop (k+1):=(QWu _ _).symm;rw[e,List.find?_append,D0 hx ht,QVq hp];rfl
theorem KE {α:Type}{l:List α}{p:α→Bool}{k:Nat}{x:α}(hx:l[k]? = some x)(ht:(l.take k).find? p=none)(hp:p x=false):(l.take (k+1)).find? p=none:=by
 rw[D0 hx ht,hp,QVp (by simp)]

def IH (e:PE):Int:=(((List.range (e.items.length+1)).find? fun n:Nat=>!Jf e (n:Int)).getD 0:Nat)

section
variable (e:PE)(hl:e.items.length≤64)
include hl
theorem Ah (n:Int):Qj Tryz.prog 118 [Z2 e,.int .u64 n] (.bool (Jf e n)):=by
 refine QNZ.fn (by simp) ?_;simp only[Jd,eE,seval];refine QO (X:=Nat) (fun k=>[(1,.int .u64 n),(2,.ptr 0 2 0),(5,.int .i64 (k:Nat))]) (fun _=>[(2,.cells [.str e.name,.bool e.opn,.list (e.items.map Zp),.list (e.free.map QV),.list (e.notes.map fun n=>Q1 n.cells)])]) [] (fun k=>e.items.length-k) (fun k=>k≤e.items.length∧(e.items.take k).any (fun x=>IntKind.u64.wrap x.num==n)=false) (fun _=>[]) 0 ⟨QVr _,rfl⟩ ?_;rintro k f fr ⟨hk,hq⟩;simp only[QWE,Xa,QWe,eE,seval];rcases Xi e.items k with⟨x,hx,hlt⟩|hlt
 case inr=>
  rw[QVQ (by omega)]at hq;unfold Jf;simp only[Qu hlt,hq,Qa,seval]
 have hgi:=Z9 hx;have e1:=Qh k _ hlt (by simp only[maxLen];omega);have hT:=Zh (q:=fun x:PI=>IntKind.u64.wrap x.num==n) hx;rw[hq,QW1]at hT;simp only[Qs hlt,Qd,QWH,Qb,hgi,eE,seval];cases d1:(IntKind.u64.wrap x.num==n)
 ·rw[d1]at hT;simp only[e1,Qa,seval];exact Ix.go (k+1) (by omega) ⟨by omega,hT⟩
 ·have ha:Jf e n=true:=QWR.2 ⟨x,QVw hx,d1⟩;rw[ha];simp only[Qa,seval]

theorem QQR (n:List UInt8):Qj Tryz.prog 151 [Z2 e,.str n] (.bool (JE e n)):=by
 refine QN8.fn (by simp) ?_;simp only[Jd,eE,seval];refine QO (X:=Nat) (fun k=>[(1,.str n),(2,.ptr 0 2 0),(5,.int .i64 (k:Nat))]) (fun _=>[(2,.cells [.str e.name,.bool e.opn,.list (e.items.map Zp),.list (e.free.map QV),.list (e.notes.map fun n=>Q1 n.cells)])]) [] (fun k=>e.items.length-k) (fun k=>k≤e.items.length∧(e.items.take k).any (fun x=>x.name==n)=false) (fun _=>[]) 0 ⟨QVr _,rfl⟩ ?_;rintro k f fr ⟨hk,hq⟩;simp only[QWE,Xa,QWe,eE,seval];rcases Xi e.items k with⟨x,hx,hlt⟩|hlt
 case inr=>
  rw[QVQ (by omega)]at hq;unfold JE;simp only[Qu hlt,hq,Qa,seval]
 have hgi:=Z9 hx;have e1:=Qh k _ hlt (by simp only[maxLen];omega);have hT:=Zh (q:=fun x:PI=>x.name==n) hx;rw[hq,QW1]at hT;simp only[Qs hlt,Qd,QWH,Qb,hgi,Qz,eE,seval];cases d1:(x.name==n)
 ·rw[d1]at hT;simp only[e1,Qa,seval];exact Ix.go (k+1) (by omega) ⟨by omega,hT⟩
 ·have ha:JE e n=true:=QWR.2 ⟨x,QVw hx,d1⟩;rw[ha];simp only[Qa,seval]

theorem QzQ:Qj Tryz.prog 119 [Z2 e] (.int .u64 (IH e)):=by
 have cu:=fun n=>Ah e hl n
 have w0:IntKind.u64.wrap (e.items.length:Int)=(e.items.length:Int):=YD (by omega);have hr:∀k,k<e.items.length+1→(List.range (e.items.length+1))[k]? = some k:=fun k h=>QWC h
 simp only[Jd]at cu;unfold IH;refine QN2.fn (by simp) ?_;simp only[Jd,eE,seval];refine QO (X:=Nat) (fun k=>[(1,.ptr 0 1 0),(3,.int .u64 (k:Nat))]) (fun _=>[(1,.cells [.str e.name,.bool e.opn,.list (e.items.map Zp),.list (e.free.map QV),.list (e.notes.map fun n=>Q1 n.cells)])]) [] (fun k=>e.items.length+1-k) (fun k=>k≤e.items.length+1∧((List.range (e.items.length+1)).take k).find? (fun n:Nat=>!Jf e (n:Int))=none) (fun _=>[]) 0 ⟨QVr _,rfl⟩ ?_;rintro k f fr ⟨hk,hq⟩;simp only[QWE,w0,Xa,QWe,eE,seval];by_cases hlt:k<e.items.length+1
 case neg=>
  rw[QVQ (by simp;omega)]at hq;have d:decide ((k:Int)≤(e.items.length:Int))=false:=QW3 (by omega);rw[hq];simp only[d,QWP,Qa,seval]
 have d:decide ((k:Int)≤(e.items.length:Int))=true:=QXb (by omega);have c1:=cu (k:Int);have e1:IntKind.u64.wrap ((k:Int)+1)=((k+1:Nat):Int):=by rw[Tt];omega
 simp only[d,eE,seval];refine aC c1 ?_;cases d1:Jf e (k:Int)
 ·rw[JZ (hr k hlt) hq (by rw[d1];rfl)];simp only[QWo,QWl,cond_true,cond_false,Qa,seval]
 ·simp only[e1,QWZ,cond_true,cond_false,Qa,seval];exact Ix.go (k+1) (by omega) ⟨by omega,KE (hr k hlt) hq (by rw[d1];rfl)⟩
end

def rfV (P:PL)(e:PE)(o:PO):Int:=if e.opn=true then 0 else if o.kind=1 then 1 else if (X4 P o.target).opn=true then IH e else match (X4 P o.target).items.find? (fun x=>!Jf e (IntKind.u64.wrap x.num))with
 |some x=>IntKind.u64.wrap x.num
 |none=>0
def D1 (P:PL)(e:PE)(o:PO):Bool:=!e.opn&&(bif o.kind==1 then !Jf e 1 else(X4 P o.target).opn||((X4 P o.target).items.find? fun x=>!Jf e (IntKind.u64.wrap x.num)).isSome)
theorem GC {P R:PL}(hP:EnO P)(hR:EnO R){g:PG}{o:PO}(ho:OwnO P g o)(hk:o.kind=9∨o.kind=1){e:PE}(he:e∈R.enums):D1 P e o=!Jr P e o:=by
 have hU:=SK (hR.num e he);have h0:ZZ e 0=true:=by
  obtain⟨x,hx,h⟩:=hR.zero e he;exact QWR.2 ⟨x,QVw hx,by simp[h]⟩
 unfold D1 Jr;cases e.opn
 case true=>rfl
 rcases hk with h9|h1
 ·have d:(o.kind==1)=false:=by simp[h9]
  obtain⟨j,d',hd,ht⟩:=ho.tgE h9;rw[XB hd ht,d];have hn:=hP.num d' (QVw hd);simp only[cond_false,QWl,QWY,QW1,Bool.not_and,QXm];congr 1
  rw[QV7,List.find?_isSome]
  constructor
  ·rintro⟨x,hx,hp⟩;rw[QV9,QXo];refine⟨x,hx,?_⟩;rw[YD (hn x hx),hU]at hp
   simpa using hp
  ·intro h;rw[QV9,QXo]at h;obtain⟨x,hx,hp⟩:=h;refine⟨x,hx,?_⟩;rw[YD (hn x hx),hU]
   simpa using hp
 ·have d:(o.kind==1)=true:=by simp[h1]
  rw[d,hU,h0];simp

section
variable (P R:PL)(fm:Int)

theorem II (g h:PG)(o q:PO)(ho:OwnO P g o)(hq:OwnO R h q)(hk:o.kind=9∨o.kind=1)(hq9:q.kind=9)(hP:∀e∈P.enums,e.items.length≤64)(hR:∀e∈R.enums,e.items.length≤64):Qj Tryz.prog 84 [jv P R fm,QB o,QB q] (.tup [.int .u64 (rfV P (X4 R q.target) o),.bool (D1 P (X4 R q.target) o)]):=by
 obtain⟨i,e,he,hte⟩:=hq.tgE hq9;have hel:=hR e (QVw he);have hge:=Z0 he;have cu:=fun n=>Ah e hel n
 have cl:=QzQ e hel;rw[XB he hte];unfold rfV D1;simp only[Jd]at cu cl;refine k84.fn (by simp) ?_;simp only[QC,Qx,hte,Qd,QWH,Qb,hge,eE,seval];cases heo:e.opn
 case true=>simp only[QWL,QWZ,cond_true,cond_false,Qa,seval]
 rw[heo]at cu cl;rcases hk with h9|h1
 case inr=>
  have d:(o.kind==1)=true:=by simp[h1]
  have c1:=cu 1;rw[QVp (by simp),QVq h1];simp only[d,QWY,QWl,cond_true,cond_false,eE,seval];refine aC c1 ?_;simp only[Qa,seval]
 have d:(o.kind==1)=false:=by simp[h9]
 obtain⟨j,z,hz,ht⟩:=ho.tgE h9;have hzl:=hP z (QVw hz);have hgz:=Z0 hz;rw[XB hz ht,QVp (by simp),QVp (by omega)];simp only[d,ht,Qd,QWH,Qb,hgz,QWY,QWs,QWl,cond_true,cond_false,eE,seval];cases hzo:z.opn
 case true=>
  simp only[QW0,cond_true,cond_false,eE,seval];refine aC cl ?_;simp only[Qa,seval]
 simp only[QVB,QW1,Qa,seval];refine QO (X:=Nat) (fun k=>[(8,.ptr 0 8 0),(9,.ptr 0 9 0),(10,.int .i64 (k:Nat))]) (fun _=>[(8,.cells [.str e.name,.bool false,.list (e.items.map Zp),.list (e.free.map QV),.list (e.notes.map fun n=>Q1 n.cells)]),(9,.cells [.str z.name,.bool false,.list (z.items.map Zp),.list (z.free.map QV),.list (z.notes.map fun n=>Q1 n.cells)])]) [] (fun k=>z.items.length-k) (fun k=>k≤z.items.length∧(z.items.take k).find? (fun x=>!Jf e (IntKind.u64.wrap x.num))=none) (fun _=>[]) 0 ⟨QVr _,rfl⟩ ?_;rintro k f fr ⟨hk,hq⟩;simp only[QWE,Xa,QWe,eE,seval];rcases Xi z.items k with⟨x,hx,hlt⟩|hlt
 case inr=>
  rw[QVQ (by omega)]at hq;simp only[Qu hlt,hq,QV5,Qa,seval]
 have hgi:=Z9 hx;have e1:=Qh k _ hlt (by simp only[maxLen];omega);have c1:=cu (IntKind.u64.wrap x.num);simp only[Qs hlt,Qd,QWH,Qb,hgi,eE,seval];refine aC c1 ?_;cases d1:Jf e (IntKind.u64.wrap x.num)
 ·rw[JZ hx hq (by rw[d1];rfl)];simp only[Qd,QWH,Qb,hgi,QW4,QWl,cond_true,cond_false,eE,seval]
 ·simp only[e1,QWZ,cond_true,cond_false,Qa,seval];exact Ix.go (k+1) (by omega) ⟨by omega,KE hx hq (by rw[d1];rfl)⟩

def byV (d:PE):Int:=if d.opn=true then 2 else match d.items.find? (fun x=>decide (x.num > 1))with
 |some x=>IntKind.u64.wrap x.num
 |none=>0
theorem QQS (g:PG)(o:PO)(ho:OwnO P g o)(h9:o.kind=9)(hP:∀e∈P.enums,e.items.length≤64):Qj Tryz.prog 116 [jv P R fm,QB o] (.tup [.int .u64 (byV (X4 P o.target)),.bool (YC P o)]):=by
 obtain⟨j,z,hz,ht⟩:=ho.tgE h9;have hzl:=hP z (QVw hz);have hgz:=Z0 hz;have hb:YC P o=(z.opn||(z.items.find? fun x=>decide (x.num > 1)).isSome):=by
  unfold YC;rw[XB hz ht];congr 1
  rw[QV7,List.find?_isSome,QWR]
 rw[hb,XB hz ht];unfold byV;refine QOd.fn (by simp) ?_;simp only[QC,Qx,ht,Qd,QWH,Qb,hgz,eE,seval];cases hzo:z.opn
 case true=>simp only[QW0,cond_true,cond_false,Qa,seval]
 simp only[QVB,QW1,Qa,seval];refine QO (X:=Nat) (fun k=>[(6,.ptr 0 6 0),(7,.int .i64 (k:Nat))]) (fun _=>[(6,.cells [.str z.name,.bool false,.list (z.items.map Zp),.list (z.free.map QV),.list (z.notes.map fun n=>Q1 n.cells)])]) [] (fun k=>z.items.length-k) (fun k=>k≤z.items.length∧(z.items.take k).find? (fun x=>decide (x.num > 1))=none) (fun _=>[]) 0 ⟨QVr _,rfl⟩ ?_;rintro k f fr ⟨hk,hq⟩;simp only[QWE,Xa,QWe,eE,seval];rcases Xi z.items k with⟨x,hx,hlt⟩|hlt
 case inr=>
  rw[QVQ (by omega)]at hq;simp only[Qu hlt,hq,QV5,Qa,seval]
 have hgi:=Z9 hx;have e1:=Qh k _ hlt (by simp only[maxLen];omega);simp only[Qs hlt,Qd,QWH,Qb,hgi,eE,seval];cases d1:decide (x.num > 1)
 ·simp only[e1,cond_true,cond_false,Qa,seval];exact Ix.go (k+1) (by omega) ⟨by omega,KE hx hq d1⟩
 ·rw[JZ hx hq d1];simp only[Qd,QWH,Qb,hgi,QW4,cond_true,cond_false,eE,seval]
end

theorem u82 (c:Int):Qj Tryz.prog 82 [.int .i64 c] (.bool (c != 4&&c != 5)):=by
 refine k82.fn (by simp) ?_;simp only[Qa,seval];cases h:(c != 4)<;>simp only[QWY,QWL,cond_true,cond_false,Qa,seval]

theorem QKc:∀a4 b4 a5 b5 pa pb f1 f2:Bool,(pa=true→a4=true)→(pb=true→b4=true)→(a4&&a5)=false→(b4&&b5)=false→(!(a5==b5)||(bif f1 then(pa&&(!b4 && !b5))||(a4&&b4 && !(pa==pb))else a4 && !b4&&f2))=(!(a5==b5)||(!a5&&bif f1 then a4 && !(pa==pb)else a4 && !b4&&f2)):=by decide
theorem QzS {c k:Int}:pk c k=true→(c==4)=true:=by
 unfold pk;intro h;simp only[QVF]at h;exact h.1
theorem c45 (c:Int):((c==4)&&(c==5))=false:=by
 by_cases h:c=4
 ·simp[h]
 ·simp[h]
theorem cdS (fm:Int)(o q:PO):YS fm o q=(!((o.card==5)==(q.card==5))||(!(o.card==5)&&bif fm==1 then(o.card==4) && !(pk o.card o.kind==pk q.card q.kind)else(o.card==4) && !(q.card==4)&&(fm==2))):=QKc _ _ _ _ _ _ _ _ QzS QzS (c45 _) (c45 _)

def Ya (fm a b:Int):Int:=bif (a==10&&b==10)||(a==9&&b==9)then 0 else bif a==10||b==10 then ZY fm else kd fm a b
theorem QQT {fm:Int}(hf:Fm fm):kd fm 9 9=0:=by rcases hf with rfl|rfl|rfl<;>decide +kernel
theorem QcK:(([1,2,4]:List Int).all fun fm=>([1,2,3,4,5,6,7,8,9,10]:List Int).all fun a=>([1,2,3,4,5,6,7,8,9,10]:List Int).all fun b=>(!(a==10||b==10))||SH fm a b==some (ZY fm))=true:=by decide +kernel
theorem QKd {fm a b:Int}(hf:Fm fm)(ha:1≤a∧a≤10)(hb:1≤b∧b≤10):SH fm a b=some (bif a==10||b==10 then ZY fm else kd fm a b):=by
 have h:=QVv.1 (QVv.1 (QVv.1 QcK fm (in3 hf)) a (QzN ha)) b (QzN hb);cases d:(a==10||b==10)
 ·rw[QV6,QXd,QXd]at d;exact(IG hf (by omega) (by omega)).2
 ·rw[d]at h
  simpa using h

section
variable (P R:PL)(fm:Int)

theorem u79:Qj Tryz.prog 79 [jv P R fm] (.int .i64 (ZY fm)):=by
 refine k79.fn (by simp) ?_;simp only[QC,ZY,eE,seval];cases d:(fm==1)<;>simp only[cond_true,cond_false,Qa,seval]

theorem u42 (g:PG)(o:PO)(ho:OwnO P g o):Qj Tryz.prog 42 [jv P R fm,QB o] (.bool (Kf P o)):=by
 refine k42.fn (by simp) ?_;simp only[QC,Qx,Kf,eE,seval];by_cases h3:o.card=3
 case neg=>
  have d:(o.card != 3)=true:=by simp[h3]
  rw[QVp (fun h=>h3 h.1)];simp only[d,Qa,seval]
 have d:(o.card != 3)=false:=by simp[h3]
 by_cases h9:o.kind=9
 case neg=>
  have d2:(o.kind != 9)=true:=by simp[h9]
  rw[QVp (fun h=>h9 h.2)];simp only[d,d2,eE,seval]
 have d2:(o.kind != 9)=false:=by simp[h9]
 obtain⟨j,e,he,ht⟩:=ho.tgE h9;have hg:=Z0 he;rw[QVq ⟨h3,h9⟩];simp only[d,d2,ht,QWH,he,Qd,Qb,hg,eE,seval];cases ho:e.opn
 ·simp only[QWE,QW1,eE,seval]
 ·simp only[QW0,Qa,seval]

theorem KF {j:Nat}{g:PG}(hg:P.progs[j]? = some g):(P.progs.map Xk)[j]? = some (.agg [.str g.name,.list (g.ops.map QB),.int .i64 g.unions]):=by
 rw[QWB,hg];rfl

theorem V3 (hR:Own R)(j:Nat)(h:PG)(hj:R.progs[j]? = some h)(o:PO):Qj Tryz.prog 41 [jv P R fm,.int .i64 (j:Nat),QB o] (oq (mq fm h o)):=by
 have hl:=hR.ops h (QVw hj);have h1:=y74 h (by simp only[maxLen];omega) o.name;have h2:=y75 h (by simp only[maxLen];omega) o.num;have hg:=KF R hj;rw[SG]at h1;simp only[Kn]at h2;unfold mq;refine k41.fn (by simp) ?_;simp only[QC,Qx,eE,seval];by_cases h4:fm=4
 ·have d:(fm==4)=true:=by simp[h4]
  rw[QVq h4];generalize Nq o.name h.ops=q at h1;simp only[oq,Je,Qx]at h1 ⊢;simp only[d,Qd,QWH,Qb,hg,eE,seval];refine aC h1 ?_;simp only[eE,seval]
 ·have d:(fm==4)=false:=by simp[h4]
  rw[QVp h4];generalize h.ops.find? (fun x=>x.num==o.num)=q at h2;simp only[oq,Je,Qx]at h2 ⊢;simp only[d,Qd,QWH,Qb,hg,eE,seval];refine aC h2 ?_;simp only[eE,seval]

theorem u43 (o q:PO):Qj Tryz.prog 43 [jv P R fm,QB o,QB q] (.bool (YS fm o q)):=by
 have cp:=y76 o.num o.name o.alias o.card o.key o.kind o.target o.union;have cq:=y76 q.num q.name q.alias q.card q.key q.kind q.target q.union;simp only[oc]at cp cq;rw[cdS];refine k43.fn (by simp) ?_;simp only[QC,Qx,eE,seval];cases hm:((o.card==5)==(q.card==5))
 ·simp only[QW0,QWl,cond_true,cond_false,Qa,seval]
 simp only[QW1,QWZ,cond_true,cond_false,eE,seval];cases h5:(o.card==5)
 case true=>simp only[QWL,QWZ,cond_true,cond_false,Qa,seval]
 simp only[QWY,QWl,cond_true,cond_false,eE,seval];cases f1:(fm==1)
 ·simp only[cond_true,cond_false,eE,seval];cases c4:(o.card==4)
  ·simp only[QWL,cond_true,cond_false,Qa,seval]
  cases d4:(q.card==4)
  ·have d4':(q.card != 4)=true:=by simp[bne,d4]
   simp only[d4',QWY,QWs,QWl,cond_true,cond_false,eE,seval]
  ·have d4':(q.card != 4)=false:=by simp[bne,d4]
   simp only[d4',QWL,QXe,QWZ,cond_true,cond_false,eE,seval]
 ·cases c4:(o.card==4)
  ·simp only[c4,QWL,cond_true,cond_false,eE,seval]
  simp only[c4,QWY,cond_true,cond_false,eE,seval];refine aC cp ?_;simp only[cond_true,cond_false,eE,seval];refine aC cq ?_;simp only[cond_true,cond_false,Qa,seval]

theorem QzU (hf:Fm fm){a b:Int}(ha:1≤a∧a≤10)(hb:1≤b∧b≤10):Qj Tryz.prog 115 [jv P R fm,.int .i64 a,.int .i64 b] (.int .i64 (Ya fm a b)):=by
 have h:=QKd hf ha hb;unfold Ya;have hgs:((a==10&&b==10)||(a==9&&b==9))=false→Qj Tryz.prog 115 [jv P R fm,.int .i64 a,.int .i64 b] (.int .i64 (bif a==10||b==10 then ZY fm else kd fm a b)):=by
  intro hn;generalize (bif a==10||b==10 then ZY fm else kd fm a b)=e at h;unfold SH at h;split at h
  case h_2=>cases h
  rename_i n hn';have c1:Qj Tryz.prog 148 [.int .i64 fm,.int .i64 a,.int .i64 b] (.int .i64 n):=(XZ Ev.XX Ev.ZR (JJ Ev.XX Ev.ZR 300) _ _ _ _ _ hn').mono fun _ _ e=>e.1
  have cr:=u79 P R fm;simp only[QC]at cr;refine Qx9.fn (by simp) ?_;have hcls:(a=10∧b≠10)∨((a≠10∧a≠9)∧b=10)∨(a=9∧b=10)∨((a≠10∧a≠9)∧b≠10)∨(a=9∧b≠9∧b≠10):=by
   simp at hn;omega
  rcases hcls with⟨k1,k2⟩|⟨⟨k1,k3⟩,k2⟩|⟨k1,k2⟩|⟨⟨k1,k3⟩,k2⟩|⟨k1,k3,k2⟩
  case' inl=>
   have d1:(a==10)=true:=by simp[k1]
   have d2:(b==10)=false:=by simp[k2]
   have d3:(a==9)=false:=by simp[k1]
   have d4:True:=trivial;have d5:a=10∨b=10:=.inl k1
  case' inr.inl=>
   have d1:(a==10)=false:=by simp[k1]
   have d2:(b==10)=true:=by simp[k2]
   have d3:(a==9)=false:=by simp[k3]
   have d4:True:=trivial;have d5:a=10∨b=10:=.inr k2
  case' inr.inr.inl=>
   have d1:(a==10)=false:=by simp[k1]
   have d2:(b==10)=true:=by simp[k2]
   have d3:(a==9)=true:=by simp[k1]
   have d4:(b==9)=false:=by simp[k2]
   have d5:a=10∨b=10:=.inr k2
  case' inr.inr.inr.inl=>
   have d1:(a==10)=false:=by simp[k1]
   have d2:(b==10)=false:=by simp[k2]
   have d3:(a==9)=false:=by simp[k3]
   have d4:True:=trivial;have d5:¬(a=10∨b=10):=by omega
  case' inr.inr.inr.inr=>
   have d1:(a==10)=false:=by simp[k1]
   have d2:(b==10)=false:=by simp[k2]
   have d3:(a==9)=true:=by simp[k1]
   have d4:(b==9)=false:=by simp[k3]
   have d5:¬(a=10∨b=10):=by omega
  all_goals
   simp only[QC,d1,d2,d3,d4,QWs,cond_true,cond_false,eE,seval];refine aC c1 ?_;clear hn
  any_goals
   rw[QVq d5]at h;cases h;simp only[d1,d2,cond_true,cond_false,eE,seval];refine aC cr ?_;simp only[Qa,seval]
   done
  all_goals
   rw[QVp d5]at h;by_cases n0:n=0
   ·rw[QVq n0]at h;cases h;have d:(n==0)=true:=by simp[n0]
    simp only[d1,d2,d,cond_true,cond_false,eE,seval];refine aC cr ?_;simp only[Qa,seval]
   rw[QVp n0]at h;have d0:(n==0)=false:=by simp[n0]
   by_cases n2:n=2
   ·rw[QVq n2]at h;cases h;have d:(n==2)=true:=by simp[n2]
    simp only[d1,d2,d0,d,cond_true,cond_false,Qa,seval]
   ·rw[QVp n2]at h;have d:(n==2)=false:=by simp[n2]
    split at h
    case h_2=>cases h
    rename_i k x t b1 h2;split at h
    case h_2=>cases h
    rename_i k' x' t' e' h3;cases h;have c2:Qj Tryz.prog 149 [.int .i64 fm,.int .i64 a,.int .i64 b] _:=(XZ Ev.XX Ev.ZR (JJ Ev.XX Ev.ZR 300) _ _ _ _ _ h2).mono fun _ _ e=>e.1
    have c3:Qj Tryz.prog 150 [.int .i64 fm,.int .i64 a,.int .i64 b,_] _:=(XZ Ev.XX Ev.ZR (JJ Ev.XX Ev.ZR 300) _ _ _ _ _ h3).mono fun _ _ e=>e.1
    simp only[d1,d2,d0,d,cond_true,cond_false,eE,seval];refine aC c2 ?_;simp only[eE,seval];refine aC c3 ?_;simp only[eE,seval]
 cases hn:((a==10&&b==10)||(a==9&&b==9))
 ·exact hgs hn
 ·refine Qx9.fn (by simp) ?_;simp only[QC,eE,seval];cases q1:(a==10)<;>cases q2:(b==10)<;>cases q3:(a==9)<;>cases q4:(b==9)<;>rw[q1,q2,q3,q4]at hn<;>first
   |(cases hn;done)
   |simp only[q2,q3,q4,cond_true,cond_false,Qa,seval]
end

def D2 (P:PL)(fm:Int)(o q:PO):Int×Bool :=
 bif o.card==5&&Ya fm o.key q.key != 0 then(Ya fm o.key q.key,true)
 else bif o.kind==9&&q.kind==1&&fm==1 then(bif YC P o then 6 else 0,false)else(Ya fm o.kind q.kind,false)
theorem QzV {P R:PL}{g h:PG}{fm:Int}(hf:Fm fm){o q:PO}(ho:OwnO P g o)(hq:OwnO R h q)(hc:o.card=5→q.card=5):(D2 P fm o q).1=DX P fm o q:=by
 have hko:=ho.kd;have hkq:=hq.kd;have e1:o.card=5→Ya fm o.key q.key=kd fm o.key q.key:=fun h5=>by
  have h1:=ho.key h5;have h2:=hq.key (hc h5);have d1:(o.key==10)=false:=by simp;omega
  have d2:(q.key==10)=false:=by simp;omega
  unfold Ya;rw[d1,d2];cases h9:(o.key==9&&q.key==9)
  ·rfl
  ·simp only[QVF,QVG]at h9;rw[h9.1,h9.2,QQT hf];rfl
 unfold D2 DX;cases h5:(o.card==5)
 case true=>
  have o5:o.card=5:=by simpa using h5
  have q5:(q.card==5)=true:=by simp[hc o5]
  rw[q5,e1 o5];simp only[QWY];cases hk:(kd fm o.key q.key != 0)
  case true=>rfl
  simp only[cond_false];unfold Ya;cases ha:(o.kind==10)<;>cases hb:(q.kind==10)<;>cases hc:(o.kind==9)<;>cases hd:(q.kind==9)<;>cases he:(q.kind==1)<;>cases hg:(fm==1)<;>simp_all
 case false=>
  simp only[QWL,cond_false];unfold Ya;cases ha:(o.kind==10)<;>cases hb:(q.kind==10)<;>cases hc:(o.kind==9)<;>cases hd:(q.kind==9)<;>cases he:(q.kind==1)<;>cases hg:(fm==1)<;>simp_all

def IJ (d:PE)(i:Nat):PI:=(d.items[i]?).getD ⟨[],0,[]⟩
def GD (d e:PE)(o:PO)(i:Nat):Bool:=(decide (0<i)||o.card != 3) && !JE e (IJ d i).name
def V4 (d e:PE)(o:PO):Option Nat:=(List.range d.items.length).find? (GD d e o)
def urV (d e:PE)(o:PO):Int:=match V4 d e o with
 |some i=>IntKind.u64.wrap (IJ d i).num
 |none=>if d.opn=true then(if e.opn=true then(match e.items.find? (fun x=>!Jf d (IntKind.u64.wrap x.num))with|some x=>IntKind.u64.wrap x.num|none=>0)else IH d)else 0
def IK (d e:PE)(o:PO):Bool:=(V4 d e o).isSome||(d.opn&&(!e.opn||(e.items.find? (fun x=>!Jf d (IntKind.u64.wrap x.num))).isSome))
theorem GE {d:PE}{i:Nat}{x:PI}(hx:d.items[i]? = some x):IJ d i=x:=by unfold IJ;rw[hx];rfl
theorem QzW {P R:PL}(hP:EnO P)(hR:EnO R){d e:PE}(hd:d∈P.enums)(he:e∈R.enums)(o:PO):IK d e o=!V2 d e o:=by
 have h1:(V4 d e o).isSome=!(d.items.all fun x=>!((x.num != 0||o.card != 3) && !JE e x.name)):=by
  unfold V4;rw[QV7,List.find?_isSome,QV9,QXo];have hn:∀(i:Nat) (x:PI),d.items[i]? = some x→(x.num != 0)=decide (0<i):=by
   intro i x hx;by_cases h0:0<i
   ·have:=hP.up d hd i x hx h0;rw[QXb h0,QVL];omega
   ·obtain⟨y,hy,hz⟩:=hP.zero d hd;have:i=0:=by omega
    subst this;rw[hy]at hx;cases hx;simp[hz]
  constructor
  ·rintro⟨i,hi,h⟩;rw[QWO]at hi;have hx:d.items[i]? = some d.items[i]:=QVl hi;unfold GD at h;rw[GE hx]at h;refine⟨d.items[i],List.getElem_mem hi,?_⟩;rw[hn i _ hx,h];simp
  ·rintro⟨x,hx,h⟩;obtain⟨i,hi⟩:=QVu.1 hx;refine⟨i,QWO.2 (QVk.1 hi).1,?_⟩;unfold GD;rw[GE hi,←hn i _ hi];rw[Bool.not_eq_true,Bool.not_eq_false']at h;exact h
 have hU:=SK (hP.num d hd);have h2:(e.items.find? (fun x=>!Jf d (IntKind.u64.wrap x.num))).isSome=!(e.items.all fun x=>ZZ d x.num):=by
  rw[QV7,List.find?_isSome,QV9,QXo]
  constructor
  ·rintro⟨x,hx,h⟩;rw[YD (hR.num e he x hx),hU]at h;exact⟨x,hx,by simpa using h⟩
  ·rintro⟨x,hx,h⟩;refine⟨x,hx,?_⟩;rw[YD (hR.num e he x hx),hU]
   simpa using h
 unfold IK V2;rw[h1,h2];cases(d.items.all fun x=>!((x.num != 0||o.card != 3) && !JE e x.name))<;>cases(e.items.all fun x=>ZZ d x.num)<;>cases d.opn<;>cases e.opn<;>rfl

section
variable (P R:PL)(hP:Own P)(hR:Own R)(eP:EnO P)(eR:EnO R)(fm:Int)(hf:Fm fm)(g h:PG)(o q:PO)(ho:OwnO P g o)(hq:OwnO R h q)
include hP hR eP eR hf ho hq

theorem u80 (hc:o.card=5→q.card=5):Qj Tryz.prog 80 [jv P R fm,QB o,QB q] (.tup [.int .i64 (D2 P fm o q).1,.bool (D2 P fm o q).2]):=by
 have ck:=fun(h5:o.card=5)=>QzU P R fm hf (a:=o.key) (b:=q.key) (by have:=ho.key h5;omega) (by have:=hq.key (hc h5);omega)
 have cd:=QzU P R fm hf ho.kd hq.kd;have cb:=fun(h9:o.kind=9)=>QQS P R fm g o ho h9 hP.its
 simp only[QC,Qx]at ck cd cb;have tail:∀(b:Bool),(o.card==5&&Ya fm o.key q.key != 0)=b→b=false→(D2 P fm o q)=bif o.kind==9&&q.kind==1&&fm==1 then(bif YC P o then 6 else 0,false)else(Ya fm o.kind q.kind,false):=by
  intro b h1 h2;unfold D2;rw[h1,h2];rfl
 refine k80.fn (by simp) ?_;simp only[QC,Qx,eE,seval];cases h5:(o.card==5)
 case' true=>
  have c1:=ck (by simpa using h5);simp only[cond_true,cond_false,eE,seval];refine aC c1 ?_;cases hk:(Ya fm o.key q.key != 0)
  case true=>
   have e:D2 P fm o q=(Ya fm o.key q.key,true):=by unfold D2;rw[h5,hk];rfl
   simp only[hk,e,cond_true,cond_false,Qa,seval]
  have ht:=tail _ rfl (by rw[h5,hk];rfl);simp only[hk,cond_true,cond_false,eE,seval]
 case' false=>
  have ht:=tail _ rfl (by rw[h5];rfl);simp only[cond_true,cond_false,eE,seval]
 all_goals
  rw[ht];clear ht tail;cases k9:(o.kind==9)
  ·simp only[QWL,cond_true,cond_false,eE,seval];refine aC cd ?_;simp only[Qa,seval]
  cases k1:(q.kind==1)
  ·simp only[k1,QWL,QXe,cond_true,cond_false,eE,seval];refine aC cd ?_;simp only[Qa,seval]
  cases f1:(fm==1)
  ·simp only[k1,f1,QWs,QXe,cond_true,cond_false,eE,seval];refine aC cd ?_;simp only[Qa,seval]
  ·have c2:=cb (by simpa using k9);simp only[k1,f1,QWs,cond_true,cond_false,eE,seval];refine aC c2 ?_;cases hb:YC P o<;>simp only[cond_true,cond_false,Qa,seval]

theorem QQU (h9:o.kind=9)(q9:q.kind=9):Qj Tryz.prog 117 [jv P R fm,QB o,QB q] (.tup [.int .u64 (urV (X4 P o.target) (X4 R q.target) o),.bool (IK (X4 P o.target) (X4 R q.target) o)]):=by
 obtain⟨j,d,hd,ht⟩:=ho.tgE h9;obtain⟨i,e,he,hte⟩:=hq.tgE q9;have hdl:=hP.its d (QVw hd);have hel:=hR.its e (QVw he);have hgd:=Z0 hd;have hge:=Z0 he;have cl:=QzQ d hdl;have cu:=fun n=>Ah d hdl n
 have cs:=fun n=>QQR e hel n
 have hr:∀k,k<d.items.length→(List.range d.items.length)[k]? = some k:=fun k h=>QWC h
 rw[XB hd ht,XB he hte];simp only[Jd]at cl cu cs;unfold urV IK;refine QN5.fn (by simp) ?_;simp only[QC,Qx,ht,hte,Qd,QWH,Qb,hgd,hge,eE,seval]
 let D:List AV:=[.str d.name,.bool d.opn,.list (d.items.map Zp),.list (d.free.map QV),.list (d.notes.map fun n=>Q1 n.cells)]
 let E:List AV:=[.str e.name,.bool e.opn,.list (e.items.map Zp),.list (e.free.map QV),.list (e.notes.map fun n=>Q1 n.cells)]
 let O:List AV:=[.int .i64 o.num,.str o.name,.str o.alias,.int .i64 o.card,.int .i64 o.key,.int .i64 o.kind,.int .i64 (j:Nat),.int .i64 o.union]
 refine QO (X:=Nat) (fun k=>[(4,.ptr 0 4 0),(8,.ptr 0 8 0),(9,.ptr 0 9 0),(10,.int .i64 (k:Nat))]) (fun _=>[(4,.cells O),(8,.cells D),(9,.cells E)]) [] (fun k=>d.items.length-k) (fun k=>k≤d.items.length∧((List.range d.items.length).take k).find? (GD d e o)=none) (fun _=>[]) 0 ⟨QVr _,rfl⟩ ?_;rintro k f fr ⟨hk,hz⟩;simp only[D,E,O,QWE,Xa,QWe,eE,seval];rcases Xi d.items k with⟨x,hx,hlt⟩|hlt
 case inl=>
  have hgi:=Z9 hx;have e1:=Qh k _ hlt (by simp only[maxLen];omega);have c1:=cs x.name;have hu:GD d e o k=((decide (0<k)||o.card != 3) && !JE e x.name):=by unfold GD;rw[GE hx]
  have hyes:GD d e o k=true→V4 d e o=some k:=fun hp=>JZ (hr k hlt) hz hp
  have hno:GD d e o k=false→((List.range d.items.length).take (k+1)).find? (GD d e o)=none:=fun hp=>KE (hr k hlt) hz hp
  have hd0:decide ((k:Int) > 0)=decide (0<k):=by simp
  rw[hu]at hyes hno;simp only[Qs hlt,hd0,Qa,seval];cases d0:decide (0<k)
  case' false=>cases d3:(o.card != 3)
  case' true=>have d3:True:=trivial
  case false.false=>
   simp only[d3,e1,cond_true,cond_false,eE,seval];exact Ix.go (k+1) (by omega) ⟨by omega,hno (by rw[d0,d3];rfl)⟩
  all_goals
   simp only[d3,Qd,QWH,Qb,hgi,cond_true,cond_false,eE,seval];refine aC c1 ?_;cases d1:JE e x.name
   ·rw[hyes (by simp only[d0,d3,d1];rfl)];simp only[GE hx,QW4,Qd,QWH,Qb,hgi,QW0,QWl,cond_true,cond_false,eE,seval]
   ·simp only[e1,QWZ,cond_true,cond_false,Qa,seval];exact Ix.go (k+1) (by omega) ⟨by omega,hno (by simp[d1])⟩
 rw[QVQ (by simp;omega)]at hz;rw[show V4 d e o=none from hz];simp only[Qu hlt,QV5,eE,seval];clear hlt;cases hdo:d.opn
 ·simp only[QWL,QXf,QWl,cond_true,cond_false,Qa,seval]
 rw[hdo]at cl cu;simp only[QWY,QW1,QWZ,cond_true,cond_false,eE,seval];cases heo:e.opn
 ·simp only[QW0,QWl,cond_true,cond_false,eE,seval];refine aC cl ?_;simp only[Qa,seval]
 simp only[QW1,QWZ,Qa,seval];clear hk hz;refine QO (X:=Nat) (fun k=>[(8,.ptr 0 8 0),(9,.ptr 0 9 0),(11,.int .i64 (k:Nat))]) (fun _=>[(8,.cells [.str d.name,.bool true,.list (d.items.map Zp),.list (d.free.map QV),.list (d.notes.map fun n=>Q1 n.cells)]),(9,.cells [.str e.name,.bool true,.list (e.items.map Zp),.list (e.free.map QV),.list (e.notes.map fun n=>Q1 n.cells)])]) [] (fun k=>e.items.length-k) (fun k=>k≤e.items.length∧(e.items.take k).find? (fun x=>!Jf d (IntKind.u64.wrap x.num))=none) (fun _=>[]) 0 ⟨QVr _,rfl⟩ ?_;rintro k f fr ⟨hk,hz⟩;simp only[QWE,Xa,QWe,eE,seval];rcases Xi e.items k with⟨x,hx,hlt⟩|hlt
 case inr=>
  rw[QVQ (by omega)]at hz;simp only[Qu hlt,hz,QV5,Qa,seval]
 have hgi:=Z9 hx;have e1:=Qh k _ hlt (by simp only[maxLen];omega);have c1:=cu (IntKind.u64.wrap x.num);simp only[Qs hlt,Qd,QWH,Qb,hgi,eE,seval];refine aC c1 ?_;cases d1:Jf d (IntKind.u64.wrap x.num)
 ·rw[JZ hx hz (by rw[d1];rfl)];simp only[Qd,QWH,Qb,hgi,QW4,QWl,cond_true,cond_false,eE,seval]
 ·simp only[e1,QWZ,cond_true,cond_false,Qa,seval];exact Ix.go (k+1) (by omega) ⟨by omega,KE hx hz (by rw[d1];rfl)⟩

theorem u81:Qj Tryz.prog 81 [jv P R fm,QB o,QB q] (.bool (Nr P R fm o q)):=by
 unfold Nr;refine k81.fn (by simp) ?_;simp only[QC,Qx,eE,seval];by_cases q9:q.kind=9
 case neg=>
  have d1:(q.kind != 9)=true:=by simp[q9]
  have d2:(q.kind==9)=false:=by simp[q9]
  simp only[d1,d2,QWL,cond_true,cond_false,Qa,seval]
 have d1:(q.kind != 9)=false:=by simp[q9]
 have d2:(q.kind==9)=true:=by simp[q9]
 obtain⟨i,e,he,hte⟩:=hq.tgE q9;have hem:=QVw he;by_cases o9:o.kind=9
 ·obtain⟨j,d,hd,ht⟩:=ho.tgE o9;have hdm:=QVw hd;have a1:(o.kind==9)=true:=by simp[o9]
  have b1:(o.kind != 9)=false:=by simp[o9]
  have cr:=II P R fm g h o q ho hq (.inl o9) q9 hP.its hR.its;have cu:=QQU P R hP hR eP eR fm hf g h o q ho hq o9 q9;rw[XB he hte,GC eP eR ho (.inl o9) hem]at cr;rw[XB hd ht,XB he hte,QzW eP eR hdm hem]at cu;rw[XB hd ht,XB he hte];simp only[QC,Qx]at cr cu;rcases hf with rfl|rfl|rfl
  ·cases c5:(o.card==5)
   ·have c5':(o.card != 5)=true:=by simp[bne,c5]
    simp only[d1,d2,a1,c5',seval,QWY,QWL,QWs,QXe,QW0,QXf,cond_true,cond_false,eE]
   ·have c5':(o.card != 5)=false:=by simp[bne,c5]
    simp only[d1,d2,a1,b1,c5',seval,QWY,QWs,QW0,QXg,cond_true,cond_false,eE];refine aC cr ?_;simp only[Qa,seval]
  ·simp only[d1,d2,a1,b1,seval,QWY,QWs,QW0,cond_true,cond_false,eE];refine aC cr ?_;simp only[Qa,seval]
  ·simp only[d1,d2,a1,b1,seval,QWY,QWs,QW0,QW1,cond_true,cond_false,eE];refine aC cu ?_;simp only[Qa,seval]
 ·have a1:(o.kind==9)=false:=by simp[o9]
  have b1:(o.kind != 9)=true:=by simp[o9]
  by_cases o1:o.kind=1
  case neg=>
   have a2:(o.kind==1)=false:=by simp[o1]
   have b2:(o.kind != 1)=true:=by simp[o1]
   rcases hf with rfl|rfl|rfl
   ·cases c5:(o.card != 5)<;>simp only[d1,d2,a1,b1,a2,b2,c5,seval,QWL,QXe,QW1,QXf,cond_true,cond_false,eE]
   ·simp only[d1,d2,a1,b1,a2,b2,seval,QWY,QWL,QXe,QW0,QXf,cond_true,cond_false,eE]
   ·simp only[d1,d2,a1,b1,a2,seval,QWL,QXe,QW1,QXf,cond_true,cond_false,eE]
  have a2:(o.kind==1)=true:=by simp[o1]
  have b2:(o.kind != 1)=false:=by simp[o1]
  have cr:=II P R fm g h o q ho hq (.inr o1) q9 hP.its hR.its;rw[XB he hte,GC eP eR ho (.inr o1) hem]at cr;rw[XB he hte];simp only[QC,Qx]at cr;rcases hf with rfl|rfl|rfl
  ·cases c5:(o.card==5)
   ·have c5':(o.card != 5)=true:=by simp[bne,c5]
    simp only[d1,d2,a1,a2,c5',seval,QWL,QWs,QXe,QXg,QXf,cond_true,cond_false,eE]
   ·have c5':(o.card != 5)=false:=by simp[bne,c5]
    simp only[d1,d2,a1,b1,a2,b2,c5',seval,QWY,QWL,QWs,QXg,cond_true,cond_false,eE];refine aC cr ?_;simp only[Qa,seval]
  ·simp only[d1,d2,a1,b1,a2,b2,seval,QWY,QWL,QWs,QW0,QXg,cond_true,cond_false,eE];refine aC cr ?_;simp only[Qa,seval]
  ·simp only[d1,d2,a1,b1,seval,QWY,QWL,QXe,QW1,cond_true,cond_false,eE]

theorem u46:Qj Tryz.prog 46 [jv P R fm,QB o,QB q] (.int .i64 (KZ P R fm o q)):=by
 have c1:=u43 P R fm o q;have c2:=u79 P R fm;have c4:=u81 P R hP hR eP eR fm hf g h o q ho hq;have c5:=u82 q.card;have hs:(q.card != 4&&q.card != 5)=DW q:=rfl;rw[hs]at c5;simp only[QC,Qx]at c1 c2 c4;unfold KZ;refine k46.fn (by simp) ?_;simp only[QC,Qx,eE,seval];refine aC c1 ?_;cases hc:YS fm o q
 case true=>
  simp only[cond_true,cond_false,eE,seval];refine aC c2 ?_;simp only[Qa,seval]
 have h5:o.card=5→q.card=5:=by
  rw[cdS]at hc;intro e;rw[e]at hc
  simpa using (QV6.1 hc).1
 have c3:=u80 P R hP hR eP eR fm hf g h o q ho hq h5;rw[QzV hf ho hq h5]at c3;simp only[QC,Qx]at c3;simp only[cond_true,cond_false,eE,seval];refine aC c3 ?_;cases h0:(DX P fm o q != 0)
 case true=>simp only[h0,cond_true,cond_false,Qa,seval]
 simp only[h0,cond_true,cond_false,eE,seval];refine aC c4 ?_;cases he:Nr P R fm o q
 case true=>simp only[cond_true,cond_false,Qa,seval]
 simp only[cond_true,cond_false,eE,seval];cases f4:(fm==4)
 ·simp only[QWL,cond_true,cond_false,Qa,seval]
 cases k4:(o.card==4)
 ·simp only[k4,QWL,QXe,cond_true,cond_false,eE,seval]
 ·simp only[k4,QWY,QWs,cond_true,cond_false,eE,seval];refine aC c5 ?_;cases DW q<;>simp only[cond_true,cond_false,Qa,seval]
end

def Ns (P:PL):Prop:=∀g∈P.progs,∀o∈g.ops,-1≤o.union
theorem Hv:∀(l:List PO) (n b m:Int),Jx l n b=some m→0≤n→-1≤b→∀o∈l,-1≤o.union
 | [],_,_,_,_,_,_,o,ho=>by cases ho
 |x :: l,n,b,m,h,hn,hb,o,ho=>by
  unfold Jx at h;split at h
  ·rename_i e;rcases QWy.1 ho with rfl|ho
   ·omega
   ·exact Hv l _ _ m h (by omega) (by omega) o ho
  split at h
  ·rename_i e;rcases QWy.1 ho with rfl|ho
   ·omega
   ·exact Hv l _ _ m h hn (by omega) o ho
  ·cases h
theorem SL {P:PL}(h:ck P=0):Ns P:=by
 unfold ck at h;split at h
 ·omega
 split at h
 ·omega
 split at h
 ·omega
 split at h
 ·omega
 split at h
 ·omega
 split at h
 ·omega
 rename_i ha;rw[Bool.not_eq_false]at ha;unfold args at ha;simp only[QVF,QVv]at ha;intro g hg o ho;have h3:=ha.1 g hg;unfold C4 at h3;rw[QVF]at h3;have h4:=h3.1;unfold TY at h4;split at h4
 ·rename_i n hn;exact Hv g.ops 0 (-1) n hn (by omega) (by omega) o ho
 ·cases h4

section
variable (P R:PL)(fm:Int)(h:PG)
def Yb (o q:PO)(b:Bool)(x:PO):Bool:=match mq fm h x with
 |some y=>(Kf P x && !(x.union != -1&&x.union==o.union))&&(bif b then y.num != q.num&&q.union != -1&&y.union==q.union else y.num==q.num)
 |none=>false
def WK (q x:PO):Bool:=match mq fm h x with
 |some y=>y.num==q.num&&x.card==1
 |none=>false
def Kw (o q x:PO):Bool:=match mq fm h x with
 |some y=>decide (x.num > o.num)&&x.card==1&&q.union != -1&&y.union==q.union&&y.num != q.num
 |none=>false
def U6 (x:PO):Bool:=match mq fm h x with
 |some y=>y.kind==9&&(x.kind==9||x.kind==1)&&D1 P (X4 R y.target) x
 |none=>false
def asV (x:PO):Int:=match mq fm h x with
 |some y=>bif y.kind==9&&(x.kind==9||x.kind==1)then rfV P (X4 R y.target) x else 0
 |none=>0
end

theorem SP {a o:PO}(h : -1≤a.union):(!(a.union != -1&&a.union==o.union))=Dk a o:=by
 unfold Dk;by_cases h1:a.union = -1
 ·simp[h1]
 ·have:¬a.union<0:=by omega
  simp[h1,this,bne]
theorem SR {q:PO}(h : -1≤q.union):(q.union != -1)=decide (q.union≥0):=by
 by_cases h1:q.union = -1
 ·simp[h1]
 ·rw[QXb (by omega),QVL];exact h1
theorem Nt {α:Type}{l:List α}{p:α→Bool}:(l.find? p).isSome=l.any p:=by
 rw[QV7,List.find?_isSome,QWR]

section
variable (P R:PL)(hP:Own P)(hR:Own R)(uP:Ns P)(uR:Ns R)(eP:EnO P)(eR:EnO R)(fm:Int)(hf:Fm fm)(w r:Nat)(g h:PG)(hw:P.progs[w]? = some g)(hr:R.progs[r]? = some h)
include hP hR uP uR eP eR hf hw hr

theorem QzX (q o:PO)(i:Nat):((g.ops.take i).find? (Yb P fm h o q false)).isSome=(g.ops.take i).any (Gy P fm h o q):=by
 rw[Nt,QV7,QWR,QWR];have e:∀x∈g.ops.take i,Yb P fm h o q false x=Gy P fm h o q x:=fun x hx=>by
  unfold Yb Gy;rw[SP (uP g (QVw hw) x (QV3 hx))];cases mq fm h x<;>rfl
 constructor<;>rintro⟨x,hx,hp⟩<;>exact⟨x,hx,by first|rwa [e x hx]at hp|rwa [e x hx]⟩
theorem QzY (q o:PO)(hq:q∈h.ops)(i:Nat):((g.ops.take i).find? (Yb P fm h o q true)).isSome=(g.ops.take i).any (Gz P fm h o q):=by
 rw[Nt,QV7,QWR,QWR];have e:∀x∈g.ops.take i,Yb P fm h o q true x=Gz P fm h o q x:=fun x hx=>by
  unfold Yb Gz;rw[SP (uP g (QVw hw) x (QV3 hx)),SR (uR h (QVw hr) q hq)];cases mq fm h x
  ·rfl
  ·simp only[cond_true,Bool.and_assoc]
 constructor<;>rintro⟨x,hx,hp⟩<;>exact⟨x,hx,by first|rwa [e x hx]at hp|rwa [e x hx]⟩

set_option maxHeartbeats 1000000 in
theorem u47 (i:Nat)(o q:PO)(ho:g.ops[i]? = some o)(b:Bool):Qj Tryz.prog 47 [jv P R fm,.int .i64 (w:Nat),.int .i64 (r:Nat),.int .i64 (i:Nat),QB q,.bool b] (oq ((g.ops.take i).find? (Yb P fm h o q b))):=by
 have hgm:=QVw hw;have hgl:=hP.ops g hgm;have hwg:=KF P hw;have hgo:(g.ops.map QB)[i]? = some (QB o):=by rw[QWB,ho];rfl
 have hil:=(QVk.1 ho).1;rw[Qx]at hgo;refine k47.fn (by simp) ?_;simp only[QC,Qx,Qd,QWH,Qb,hwg,eE,seval]
 let Z:List AV:=[.int .i64 0,.str [],.str [],.int .i64 0,.int .i64 0,.int .i64 0,.int .i64 0,.int .i64 0]
 refine QO (X:=Nat) (fun k=>[(2,.int .i64 (r:Nat)),(3,.int .i64 (i:Nat)),(5,.bool b),(6,.ptr 0 6 0),(10,.ptr 0 10 0),(12,.ptr 0 12 0),(14,.list (g.ops.map QB)),(15,.int .i64 (k:Nat))]) (fun _=>[(6,.cells (jc P R fm)),(10,.cells q.cells),(12,.cells Z)]) [16] (fun k=>i-k) (fun k=>k≤i∧(g.ops.take k).find? (Yb P fm h o q b)=none) (fun _=>[]) 0 ⟨QVr _,rfl⟩ ?_;rintro k f fr ⟨hk,hz⟩;simp only[Z,jc,PO.cells,Xa,QVP,QWe,QVD,QVE,Qa,seval];by_cases hlt:k<i
 case neg=>
  have:k=i:=by omega
  subst this;rw[hz];simp only[Qu hlt,oq,JK,Qx,QWP,QV5,eE,seval]
 obtain⟨x,hx⟩:∃x,g.ops[k]? = some x:=⟨g.ops[k],QVl (by omega)⟩;have hxm:=QVw hx;have hgx:(g.ops.map QB)[k]? = some (QB x):=by rw[QWB,hx];rfl
 have e1:=Qh k _ hlt (by simp only[maxLen];omega);have c1:=V3 P R fm hR r h hr x;have c2:=u42 P R fm g x (hP.op g hgm x hxm);have htk:(g.ops.take i)[k]? = some x:=by rw[List.getElem?_take_of_lt hlt];exact hx
 have htt:(g.ops.take i).take k=g.ops.take k:=by rw[List.take_take];congr 1;omega
 have hyes:Yb P fm h o q b x=true→(g.ops.take i).find? (Yb P fm h o q b)=some x:=fun hp=>JZ htk (by rw[htt];exact hz) hp
 have hno:Yb P fm h o q b x=false→(g.ops.take (k+1)).find? (Yb P fm h o q b)=none:=fun hp=>KE hx hz hp
 have hd:Yb P fm h o q b x=(match mq fm h x with
  |some y=>(Kf P x && !(x.union != -1&&x.union==o.union))&&(bif b then y.num != q.num&&q.union != -1&&y.union==q.union else y.num==q.num)
  |none=>false):=rfl
 rw[hd]at hyes hno;clear hd;simp only[QC,Qx,oq]at c1 c2 hgx;simp only[Qs hlt,Qd,QWH,Qb,hgx,eE,seval];refine aC c1 ?_;cases hq':mq fm h x with
 |none=>
  rw[hq']at hno;simp only[QWP,QV5,JK,e1,QWs,QWl,cond_true,cond_false,eE,seval];exact Ix.go (k+1) (by omega) ⟨by omega,hno rfl⟩
 |some y=>
  rw[hq']at hno hyes;dsimp only at hno hyes;simp only[QWo,QW4,Qd,QWH,Qb,hgx,QWs,QWZ,cond_true,cond_false,eE,seval];refine aC c2 ?_;cases hb:Kf P x
  ·simp only[e1,QWl,cond_true,cond_false,Qa,seval];exact Ix.go (k+1) (by omega) ⟨by omega,hno (by rw[hb];rfl)⟩
  have hcl:x.union = -1∨(x.union≠-1∧x.union=o.union)∨(x.union≠-1∧x.union≠o.union):=by omega
  rcases hcl with d0|⟨d0,d0'⟩|⟨d0,d0'⟩
  case' inl=>
   have d1:(x.union != -1)=false:=by simp[d0]
   have d2:True:=trivial
  case inr.inl=>
   have d1:(x.union != -1)=true:=by simp[d0]
   have d2:(x.union==o.union)=true:=by simp[d0']
   simp only[d1,d2,hgo,hgx,Qd,QWH,Qb,e1,QWZ,cond_true,cond_false,eE,seval];exact Ix.go (k+1) (by omega) ⟨by omega,hno (by rw[hb,d1,d2];rfl)⟩
  case' inr.inr=>
   have d1:(x.union != -1)=true:=by simp[d0]
   have d2:(x.union==o.union)=false:=by simp[d0']
  all_goals
   rw[hb,d1]at hyes hno;simp only[d2,QWY,QWs,QWL,QWl,QXe]at hyes hno;simp only[d1,d2,hgo,hgx,Qd,QWH,Qb,QWZ,cond_true,cond_false,eE,seval];cases b
   ·simp only[cond_false]at hyes hno;cases d3:(y.num==q.num)
    ·simp only[d3,e1,QWl,cond_true,cond_false,eE,seval];exact Ix.go (k+1) (by omega) ⟨by omega,hno d3⟩
    ·rw[hyes d3];simp only[d3,oq,Qx,QWo,QW4,hgx,Qd,QWH,Qb,QWs,QWl,cond_true,cond_false,eE,seval]
   ·simp only[cond_true]at hyes hno;cases d3:(y.num != q.num)
    ·simp only[d3,e1,QWZ,cond_true,cond_false,eE,seval];exact Ix.go (k+1) (by omega) ⟨by omega,hno (by rw[d3];rfl)⟩
    cases d4:(q.union != -1)
    ·simp only[d3,d4,e1,QWZ,cond_true,cond_false,eE,seval];exact Ix.go (k+1) (by omega) ⟨by omega,hno (by rw[d3,d4];rfl)⟩
    cases d5:(y.union==q.union)
    ·simp only[d3,d4,d5,e1,QWZ,cond_true,cond_false,eE,seval];exact Ix.go (k+1) (by omega) ⟨by omega,hno (by rw[d3,d4,d5];rfl)⟩
    ·rw[hyes (by rw[d3,d4,d5];rfl)];simp only[d3,d4,d5,oq,Qx,QWo,QW4,hgx,Qd,QWH,Qb,QWs,QWZ,cond_true,cond_false,eE,seval]

theorem u83 (q:PO):Qj Tryz.prog 83 [jv P R fm,.int .i64 (w:Nat),.int .i64 (r:Nat),QB q] (oq (g.ops.find? (WK fm h q))):=by
 have hgm:=QVw hw;have hgl:=hP.ops g hgm;have hwg:=KF P hw;refine k83.fn (by simp) ?_;simp only[QC,Qx,Qd,QWH,Qb,hwg,eE,seval]
 let Z:List AV:=[.int .i64 0,.str [],.str [],.int .i64 0,.int .i64 0,.int .i64 0,.int .i64 0,.int .i64 0]
 refine QO (X:=Nat) (fun k=>[(2,.int .i64 (r:Nat)),(4,.ptr 0 4 0),(7,.ptr 0 7 0),(8,.ptr 0 8 0),(10,.list (g.ops.map QB)),(11,.int .i64 (k:Nat))]) (fun _=>[(4,.cells (jc P R fm)),(7,.cells q.cells),(8,.cells Z)]) [12] (fun k=>g.ops.length-k) (fun k=>k≤g.ops.length∧(g.ops.take k).find? (WK fm h q)=none) (fun _=>[]) 0 ⟨QVr _,rfl⟩ ?_;rintro k f fr ⟨hk,hz⟩;simp only[Z,jc,PO.cells,QWE,Xa,QVP,QWe,QVD,QVE,Qa,seval];rcases Xi g.ops k with⟨x,hx,hlt⟩|hlt
 case inr=>
  rw[QVQ (by omega)]at hz;rw[hz];simp only[Qu hlt,oq,JK,Qx,QWP,QV5,eE,seval]
 have hxm:=QVw hx;have hgx:(g.ops.map QB)[k]? = some (QB x):=by rw[QWB,hx];rfl
 have e1:=Qh k _ hlt (by simp only[maxLen];omega);have c1:=V3 P R fm hR r h hr x;have hyes:WK fm h q x=true→g.ops.find? (WK fm h q)=some x:=fun hp=>JZ hx hz hp
 have hno:WK fm h q x=false→(g.ops.take (k+1)).find? (WK fm h q)=none:=fun hp=>KE hx hz hp
 have hd:WK fm h q x=(match mq fm h x with
  |some y=>y.num==q.num&&x.card==1
  |none=>false):=rfl
 rw[hd]at hyes hno;clear hd;simp only[QC,Qx,oq]at c1 hgx;simp only[Qs hlt,Qd,QWH,Qb,hgx,eE,seval];refine aC c1 ?_;cases hq':mq fm h x with
 |none=>
  rw[hq']at hno;simp only[QWP,QV5,JK,e1,QWs,cond_true,cond_false,eE,seval];exact Ix.go (k+1) (by omega) ⟨by omega,hno rfl⟩
 |some y=>
  rw[hq']at hno hyes;dsimp only at hno hyes;cases d1:(y.num==q.num)
  ·simp only[QWo,QW4,d1,e1,QWs,cond_true,cond_false,eE,seval];exact Ix.go (k+1) (by omega) ⟨by omega,hno (by rw[d1];rfl)⟩
  cases d2:(x.card==1)
  ·simp only[QWo,QW4,d1,d2,hgx,Qd,QWH,Qb,e1,QWs,cond_true,cond_false,eE,seval];exact Ix.go (k+1) (by omega) ⟨by omega,hno (by rw[d1,d2];rfl)⟩
  ·rw[hyes (by rw[d1,d2];rfl)];simp only[d1,d2,oq,Qx,QWo,QW4,hgx,Qd,QWH,Qb,QWs,cond_true,cond_false,eE,seval]

theorem SS (q:PO)(hq:q∈h.ops):(match g.ops.find? (WK fm h q)with
  |some o=>!(fm==1&&q.kind==9&&(o.kind==9||o.kind==1)) || !D1 P (X4 R q.target) o
  |none=>false)=GA P R fm g h q:=by
 have hgm:=QVw hw;have hhm:=QVw hr;have key:∀x∈g.ops,DY P R fm h q x=(WK fm h q x&&(!(fm==1&&q.kind==9&&(x.kind==9||x.kind==1)) || !D1 P (X4 R q.target) x)):=by
  intro x hx;unfold DY WK;cases mq fm h x with
  |none=>rfl
  |some y=>
   dsimp only;cases(y.num==q.num)<;>cases(x.card==1)<;>simp only[QWY,QWL];cases f1:(fm==1)
   ·simp[bne,f1]
   cases k9:(q.kind==9)
   ·simp[bne,f1,k9]
   by_cases hk:x.kind=9∨x.kind=1
   ·obtain⟨j,e,he,hte⟩:=(hR.op h hhm q hq).tgE (by simpa using k9);have hrf:=GC eP eR (hP.op g hgm x hx) hk (QVw he);rw[XB he hte,hrf];rcases hk with e|e<;>simp[bne,f1,k9,e]
   ·have a1:(x.kind==9)=false:=by simp;omega
    have a2:(x.kind==1)=false:=by simp;omega
    simp[bne,f1,k9,a1,a2]
 unfold GA;cases hfd:g.ops.find? (WK fm h q)with
 |none=>
  rw[QW8]at hfd
  symm
  rw[QW7];intro x hx;rw[key x hx];have:=hfd x hx;simp only[Bool.not_eq_true]at this;rw[this];simp
 |some o=>
  have hom:=QW9 hfd;have hop:=QXa hfd;dsimp only;rw[QV7,QWR]
  constructor
  ·intro hh;exact⟨o,hom,by rw[key o hom,hop,hh];rfl⟩
  ·rintro⟨x,hx,hg⟩;rw[key x hx,QVF]at hg;obtain⟨g1,g2⟩:=hg;by_cases f1:fm=1
   case neg=>simp[f1]
   have nm:∀z,WK fm h q z=true→z.num=q.num:=by
    intro z hz;unfold WK mq at hz;rw[QVp (by omega)]at hz;cases hm:h.ops.find? (fun x=>x.num==z.num)with
    |none=>rw[hm]at hz;cases hz
    |some y=>
     rw[hm]at hz;have:=QXa hm;simp only[QVF,QVG]at hz this;omega
   have e1:=nm x g1;have e2:=nm o hop;have h1:=(hP.op g hgm x hx).num;have h2:=(hP.op g hgm o hom).num;rw[e1]at h1;rw[e2]at h2;rw[h1]at h2;cases h2;exact g2

theorem u48 (q:PO)(hq:q∈h.ops):Qj Tryz.prog 48 [jv P R fm,.int .i64 (w:Nat),.int .i64 (r:Nat),QB q] (.bool (!GA P R fm g h q)):=by
 have hgm:=QVw hw;have hhm:=QVw hr;have c1:=u83 P R hP hR uP uR eP eR fm hf w r g h hw hr q;rw[←SS P R hP hR uP uR eP eR fm hf w r g h hw hr q hq];simp only[QC,Qx,oq]at c1;refine k48.fn (by simp) ?_;simp only[QC,Qx,eE,seval];refine aC c1 ?_;cases hfd:g.ops.find? (WK fm h q)with
 |none=>simp only[QWP,QV5,JK,QWs,QWl,cond_true,cond_false,eE,seval]
 |some o=>
  have hom:=QW9 hfd;simp only[QWo,QW4,QWs,QWZ,cond_true,cond_false,eE,seval];by_cases f1:fm=1
  case neg=>
   have d1:(fm != 1)=true:=by simp[f1]
   have d1':(fm==1)=false:=by simp[f1]
   simp only[d1,d1',QWL,QW0,QWZ,QWl,cond_true,cond_false,Qa,seval]
  have d1:(fm != 1)=false:=by simp[f1]
  have d1':(fm==1)=true:=by simp[f1]
  by_cases q9:q.kind=9
  case neg=>
   have d2:(q.kind != 9)=true:=by simp[q9]
   have d2':(q.kind==9)=false:=by simp[q9]
   simp only[d1,d1',d2,d2',QWL,QXe,QW0,QWZ,QWl,cond_true,cond_false,eE,seval]
  have d2:(q.kind != 9)=false:=by simp[q9]
  have d2':(q.kind==9)=true:=by simp[q9]
  by_cases hk:o.kind=9∨o.kind=1
  case neg=>
   have a1:(o.kind != 9)=true:=by simp;omega
   have a2:(o.kind != 1)=true:=by simp;omega
   have b1:(o.kind==9)=false:=by simp;omega
   have b2:(o.kind==1)=false:=by simp;omega
   simp only[d1,d1',d2,d2',a1,a2,b1,b2,QWs,QXe,QW0,QXf,QWZ,QWl,cond_true,cond_false,eE,seval]
  have c2:=II P R fm g h o q (hP.op g hgm o hom) (hR.op h hhm q hq) hk q9 hP.its hR.its;simp only[QC,Qx]at c2;rcases hk with k9|k1
  ·have a1:(o.kind != 9)=false:=by simp[k9]
   have b1:(o.kind==9)=true:=by simp[k9]
   simp only[d1,d1',d2,d2',a1,b1,QWs,QW0,QW1,QWZ,cond_true,cond_false,eE,seval];refine aC c2 ?_;simp only[QXm,cond_true,cond_false,Qa,seval]
  ·have a1:(o.kind != 9)=true:=by simp[k1]
   have b1:(o.kind==9)=false:=by simp[k1]
   have a2:(o.kind != 1)=false:=by simp[k1]
   have b2:(o.kind==1)=true:=by simp[k1]
   simp only[d1,d1',d2,d2',a1,a2,b1,b2,QWs,QW1,QXg,QWZ,cond_true,cond_false,eE,seval];refine aC c2 ?_;simp only[QXm,cond_true,cond_false,Qa,seval]

theorem u78 (x:PO)(hx:x∈g.ops):Qj Tryz.prog 78 [jv P R fm,.int .i64 (r:Nat),QB x] (.tup [.int .u64 (asV P R fm h x),.bool (U6 P R fm h x)]):=by
 have hgm:=QVw hw;have hhm:=QVw hr;have c1:=V3 P R fm hR r h hr x;unfold asV U6;simp only[QC,Qx,oq]at c1;refine k78.fn (by simp) ?_;simp only[QC,Qx,eE,seval];refine aC c1 ?_;cases hfd:mq fm h x with
 |none=>simp only[QWP,QV5,JK,QWs,QWl,cond_true,cond_false,eE,seval]
 |some q=>
  have hqm:=KT hfd;simp only[QWo,QW4,QWs,QWZ,cond_true,cond_false,eE,seval];by_cases q9:q.kind=9
  case neg=>
   have d2:(q.kind != 9)=true:=by simp[q9]
   have d2':(q.kind==9)=false:=by simp[q9]
   simp only[d2,d2',QWL,cond_true,cond_false,Qa,seval]
  have d2:(q.kind != 9)=false:=by simp[q9]
  have d2':(q.kind==9)=true:=by simp[q9]
  by_cases hk:x.kind=9∨x.kind=1
  case neg=>
   have a1:(x.kind != 9)=true:=by simp;omega
   have a2:(x.kind != 1)=true:=by simp;omega
   have b1:(x.kind==9)=false:=by simp;omega
   have b2:(x.kind==1)=false:=by simp;omega
   simp only[d2,d2',a1,a2,b1,b2,QWL,QXe,QXf,cond_true,cond_false,eE,seval]
  have c2:=II P R fm g h x q (hP.op g hgm x hx) (hR.op h hhm q hqm) hk q9 hP.its hR.its;simp only[QC,Qx]at c2;rcases hk with k9|k1
  ·have a1:(x.kind != 9)=false:=by simp[k9]
   have b1:(x.kind==9)=true:=by simp[k9]
   simp only[d2,d2',a1,b1,QWY,QWs,QW0,cond_true,cond_false,eE,seval];refine aC c2 ?_;simp only[cond_true,cond_false,Qa,seval]
  ·have a1:(x.kind != 9)=true:=by simp[k1]
   have b1:(x.kind==9)=false:=by simp[k1]
   have a2:(x.kind != 1)=false:=by simp[k1]
   have b2:(x.kind==1)=true:=by simp[k1]
   simp only[d2,d2',a1,a2,b1,b2,QWY,QWs,QXg,cond_true,cond_false,eE,seval];refine aC c2 ?_;simp only[cond_true,cond_false,Qa,seval]
theorem u77 (o q:PO):Qj Tryz.prog 77 [jv P R fm,.int .i64 (w:Nat),.int .i64 (r:Nat),QB o,QB q] (.list ((g.ops.filter (Kw fm h o q)).map QB)):=by
 have hgm:=QVw hw;have hgl:=hP.ops g hgm;have hwg:=KF P hw;refine k77.fn (by simp) ?_;simp only[QC,Qx,eE,seval];refine Zv rfl rfl ?_;simp only[Qd,QWH,Qb,hwg,eE,seval];refine QO (X:=Nat×List PO) (fun s=>[(2,.int .i64 (r:Nat)),(5,.ptr 0 5 0),(8,.ptr 0 8 0),(9,.ptr 0 9 0),(11,.vec 0 11 (1+s.2.length) 0 s.2.length false),(12,.list (g.ops.map QB)),(13,.int .i64 (s.1:Nat))]) (fun s=>[(5,.cells (jc P R fm)),(8,.cells o.cells),(9,.cells q.cells),(11,.vec (1+s.2.length) 8 (s.2.map QB))]) [14] (fun s=>g.ops.length-s.1) (fun s=>s.1≤g.ops.length∧s.2=(g.ops.take s.1).filter (Kw fm h o q)) (fun _=>[]) (0,[]) ⟨QVr _,rfl⟩ ?_;rintro⟨k,l⟩ f fr ⟨hk,hz⟩;dsimp only at hk hz;have hll:l.length≤k:=by
  rw[hz];exact QVj (List.length_filter_le _ _) (by rw[QV8];omega)
 simp only[jc,PO.cells,QWE,Xa,QVP,QWe,QVD,QVE,Qa,seval];rcases Xi g.ops k with⟨x,hx,hlt⟩|hlt
 case inr=>
  rw[QVQ (by omega)]at hz;rw[←hz];have ex:(l.map QB).take l.length=l.map QB:=QVQ (by simp);simp only[Qu hlt,QWE,ex,QVY,QVH,QVi,QWh,QWn,AV.un,eE,seval]
 have hxm:=QVw hx;have hgx:(g.ops.map QB)[k]? = some (QB x):=by rw[QWB,hx];rfl
 have e1:=Qh k _ hlt (by simp only[maxLen];omega);have c1:=V3 P R fm hR r h hr x;have hT:(g.ops.take (k+1)).filter (Kw fm h o q)=(g.ops.take k).filter (Kw fm h o q)++(bif Kw fm h o q x then [x]else []):=by
  rw[QWT,hx,QWU,List.filter_append];rfl
 rw[←hz]at hT;have hyes:Kw fm h o q x=true→(g.ops.take (k+1)).filter (Kw fm h o q)=l++[x]:=fun hp=>by rw[hT,hp];rfl
 have hno:Kw fm h o q x=false→(g.ops.take (k+1)).filter (Kw fm h o q)=l:=fun hp=>by rw[hT,hp];exact QWg _
 have hd:Kw fm h o q x=(match mq fm h x with
  |some y=>decide (x.num > o.num)&&x.card==1&&q.union != -1&&y.union==q.union&&y.num != q.num
  |none=>false):=rfl
 rw[hd]at hyes hno;clear hd hT;simp only[QC,Qx,oq]at c1 hgx;simp only[Qs hlt,Qd,QWH,Qb,hgx,eE,seval];refine aC c1 ?_;cases hq':mq fm h x with
 |none=>
  rw[hq']at hno;simp only[QWP,QV5,JK,e1,QWs,cond_true,cond_false,eE,seval];exact Ix.go (k+1,l) (by dsimp only;omega) ⟨by dsimp only;omega,(hno rfl).symm⟩
 |some y=>
  rw[hq']at hno hyes;dsimp only at hno hyes;cases d1:decide (x.num > o.num)
  ·simp only[QWo,QW4,hgx,Qd,QWH,Qb,d1,e1,QWs,cond_true,cond_false,eE,seval];exact Ix.go (k+1,l) (by dsimp only;omega) ⟨by dsimp only;omega,(hno (by rw[d1];rfl)).symm⟩
  cases d2:(x.card==1)
  ·simp only[QWo,QW4,hgx,Qd,QWH,Qb,d1,d2,e1,QWs,cond_true,cond_false,eE,seval];exact Ix.go (k+1,l) (by dsimp only;omega) ⟨by dsimp only;omega,(hno (by rw[d1,d2];rfl)).symm⟩
  cases d3:(q.union != -1)
  ·simp only[QWo,QW4,hgx,Qd,QWH,Qb,d1,d2,d3,e1,QWs,cond_true,cond_false,eE,seval];exact Ix.go (k+1,l) (by dsimp only;omega) ⟨by dsimp only;omega,(hno (by rw[d1,d2,d3];rfl)).symm⟩
  cases d4:(y.union==q.union)
  ·simp only[QWo,QW4,hgx,Qd,QWH,Qb,d1,d2,d3,d4,e1,QWs,cond_true,cond_false,eE,seval];exact Ix.go (k+1,l) (by dsimp only;omega) ⟨by dsimp only;omega,(hno (by rw[d1,d2,d3,d4];rfl)).symm⟩
  cases d5:(y.num != q.num)
  ·simp only[QWo,QW4,hgx,Qd,QWH,Qb,d1,d2,d3,d4,d5,e1,QWs,cond_true,cond_false,eE,seval];exact Ix.go (k+1,l) (by dsimp only;omega) ⟨by dsimp only;omega,(hno (by rw[d1,d2,d3,d4,d5];rfl)).symm⟩
  simp only[QWo,QW4,hgx,Qd,QWH,Qb,d1,d2,d3,d4,d5,QWs,cond_true,cond_false,eE,seval];refine QM rfl rfl (by decide) rfl rfl ?_;simp only[nn0,QVP,QWe,seval];refine QI (xs:=l.map QB) (by rfl) (by rfl) rfl (by rw[QWE]) (by rfl) rfl (by simp only[QVx,QWp,maxLen];omega) (by simp only[QVx,QWp];omega) ?_;simp only[e1,Qa,seval];exact Ix.go (k+1,l++[x]) (by dsimp only;omega) ⟨by dsimp only;omega,(hyes (by rw[d1,d2,d3,d4,d5];rfl)).symm⟩ (hf:=by simp only[Ag,QVU,QVx,QWp];rfl) (ho:=by simp only[Ag,QWS,QVP,QWe,QVU,QVx,QWp];rfl)

theorem QcL (o q:PO)(hq:q∈h.ops)(l:List PO)(hl:∀x∈l,x∈g.ops):(decide (q.union≥0)&&l.any (K0 P R fm h o q))=(l.filter (Kw fm h o q)).any fun x=>!U6 P R fm h x:=by
 have hgm:=QVw hw;have hhm:=QVw hr;have key:∀x∈g.ops,(decide (q.union≥0)&&K0 P R fm h o q x)=(Kw fm h o q x && !U6 P R fm h x):=by
  intro x hx;unfold K0 Kw U6;rw[SR (uR h hhm q hq)];cases hm:mq fm h x with
  |none=>simp
  |some y=>
   dsimp only;have hym:=KT hm;have hk:(y.kind != 9||(x.kind != 9&&x.kind != 1)||Jr P (X4 R y.target) x)=!(y.kind==9&&(x.kind==9||x.kind==1)&&D1 P (X4 R y.target) x):=by
    cases k9:(y.kind==9)
    ·simp[bne,k9]
    by_cases hk:x.kind=9∨x.kind=1
    ·obtain⟨j,e,he,hte⟩:=(hR.op h hhm y hym).tgE (by simpa using k9);rw[XB he hte,GC eP eR (hP.op g hgm x hx) hk (QVw he)];rcases hk with e|e<;>simp[bne,k9,e]
    ·have a1:(x.kind==9)=false:=by simp;omega
     have a2:(x.kind==1)=false:=by simp;omega
     simp[bne,k9,a1,a2]
   rw[hk];cases decide (x.num > o.num)<;>cases(x.card==1)<;>cases decide (q.union≥0)<;>cases(y.union==q.union)<;>cases(y.num != q.num)<;>simp
 induction l with
 |nil=>simp
 |cons x l ih=>
  have ih:=ih fun y hy=>hl y (by simp[hy])
  have kx:=key x (hl x (by simp));rw[List.any_cons,List.filter_cons,Bool.and_or_distrib_left,kx,ih];cases Kw fm h o q x<;>simp

theorem u44 (o q:PO)(hq:q∈h.ops):Qj Tryz.prog 44 [jv P R fm,.int .i64 (w:Nat),.int .i64 (r:Nat),QB o,QB q] (.bool (WJ P R fm g h o q)):=by
 have hgm:=QVw hw;have hgl:=hP.ops g hgm;have c1:=u77 P R hP hR uP uR eP eR fm hf w r g h hw hr o q;have hh:WJ P R fm g h o q=(fm==1&&(g.ops.filter (Kw fm h o q)).any fun x=>!U6 P R fm h x):=by
  rw[←QcL P R hP hR uP uR eP eR fm hf w r g h hw hr o q hq g.ops (fun _ h=>h)];unfold WJ;rw[Bool.and_assoc]
 rw[hh];clear hh;have hL:∀x∈g.ops.filter (Kw fm h o q),x∈g.ops:=fun x hx=>(QWN.1 hx).1
 have hLl:(g.ops.filter (Kw fm h o q)).length≤64:=QVj (List.length_filter_le _ _) hgl;generalize g.ops.filter (Kw fm h o q)=L at *;simp only[QC,Qx]at c1;refine k44.fn (by simp) ?_;simp only[QC,Qx,eE,seval];by_cases f1:fm=1
 case neg=>
  have d1:(fm != 1)=true:=by simp[f1]
  have d1':(fm==1)=false:=by simp[f1]
  simp only[d1,d1',QWL,cond_true,cond_false,Qa,seval]
 have d1:(fm != 1)=false:=by simp[f1]
 have d1':(fm==1)=true:=by simp[f1]
 simp only[d1,d1',QWY,cond_true,cond_false,eE,seval];refine aC c1 ?_;simp only[Qa,seval];refine QO (X:=Nat) (fun k=>[(2,.int .i64 (r:Nat)),(5,.ptr 0 5 0),(11,.list (L.map QB)),(12,.int .i64 (k:Nat))]) (fun _=>[(5,.cells (jc P R fm))]) [] (fun k=>L.length-k) (fun k=>k≤L.length∧((L.take k).any fun x=>!U6 P R fm h x)=false) (fun _=>[]) 0 ⟨QVr _,rfl⟩ ?_;rintro k f fr ⟨hk,hz⟩;simp only[jc,QWE,Xa,QWe,Qa,seval];rcases Xi L k with⟨x,hx,hlt⟩|hlt
 case inr=>
  rw[QVQ (by omega)]at hz;simp only[Qu hlt,hz,Qa,seval]
 have hgx:(L.map QB)[k]? = some (QB x):=by rw[QWB,hx];rfl
 have hxm:=QVw hx;have e1:=Qh k _ hlt (by simp only[maxLen];omega);have c2:=u78 P R hP hR uP uR eP eR fm hf w r g h hw hr x (hL x hxm);have hT:=Zh (q:=fun x=>!U6 P R fm h x) hx;rw[hz,QW1]at hT;simp only[QC,Qx]at c2 hgx;simp only[Qs hlt,Qd,QWH,Qb,hgx,eE,seval];refine aC c2 ?_;cases hb:U6 P R fm h x
 ·have:(L.any fun x=>!U6 P R fm h x)=true:=QWR.2 ⟨x,hxm,by rw[hb];rfl⟩;rw[this];simp only[QWl,cond_true,cond_false,Qa,seval]
 ·simp only[e1,QWZ,cond_true,cond_false,Qa,seval];exact Ix.go (k+1) (by omega) ⟨by omega,by rw[hT,hb];rfl⟩
end

theorem D3 {α:Type}[DecidableEq α]:∀ {l r:List α},l.Nodup→(∀x∈l,x∈r)→l.length≤r.length
 | [],_,_,_=>QVr _
 |x :: l,r,hd,hs=>by
  rw[List.nodup_cons]at hd;have hx:x∈r:=hs x (by simp);have ih:=D3 (l:=l) (r:=r.erase x) hd.2 (fun y hy=>(List.mem_erase_of_ne (by rintro rfl;exact hd.1 hy)).2 (hs y (by simp[hy])));rw[List.length_erase_of_mem hx]at ih;have:=List.length_pos_of_mem hx;rw[QVx];omega

structure PrQ (P R:PL)(L:List Pq):Prop where
 nd:(L.map fun y=>(y.w,y.r,y.hid)).Nodup
 ltw:∀y∈L,y.w<P.progs.length
 ltr:∀y∈L,y.r<R.progs.length
 pth:∀(i:Nat) (y:Pq),L[i]? = some y→y.path.length≤i
def QzZ:List (Nat×Nat×Bool):=(List.range 8).flatMap fun t=>(List.range 8).flatMap fun u=>[(t,u,false),(t,u,true)]
theorem KG {P R:PL}(hP:P.progs.length≤8)(hR:R.progs.length≤8){L:List Pq}(h:PrQ P R L):L.length≤128:=by
 have:=D3 (r:=QzZ) h.nd (fun x hx=>by
  obtain⟨y,hy,rfl⟩:=QWz.1 hx;have h1:=h.ltw y hy;have h2:=h.ltr y hy;unfold QzZ;rw[QV1];refine⟨y.w,QWO.2 (by omega),?_⟩;rw[QV1];exact⟨y.r,QWO.2 (by omega),by cases y.hid<;>simp⟩)
 rw[QWE]at this;exact QVj this (by decide +kernel)
section
variable {P R:PL}(hP:Own P)(hR:Own R){fm:Int}{g h:PG}(hgm:g∈P.progs)(hhm:h∈R.progs){p:Pq}
include hP hR hgm hhm
theorem Nu {L:List Pq}{x:PO}(hx:x∈g.ops)(H:PrQ P R L)(hp:p.path.length+1≤L.length):PrQ P R (Jt P R fm g h p L x):=by
 unfold Jt;cases hq:mq fm h x with
 |none=>exact H
 |some q=>
  dsimp only;split
  ·rename_i hk;split
   ·exact H
   ·rename_i hn;obtain⟨j,gj,hj,ht⟩:=(hP.op g hgm x hx).tgP hk.2.1;obtain⟨i,gi,hi,htq⟩:=(hR.op h hhm q (KT hq)).tgP hk.2.2.1;have e:x.target.toNat=j:=by rw[ht];rfl
    have eq:q.target.toNat=i:=by rw[htq];rfl
    refine⟨?_,fun y hy=>?_,fun y hy=>?_,fun i y hy=>?_⟩
    ·rw[QWS,List.nodup_append];refine⟨H.nd,by simp,fun a ha b hb=>?_⟩;simp only[QVP,QWe,QXk]at hb;subst hb;rintro rfl;obtain⟨y,hy,he⟩:=QWz.1 ha;refine hn (QWR.2 ⟨y,hy,?_⟩);simp only[Prod.mk.injEq]at he;rw[he.1,he.2.1,he.2.2,e,eq,ht,htq];cases(p.hid||WJ P R fm g h x q)<;>simp
    ·rcases QWw.1 hy with hy|hy
     ·exact H.ltw y hy
     ·rcases QXk.1 hy with rfl
      show x.target.toNat<_;rw[e];exact(QVk.1 hj).1
    ·rcases QWw.1 hy with hy|hy
     ·exact H.ltr y hy
     ·rcases QXk.1 hy with rfl
      show q.target.toNat<_;rw[eq];exact(QVk.1 hi).1
    ·by_cases hi:i<L.length
     ·rw[QWF hi]at hy;exact H.pth i y hy
     ·rw[QWG (by omega)]at hy;have:i-L.length=0:=by
       have:=(QVk.1 hy).1;simp at this;omega
      rw[this]at hy;simp only[QWf,QVJ]at hy;subst hy;show(p.path++[x.num]).length≤i;rw[QVU,QWM];omega
  ·exact H
theorem Qz0 (L:List Pq)(x:PO):L.length≤(Jt P R fm g h p L x).length:=by
 unfold Jt;split
 ·exact QVi _
 ·split
  ·split
   ·exact QVi _
   ·rw[QVU];omega
  ·exact QVi _
theorem Ai {L:List Pq}(l:List PO)(hl:∀x∈l,x∈g.ops)(H:PrQ P R L)(hp:p.path.length+1≤L.length):PrQ P R (l.foldl (Jt P R fm g h p) L):=by
 induction l generalizing L with
 |nil=>exact H
 |cons x l ih=>
  rw[List.foldl_cons];refine ih (fun y hy=>hl y (by simp[hy])) (Nu hP hR hgm hhm (hl x (by simp)) H hp) ?_;have:=Qz0 hP hR (fm:=fm) hgm hhm (p:=p) L x;omega
end
theorem V5 {P R:PL}{fm:Int}{g h:PG}{p:Pq}(L:List Pq)(x:PO):L <+: Jt P R fm g h p L x:=by
 unfold Jt;split
 ·exact QXp _
 ·split
  ·split
   ·exact QXp _
   ·exact List.prefix_append _ _
  ·exact QXp _
theorem WL {P R:PL}{fm:Int}{g h:PG}{p:Pq}:∀(l:List PO) (L:List Pq),L <+: l.foldl (Jt P R fm g h p) L
 | [],_=>QXp _
 |x :: l,L=>List.IsPrefix.trans (V5 L x) (WL l _)

def nxt (P R:PL)(fm:Int)(L:List Pq)(i:Nat):List Pq:=match L[i]? with
 |none=>L
 |some p=>match P.progs[p.w]?,R.progs[p.r]? with
  |some g,some h=>JT P R fm g h p L
  |_,_=>L
def Zs (P R:PL)(fm:Int)(a b:Nat):Nat→List Pq
 |0=>[⟨a,b,[],false⟩]
 |i+1=>nxt P R fm (Zs P R fm a b i) i
def K1 (P R:PL)(fm:Int)(p:Pq):List FD:=match P.progs[p.w]?,R.progs[p.r]? with
 |some g,some h=>Wr P R fm g h p
 |_,_=>[]
def WU (P R:PL)(fm:Int)(a b:Nat):List FD:=(Zs P R fm a b 128).flatMap (K1 P R fm)
section
variable {P R:PL}{fm:Int}{a b:Nat}
theorem Nv {L:List Pq}{i:Nat}{p:Pq}{g h:PG}(hp:L[i]? = some p)(hg:P.progs[p.w]? = some g)(hh:R.progs[p.r]? = some h):nxt P R fm L i=JT P R fm g h p L:=by
 unfold nxt;rw[hp];dsimp only;rw[hg,hh]
theorem Nw {p:Pq}{g h:PG}(hg:P.progs[p.w]? = some g)(hh:R.progs[p.r]? = some h):K1 P R fm p=Wr P R fm g h p:=by
 unfold K1;rw[hg,hh]
theorem V6 (L:List Pq)(i:Nat):L <+: nxt P R fm L i:=by
 unfold nxt;split
 ·exact QXp _
 ·split
  ·exact WL _ _
  ·exact QXp _
theorem QcM (i d:Nat):Zs P R fm a b i <+: Zs P R fm a b (i+d):=by
 induction d with
 |zero=>exact QXp _
 |succ d ih=>exact List.IsPrefix.trans ih (V6 _ _)
theorem QcN {i:Nat}(h:¬i<(Zs P R fm a b i).length)(d:Nat):Zs P R fm a b (i+d)=Zs P R fm a b i:=by
 induction d with
 |zero=>rfl
 |succ d ih=>
  show nxt P R fm (Zs P R fm a b (i+d)) (i+d)=_;rw[ih];unfold nxt;rw[QWD (by omega)]
theorem Hw {i:Nat}(h:¬i<(Zs P R fm a b i).length)(hi:i≤128):Zs P R fm a b 128=Zs P R fm a b i:=by
 have:=QcN h (128-i)
 rwa [show i+(128-i)=128 by omega]at this
theorem Dl (hP:Own P)(hR:Own R)(p:Pq):(K1 P R fm p).length≤256:=by
 unfold K1;split
 ·rename_i g h hg hh;have h1:=hP.ops g (QVw hg);have h2:=hR.ops h (QVw hh);have h3:=UL P R fm g h p g.ops.length;have h4:∀l:List PO,(l.flatMap (Js P R fm g h p)).length≤l.length:=by
   intro l
   induction l with
   |nil=>exact QVi _
   |cons x l ih=>
    rw[QWK,QVU,QVx];have:=W9 h p (!p.hid&&x.card==1 && !GA P R fm g h x) x.num 14;unfold Js at ih ⊢;omega
  have h5:=h4 h.ops;unfold Wr;rw[QVU];omega
 ·simp
theorem YE (hP:Own P)(hR:Own R):∀(l:List Pq),(l.flatMap (K1 P R fm)).length≤256*l.length
 | []=>QVi _
 |p :: l=>by
  rw[QWK,QVU,QVx];have:=Dl (fm:=fm) hP hR p;have:=YE hP hR l;omega
section
variable (hP:Own P)(hR:Own R)(ha:a<P.progs.length)(hb:b<R.progs.length)
include hP hR ha hb
theorem Ws:∀i,PrQ P R (Zs P R fm a b i)∧1≤(Zs P R fm a b i).length
 |0=>⟨⟨by simp[Zs],fun y hy=>by rcases QXk.1 hy with rfl;exact ha,fun y hy=>by rcases QXk.1 hy with rfl;exact hb,fun i y hy=>by cases i with|zero=>simp only[Zs,QWf,QVJ]at hy;subst hy;exact QVi _|succ i=>simp[Zs]at hy⟩,QVi _⟩
 |i+1=>by
  have ih:=Ws i;have hpre:=V6 (P:=P) (R:=R) (fm:=fm) (Zs P R fm a b i) i;refine⟨?_,QVj ih.2 hpre.length_le⟩;show PrQ P R (nxt P R fm _ i);unfold nxt;split
  ·exact ih.1
  ·rename_i p hp;split
   ·rename_i g h hg hh;have h1:=ih.1.pth i p hp;have h2:=(QVk.1 hp).1;exact Ai hP hR (QVw hg) (QVw hh) g.ops (fun _ h=>h) ih.1 (by omega)
   ·exact ih.1
end
end

section
variable {P:PL}{fm:Int}{h:PG}{o q x:PO}{l:List PO}{k:Nat}
theorem Aj (hx:l[k]? = some x):WH P fm h (l.take (k+1)) o q=(WH P fm h (l.take k) o q||(fm==4&&(q.card != 4&&Gy P fm h o q x))):=by
 unfold WH;rw[Zh hx];cases fm==4<;>cases q.card != 4<;>rfl
theorem Ak (hx:l[k]? = some x):WI P fm h (l.take (k+1)) o q=(WI P fm h (l.take k) o q||(fm != 1&&Gz P fm h o q x)):=by
 unfold WI;rw[Zh hx];cases fm != 1<;>rfl
end

section
variable (P R:PL)(fm:Int)(g h:PG)(hg:g.ops.length≤64)(hh:h.ops.length≤64)(hop:∀x∈g.ops,OwnO P g x)
include hg hh hop

theorem w34 (i:Nat)(o q:PO)(hi:g.ops[i]? = some o):Qj Tryz.prog 34 [jv P R fm,Xk g,Xk h,.int .i64 (i:Nat),QB q] (.tup [.bool (WH P fm h (g.ops.take i) o q),.bool (WI P fm h (g.ops.take i) o q)]):=by
 have hil:=(QVk.1 hi).1;have hgo:(g.ops.map QB)[i]? = some (QB o):=by rw[QWB,hi];rfl
 have hle:(i≤g.ops.length)=True:=eq_true (by omega);have hTl:(g.ops.take i).length=i:=by rw[QV8];omega
 have hTm:∀x∈g.ops.take i,OwnO P g x:=fun x hx=>hop x (QV3 hx)
 rw[Qx]at hgo;refine k34.fn (by simp) ?_;simp only[QC,Je,Qx,Qd,QWH,Qb,hgo,KN,Ja,XI,QWP,QWE,QVr,QVi,hle,true_or,QWh,QWb,←List.map_take,eE,seval];generalize g.ops.take i=T at *;simp only[hTl,seval];refine QO (X:=Nat×Bool×Bool) (fun s=>[(5,.ptr 0 5 0),(7,.ptr 0 7 0),(9,.ptr 0 9 0),(12,.bool s.2.1),(13,.bool s.2.2),(14,.ptr 0 14 0),(27,.list (T.map QB)),(28,.int .i64 (i:Nat)),(29,.int .i64 (s.1:Nat))]) (fun _=>[(5,.cells (jc P R fm)),(7,.cells h.cells),(9,.cells q.cells),(14,.cells o.cells)]) [17,16] (fun s=>i-s.1) (fun s=>s.1≤i∧s.2.1=WH P fm h (T.take s.1) o q∧s.2.2=WI P fm h (T.take s.1) o q) (fun _=>[]) (0,false,false) ⟨QVr _,by simp[WH],by simp[WI]⟩ ?_;rintro⟨k,t,u⟩ f fr ⟨hk,ht,hu⟩;dsimp only at hk ht hu;simp only[jc,PG.cells,PO.cells,Xa,QVP,QWe,QVD,QVE,Qa,seval];rcases Xi T k with⟨x,hx,hlt⟩|hlt
 case inr=>
  rw[QVQ (by omega)]at ht hu;rw[hTl]at hlt;simp only[Qu hlt,←ht,←hu,Qa,seval]
 have hox:=hTm x (QVw hx);have hgx:(T.map QB)[k]? = some (QB x):=by rw[QWB,hx];rfl
 have c1:=SJ P R fm h hh x;have c2:=w31 P R fm g x hox;have c3:=v67 x o;have hT:=Aj (P:=P) (fm:=fm) (h:=h) (o:=o) (q:=q) hx;have hU:=Ak (P:=P) (fm:=fm) (h:=h) (o:=o) (q:=q) hx;rw[←ht]at hT;rw[←hu]at hU;have ha:(decide (x.union<0)||x.union != o.union)=Dk x o:=rfl;unfold Gy at hT;unfold Gz at hU;rw[ha]at c3;rw[hTl]at hlt;have e1:=Qh k _ hlt (by simp only[maxLen];omega);simp only[QC,Je,Qx,oq]at c1 c2 c3 hgx;simp only[Qs hlt,Qd,QWH,Qb,hgx,eE,seval];refine aC c1 ?_;cases hq:mq fm h x with
 |none=>
  rw[hq]at hT hU;simp only[QWP,QV5,JK,e1,QWs,QWl,cond_true,cond_false,eE,seval];exact Ix.go (k+1,t,u) (by dsimp only;omega) ⟨by omega,by rw[hT];simp,by rw[hU];simp⟩
 |some y=>
  rw[hq]at hT hU;dsimp only at hT hU;simp only[QWo,QW4,QWs,QWZ,cond_true,cond_false,eE,seval];refine aC c2 ?_;cases hb:Kf P x
  ·rw[hb]at hT hU;simp only[e1,QWl,cond_true,cond_false,Qa,seval];exact Ix.go (k+1,t,u) (by dsimp only;omega) ⟨by omega,by rw[hT];simp,by rw[hU];simp⟩
  rw[hb]at hT hU;simp only[QWZ,cond_true,cond_false,eE,seval];refine aC c3 ?_;cases hc:Dk x o
  ·rw[hc]at hT hU;simp only[e1,QWl,cond_true,cond_false,Qa,seval];exact Ix.go (k+1,t,u) (by dsimp only;omega) ⟨by omega,by rw[hT];simp,by rw[hU];simp⟩
  rw[hc]at hT hU;cases d1:(y.num==q.num)
  ·have d1':(y.num != q.num)=true:=by simp[bne,d1]
   rw[d1]at hT;rw[d1']at hU;cases d2:decide (q.union≥0)
   ·simp only[d1,d2,e1,QWZ,cond_true,cond_false,eE,seval];exact Ix.go (k+1,t,u) (by dsimp only;omega) ⟨by omega,by rw[hT];simp,by rw[hU,d2];simp⟩
   cases d3:(y.union==q.union)
   ·simp only[d1,d2,d3,e1,QWZ,cond_true,cond_false,eE,seval];exact Ix.go (k+1,t,u) (by dsimp only;omega) ⟨by omega,by rw[hT];simp,by rw[hU,d3];simp⟩
   cases t0:u
   ·simp only[d1,d2,d3,e1,QWZ,cond_true,cond_false,eE,seval];exact Ix.go (k+1,t,fm != 1) (by dsimp only;omega) ⟨by omega,by rw[hT];simp,by rw[hU,t0,d2,d3];simp⟩
   ·simp only[d1,d2,d3,e1,QWZ,cond_true,cond_false,eE,seval];exact Ix.go (k+1,t,true) (by dsimp only;omega) ⟨by omega,by rw[hT];simp,by rw[hU,t0];simp⟩
  ·have d1':(y.num != q.num)=false:=by simp[bne,d1]
   cases t0:t
   ·cases d4:(fm==4)
    ·simp only[d1,d4,e1,QWZ,cond_true,cond_false,eE,seval];exact Ix.go (k+1,false,u) (by dsimp only;omega) ⟨by omega,by rw[hT,t0,d4];simp,by rw[hU,d1'];simp⟩
    ·simp only[d1,d4,e1,QWZ,cond_true,cond_false,eE,seval];exact Ix.go (k+1,q.card != 4,u) (by dsimp only;omega) ⟨by omega,by rw[hT,t0,d4,d1];simp,by rw[hU,d1'];simp⟩
   ·simp only[d1,e1,QWZ,cond_true,cond_false,eE,seval];exact Ix.go (k+1,true,u) (by dsimp only;omega) ⟨by omega,by rw[hT,t0];simp,by rw[hU,d1'];simp⟩
theorem w35 (hA:∀(e:PE) (o:PO),e.items.length≤64→o∈g.ops→o.kind=9∨o.kind=1→Qj Tryz.prog 68 [jv P R fm,Z2 e,QB o] (.bool (Jr P e o)))(q:PO)(hq:OwnO R h q)(hR:∀e∈R.enums,e.items.length≤64):Qj Tryz.prog 35 [jv P R fm,Xk g,Xk h,QB q] (.bool (GA P R fm g h q)):=by
 unfold GA;generalize hL:g.ops=L at *;refine k35.fn (by simp) ?_;simp only[QC,Je,Qx,hL,QWE,eE,seval];refine QO (X:=Nat) (fun k=>[(4,.ptr 0 4 0),(6,.ptr 0 6 0),(7,.ptr 0 7 0),(14,.list (L.map QB)),(15,.int .i64 (L.length:Nat)),(16,.int .i64 (k:Nat))]) (fun _=>[(4,.cells (jc P R fm)),(6,.cells h.cells),(7,.cells q.cells)]) [11,10] (fun k=>L.length-k) (fun k=>k≤L.length∧(L.take k).any (DY P R fm h q)=false) (fun _=>[]) 0 ⟨QVr _,rfl⟩ ?_;rintro k f fr ⟨hk,ht⟩;simp only[jc,PG.cells,PO.cells,Xa,QVP,QWe,QVD,QVE,Qa,seval];rcases Xi L k with⟨x,hx,hlt⟩|hlt
 case inr=>
  rw[QVQ (by omega)]at ht;simp only[Qu hlt,ht,Qa,seval]
 have hxm:=QVw hx;have hox:=hop x hxm;have hgx:(L.map QB)[k]? = some (QB x):=by rw[QWB,hx];rfl
 have c1:=SJ P R fm h hh x;have hT:=Zh (q:=DY P R fm h q) hx;rw[ht,QW1]at hT;have hany:DY P R fm h q x=true→L.any (DY P R fm h q)=true:=fun e=>QWR.2 ⟨x,hxm,e⟩
 have e1:=Qh k _ hlt (by simp only[maxLen];omega);have hg0:DY P R fm h q x=(match mq fm h x with
  |some y=>y.num==q.num&&x.card==1&&(fm != 1||q.kind != 9||(x.kind != 9&&x.kind != 1)||Jr P (X4 R q.target) x)
  |none=>false):=rfl
 rw[hg0]at hT;simp only[QC,Je,Qx,oq]at c1 hgx;simp only[Qs hlt,Qd,QWH,Qb,hgx,eE,seval];refine aC c1 ?_;cases hq':mq fm h x with
 |none=>
  rw[hq']at hT;dsimp only at hT;simp only[QWP,QV5,JK,e1,QWs,QWl,cond_true,cond_false,eE,seval];exact Ix.go (k+1) (by omega) ⟨by omega,hT⟩
 |some y=>
  rw[hg0,hq']at hany;rw[hq']at hT;dsimp only at hT hany;clear hg0;cases d1:(y.num==q.num)
  ·have d1':(y.num != q.num)=true:=by simp[bne,d1]
   rw[d1]at hT;simp only[QWo,QW4,d1',e1,QWs,QWZ,cond_true,cond_false,eE,seval];exact Ix.go (k+1) (by omega) ⟨by omega,by rw[hT];simp⟩
  have d1':(y.num != q.num)=false:=by simp[bne,d1]
  cases d2:(x.card==1)
  ·have d2':(x.card != 1)=true:=by simp[bne,d2]
   rw[d1,d2]at hT;simp only[QWo,QW4,d1',d2',e1,QWs,QWZ,cond_true,cond_false,eE,seval];exact Ix.go (k+1) (by omega) ⟨by omega,by rw[hT];simp⟩
  have d2':(x.card != 1)=false:=by simp[bne,d2]
  rw[d1,d2]at hT hany;simp only[QWo,QW4,d1',d2',QWs,QWZ,cond_true,cond_false,eE,seval];cases d3:(fm != 1)
  case true=>
   rw[hany (by rw[d3];simp)];simp only[cond_true,cond_false,Qa,seval]
  cases d4:(q.kind != 9)
  case true=>
   rw[hany (by rw[d4];simp)];simp only[d4,cond_true,cond_false,eE,seval]
  have k9:q.kind=9:=by simpa using d4
  obtain⟨j,e,he,hte⟩:=hq.tgE k9;have hen:X4 R q.target=e:=by unfold X4;rw[hte,QWH,he];rfl
  have hge:(R.enums.map Z2)[j]? = some (Z2 e):=by rw[QWB,he];rfl
  rw[Jd]at hge;rw[hen,d3,d4]at hT hany;by_cases Uh:x.kind=9∨x.kind=1
  case neg=>
   have d5:(x.kind != 9)=true:=by rw[QVL];omega
   have d6:(x.kind != 1)=true:=by rw[QVL];omega
   rw[hany (by rw[d5,d6];simp)];simp only[d4,d5,d6,cond_true,cond_false,eE,seval]
  have c2:=hA e x (hR e (QVw he)) hxm Uh;simp only[QC,Jd,Qx]at c2;have hz:(x.kind != 9&&x.kind != 1)=false:=by
   rcases Uh with e|e<;>simp[e]
  rw[hz]at hT hany;have walk:∀b,Jr P e x=b→Jr P e x=b:=fun _ h=>h
  rcases Uh with k9'|k1'
  ·have d5:(x.kind != 9)=false:=by simp[k9']
   simp only[d4,d5,hte,Qd,QWH,Qb,hge,cond_true,cond_false,eE,seval];refine aC c2 ?_;cases d7:Jr P e x
   ·rw[d7]at hT;simp only[e1,cond_true,cond_false,Qa,seval];exact Ix.go (k+1) (by omega) ⟨by omega,by rw[hT];simp⟩
   ·rw[hany (by rw[d7];simp)];simp only[cond_true,cond_false,Qa,seval]
  ·have d5:(x.kind != 9)=true:=by simp[k1']
   have d6:(x.kind != 1)=false:=by simp[k1']
   simp only[d4,d5,d6,hte,Qd,QWH,Qb,hge,cond_true,cond_false,eE,seval];refine aC c2 ?_;cases d7:Jr P e x
   ·rw[d7]at hT;simp only[e1,cond_true,cond_false,Qa,seval];exact Ix.go (k+1) (by omega) ⟨by omega,by rw[hT];simp⟩
   ·rw[hany (by rw[d7];simp)];simp only[cond_true,cond_false,Qa,seval]

theorem w37 (hA:∀(e:PE) (o:PO),e.items.length≤64→o∈g.ops→o.kind=9∨o.kind=1→Qj Tryz.prog 68 [jv P R fm,Z2 e,QB o] (.bool (Jr P e o)))(o q:PO)(hq:∀q∈h.ops,OwnO R h q)(hR:∀e∈R.enums,e.items.length≤64):Qj Tryz.prog 37 [jv P R fm,Xk g,Xk h,QB o,QB q] (.bool (WJ P R fm g h o q)):=by
 unfold WJ;generalize hL:g.ops=L at *;refine k37.fn (by simp) ?_;simp only[QC,Je,Qx,hL,eE,seval];cases hm:(fm==1)
 case false=>
  have hm':(fm != 1)=true:=by simp[bne,hm]
  simp only[hm',QWL,cond_true,cond_false,Qa,seval]
 have hm':(fm != 1)=false:=by simp[bne,hm]
 by_cases hu:q.union<0
 case pos=>simp only[hm',QXb hu,QW3 (by omega:¬q.union≥0),QWL,QXe,cond_true,cond_false,eE,seval]
 simp only[hm',QW3 hu,QXb (by omega:q.union≥0),QWE,QWY,QWs,cond_true,cond_false,eE,seval];refine QO (X:=Nat) (fun k=>[(5,.ptr 0 5 0),(7,.ptr 0 7 0),(8,.ptr 0 8 0),(9,.ptr 0 9 0),(24,.list (L.map QB)),(25,.int .i64 (L.length:Nat)),(26,.int .i64 (k:Nat))]) (fun _=>[(5,.cells (jc P R fm)),(7,.cells h.cells),(8,.cells o.cells),(9,.cells q.cells)]) [13,12] (fun k=>L.length-k) (fun k=>k≤L.length∧(L.take k).any (K0 P R fm h o q)=false) (fun _=>[]) 0 ⟨QVr _,rfl⟩ ?_;rintro k f fr ⟨hk,ht⟩;simp only[jc,PG.cells,PO.cells,Xa,QVP,QWe,QVD,QVE,Qa,seval];rcases Xi L k with⟨x,hx,hlt⟩|hlt
 case inr=>
  rw[QVQ (by omega)]at ht;simp only[Qu hlt,ht,Qa,seval]
 have hxm:=QVw hx;have hox:=hop x hxm;have hgx:(L.map QB)[k]? = some (QB x):=by rw[QWB,hx];rfl
 have c1:=SJ P R fm h hh x;have hT:=Zh (q:=K0 P R fm h o q) hx;rw[ht,QW1]at hT;have hany:K0 P R fm h o q x=true→L.any (K0 P R fm h o q)=true:=fun e=>QWR.2 ⟨x,hxm,e⟩
 have e1:=Qh k _ hlt (by simp only[maxLen];omega);have hg0:K0 P R fm h o q x=(match mq fm h x with
  |some y=>decide (x.num > o.num)&&x.card==1&&y.union==q.union&&y.num != q.num&&(y.kind != 9||(x.kind != 9&&x.kind != 1)||Jr P (X4 R y.target) x)
  |none=>false):=rfl
 rw[hg0]at hT;simp only[QC,Je,Qx,oq]at c1 hgx;simp only[Qs hlt,Qd,QWH,Qb,hgx,eE,seval];refine aC c1 ?_;cases hq':mq fm h x with
 |none=>
  rw[hq']at hT;dsimp only at hT;simp only[QWP,QV5,JK,e1,QWs,QWl,cond_true,cond_false,eE,seval];exact Ix.go (k+1) (by omega) ⟨by omega,hT⟩
 |some y=>
  have hym:=KT hq';rw[hg0,hq']at hany;rw[hq']at hT;dsimp only at hT hany;clear hg0;by_cases d1:x.num > o.num
  case neg=>
   rw[QW3 d1]at hT;simp only[QWo,QW4,QXb (by omega:x.num≤o.num),e1,QWs,QWZ,cond_true,cond_false,eE,seval];exact Ix.go (k+1) (by omega) ⟨by omega,by rw[hT];simp⟩
  have d1':decide (x.num≤o.num)=false:=QW3 (by omega);cases d2:(x.card==1)
  ·have d2':(x.card != 1)=true:=by simp[bne,d2]
   rw[d2]at hT;simp only[QWo,QW4,d1',d2',e1,QWs,QWZ,cond_true,cond_false,eE,seval];exact Ix.go (k+1) (by omega) ⟨by omega,by rw[hT];simp⟩
  have d2':(x.card != 1)=false:=by simp[bne,d2]
  cases d3:(y.union==q.union)
  ·have d3':(y.union != q.union)=true:=by simp[bne,d3]
   rw[d3]at hT;simp only[QWo,QW4,d1',d2',d3',e1,QWs,QWZ,cond_true,cond_false,eE,seval];exact Ix.go (k+1) (by omega) ⟨by omega,by rw[hT];simp⟩
  have d3':(y.union != q.union)=false:=by simp[bne,d3]
  cases d4:(y.num != q.num)
  ·have d4':(y.num==q.num)=true:=by simpa [bne]using d4
   rw[d4]at hT;simp only[QWo,QW4,d1',d2',d3',d4',e1,QWs,QWZ,cond_true,cond_false,eE,seval];exact Ix.go (k+1) (by omega) ⟨by omega,by rw[hT];simp⟩
  have d4':(y.num==q.num)=false:=by simpa [bne]using d4
  rw[QXb d1,d2,d3,d4]at hT hany;simp only[QWo,QW4,d1',d2',d3',d4',QWs,QWZ,cond_true,cond_false,eE,seval];cases d5:(y.kind != 9)
  case true=>
   rw[hany (by rw[d5];simp)];simp only[cond_true,cond_false,Qa,seval]
  have k9:y.kind=9:=by simpa using d5
  obtain⟨j,e,he,hte⟩:=(hq y hym).tgE k9;have hen:X4 R y.target=e:=by unfold X4;rw[hte,QWH,he];rfl
  have hge:(R.enums.map Z2)[j]? = some (Z2 e):=by rw[QWB,he];rfl
  rw[Jd]at hge;rw[hen,d5]at hT hany;by_cases Uh:x.kind=9∨x.kind=1
  case neg=>
   have d5:(x.kind != 9)=true:=by rw[QVL];omega
   have d6:(x.kind != 1)=true:=by rw[QVL];omega
   rw[hany (by rw[d5,d6];simp)];simp only[k9,d5,d6,cond_true,cond_false,eE,seval]
  have c2:=hA e x (hR e (QVw he)) hxm Uh;simp only[QC,Jd,Qx]at c2;have hz:(x.kind != 9&&x.kind != 1)=false:=by
   rcases Uh with e|e<;>simp[e]
  rw[hz]at hT hany;rcases Uh with k9'|k1'
  ·have d6:(x.kind != 9)=false:=by simp[k9']
   simp only[d6,hte,Qd,QWH,Qb,hge,cond_true,cond_false,eE,seval];refine aC c2 ?_;cases d7:Jr P e x
   ·rw[d7]at hT;simp only[e1,cond_true,cond_false,Qa,seval];exact Ix.go (k+1) (by omega) ⟨by omega,by rw[hT];simp⟩
   ·rw[hany (by rw[d7];simp)];simp only[cond_true,cond_false,Qa,seval]
  ·have d6:(x.kind != 9)=true:=by simp[k1']
   have d8:(x.kind != 1)=false:=by simp[k1']
   simp only[d6,d8,hte,Qd,QWH,Qb,hge,cond_true,cond_false,eE,seval];refine aC c2 ?_;cases d7:Jr P e x
   ·rw[d7]at hT;simp only[e1,cond_true,cond_false,Qa,seval];exact Ix.go (k+1) (by omega) ⟨by omega,by rw[hT];simp⟩
   ·rw[hany (by rw[d7];simp)];simp only[cond_true,cond_false,Qa,seval]
end

theorem Nx (l:List Int):(l.map iw).all (fun e=>e.cells.length==1)=true:=by
 rw[QVv];intro z hz;obtain⟨w,_,rfl⟩:=QWz.1 hz;rfl

theorem w30 (h:PG)(p:Pq)(n e:Int)(F:Nat→Ob)(gn k:Nat)(xs:List AV)(o7:F 7=.cells [.vec 0 1103 gn 0 k false])(oR:F 1103=.vec gn 4 xs)(hk:k=xs.length)(hl:k≤100000)(hp:p.path.length≤100000)(o6:F 6=.cells [.str h.name,.list (h.ops.map QB),.int .i64 h.unions])(o3:F 3=.cells [.int .i64 (p.w:Nat),.int .i64 (p.r:Nat),.list (p.path.map iw),.bool p.hid]) :
  Qp Tryz.prog 30 [.int .i64 n,.int .i64 e,.ptr 0 7 0,.ptr 0 6 0,.ptr 0 3 0] [F] fun y m1=>y=.tup []∧m1=[Qn (Qn F 1103 (.vec (gn+1) 4 (xs++[.agg [.str h.name,.int .i64 n,.int .i64 e,.list (p.path.map iw)]]))) 7 (.cells [.vec 0 1103 (gn+1) 0 (k+1) false])]:=by
 subst hk;refine k30.go (by simp) ?_;simp only[o7,o6,eE,seval];refine DE rfl ?_;simp only[o3,eE,seval];refine DC (site:=12) (xs:=[]) (ys:=p.path.map iw) (by rfl) (by rfl) rfl rfl (by rfl) (Nx _) (by simp only[QWE,QWp,maxLen];omega) (by simp only[QWE,QWp];omega) ?_;simp only[eE,seval];refine QM rfl rfl (by decide) rfl rfl ?_;refine J9 (xs:=xs) (by rfl) (by simp only[oR,F0,seval]) rfl rfl (by rfl) rfl (by simp only[QVx,QWp,maxLen];omega) (by simp only[QVx,QWp];omega) ?_;simp only[o7,nn0,QVP,QWe,cond_false,eE,seval]

section
variable (P R:PL)(hP:Own P)(hR:Own R)(fm:Int)(hf:Fm fm)
include hP
theorem SU (g:PG)(hgm:g∈P.progs)(e:PE)(o:PO)(hl:e.items.length≤64)(ho:o∈g.ops)(hk:o.kind=9∨o.kind=1):Qj Tryz.prog 68 [jv P R fm,Z2 e,QB o] (.bool (Jr P e o)):=w68 P R fm g o (hP.op g hgm o ho) hk hP.its e hl

include hR hf
set_option maxHeartbeats 1000000 in
theorem w19 (p:Pq)(g h:PG)(hg:P.progs[p.w]? = some g)(hh:R.progs[p.r]? = some h)(hp:p.path.length≤1000):Qj Tryz.prog 19 [jv P R fm,p.av] (.list ((Wr P R fm g h p).map Xd)):=by
 have hgm:=QVw hg;have hhm:=QVw hh;have hgl:=hP.ops g hgm;have hhl:=hR.ops h hhm;have hop:=hP.op g hgm;have hoq:=hR.op h hhm;have hgp:(P.progs.map Xk)[p.w]? = some (Xk g):=by rw[QWB,hg];rfl
 have hhp:(R.progs.map Xk)[p.r]? = some (Xk h):=by rw[QWB,hh];rfl
 have hA:=SU P R hP fm g hgm;rw[Je]at hgp hhp;have hN:=UL P R fm g h p;refine k19.fn (by simp) ?_;simp only[QC,DZ,Qd,QWH,Qb,hgp,hhp,eE,seval];refine Xm rfl rfl rfl rfl ?_;simp only[QWE,eE,seval]
 let A:AV:=.fn (.func 30) [] [.ptr 0 7 0,.ptr 0 6 0,.ptr 0 3 0]
 let PC:List AV:=[.int .i64 (p.w:Nat),.int .i64 (p.r:Nat),.list (p.path.map iw),.bool p.hid]
 refine QO (X:=Nat×List FD) (fun s=>[(2,.ptr 0 2 0),(3,.ptr 0 3 0),(5,.ptr 0 5 0),(6,.ptr 0 6 0),(7,.ptr 0 7 0),(8,A),(34,.list (g.ops.map QB)),(35,.int .i64 (g.ops.length:Nat)),(36,.int .i64 (s.1:Nat))]) (fun s=>[(7,.cells [.vec 0 1103 (1+s.2.length) 0 s.2.length false]),(1103,.vec (1+s.2.length) 4 (s.2.map Xd)),(2,.cells (jc P R fm)),(3,.cells PC),(5,.cells g.cells),(6,.cells h.cells),(17,.none)]) [11,10] (fun s=>g.ops.length-s.1) (fun s=>s.1≤g.ops.length∧s.2=Uw P R fm g h p s.1) (fun _=>[]) (0,[]) ⟨QVr _,rfl⟩ ?_;rintro⟨k,l⟩ f fr ⟨hk,hl⟩;dsimp only at hk hl;have hll:l.length≤192:=by
  have:=hN k;rw[hl];omega
 simp only[A,PC,jc,PG.cells,Xa,QVP,QWe,QVD,QVE,Qa,seval];rcases Xi g.ops k with⟨x,hx,hlt⟩|hlt
 case inl=>
  have hxm:=QVw hx;have hox:=hop x hxm;have hgx:(g.ops.map QB)[k]? = some (QB x):=by rw[QWB,hx];rfl
  have e1:=Qh k _ hlt (by simp only[maxLen];omega);have c1:=w31 P R fm g x hox;have c2:=SJ P R fm h hhl x;have hT:=Ht P R fm g h p k;rw[←hl]at hT;have hW:GB P R fm g h p k=(if Kf P x=true then(match mq fm h x with
   |none=>Xu h p (fm==4) x.num 8
   |some q=>Xu h p (KZ P R fm x q != 0) x.num (KZ P R fm x q)++(Xu h p (WH P fm h (g.ops.take k) x q) x.num 9++Xu h p (WI P fm h (g.ops.take k) x q) x.num 15))else []):=by unfold GB;rw[hx]<;>rfl
  have ca:=fun n e F gn k xs o7 oR hk hl o6 o3=>w30 h p n e F gn k xs o7 oR hk hl (by omega) o6 o3
  simp only[QC,Je,Qx,oq]at c1 c2 hgx;simp only[Qs hlt,Qd,QWH,Qb,hgx,eE,seval];refine aC c1 ?_;cases hb:Kf P x
  ·rw[hb,QVp (by simp)]at hW;simp only[e1,QWl,cond_true,cond_false,Qa,seval];exact Ix.go (k+1,l) (by dsimp only;omega) ⟨by dsimp only;omega,by dsimp only;rw[hT,hW,QWg]⟩
  rw[hb,QVq rfl]at hW;simp only[QWZ,cond_true,cond_false,eE,seval];refine aC c2 ?_;cases hq:mq fm h x with
  |none=>
   rw[hq]at hW;dsimp only at hW;cases f4:(fm==4)
   ·rw[f4]at hW;simp only[QWP,QV5,JK,f4,e1,QWs,QWl,cond_true,cond_false,eE,seval];exact Ix.go (k+1,l) (by dsimp only;omega) ⟨by dsimp only;omega,by dsimp only;rw[hT,hW];simp[Xu]⟩
   ·rw[f4]at hW;simp only[QWP,QV5,JK,f4,QWs,QWl,cond_true,cond_false,eE,seval];refine Xp (fa:=[]) (fb:=[.ptr 0 7 0,.ptr 0 6 0,.ptr 0 3 0]) rfl (ca x.num 8 _ _ l.length (l.map Xd) (by rfl) (by rfl) (by simp) (by omega) (by rfl) (by rfl)) rfl ?_;simp only[e1,Qa,seval];exact Ix.go (k+1,l++[⟨h.name,x.num,8,p.path⟩]) (by dsimp only;omega) ⟨by dsimp only;omega,by dsimp only;rw[hT,hW];simp[Xu]⟩ (ho:=by simp only[Ag,QWS,QVP,QWe,QVU,QVx,QWp];rfl)
  |some y=>
   rw[hq]at hW;dsimp only at hW;have hym:=KT hq;have c3:=w33 P R fm hf g h x y hox (hoq y hym) hP.its hR.its;have c4:=w34 P R fm g h hgl hhl hop k x y hx;simp only[QC,Je,Qx]at c3 c4;simp only[QWo,QW4,QWs,QWZ,cond_true,cond_false,eE,seval];refine aC c3 ?_;have fin:∀(l':List FD) (f':Fr) (fr':Nat→Ob),l'=l++(Xu h p (KZ P R fm x y != 0) x.num (KZ P R fm x y)++(Xu h p (WH P fm h (g.ops.take k) x y) x.num 9++Xu h p (WI P fm h (g.ops.take k) x y) x.num 15))→l'=Uw P R fm g h p (k+1):=fun l' _ _ e=>by rw[e,hT,hW]
   generalize KZ P R fm x y=ef at *;generalize WH P fm h (g.ops.take k) x y=et at *;generalize WI P fm h (g.ops.take k) x y=eu at *;cases d1:(ef != 0)<;>cases et<;>cases eu<;>simp only[d1,cond_true,cond_false,eE,seval]
   all_goals
    try(refine Xp (fa:=[]) (fb:=[.ptr 0 7 0,.ptr 0 6 0,.ptr 0 3 0]) rfl (ca x.num ef _ _ _ _ (by rfl) (by rfl) (by simp) (by omega) (by rfl) (by rfl)) rfl ?_;simp only[eE,seval])
    refine aC c4 ?_;simp only[eE,seval]
   ·simp only[e1,seval];exact Ix.go (k+1,l) (by dsimp only;omega) ⟨by dsimp only;omega,fin _ f fr (by rw[d1];simp[Xu])⟩
   all_goals
    try(refine Xp (fa:=[]) (fb:=[.ptr 0 7 0,.ptr 0 6 0,.ptr 0 3 0]) rfl (ca x.num 9 _ _ _ _ (by rfl) (by rfl) (by simp) (by omega) (by rfl) (by rfl)) rfl ?_;simp only[eE,seval])
    try(refine Xp (fa:=[]) (fb:=[.ptr 0 7 0,.ptr 0 6 0,.ptr 0 3 0]) rfl (ca x.num 15 _ _ _ _ (by rfl) (by rfl) (by simp) (by omega) (by rfl) (by rfl)) rfl ?_;simp only[Qa,seval])
    try simp only[e1,seval]
   ·exact Ix.go (k+1,l++[⟨h.name,x.num,15,p.path⟩]) (by dsimp only;omega) ⟨by dsimp only;omega,fin _ f fr (by rw[d1];simp[Xu])⟩ (ho:=by simp only[Ag,QWS,QVP,QWe,QVU,QVx,QWp];rfl)
   ·exact Ix.go (k+1,l++[⟨h.name,x.num,9,p.path⟩]) (by dsimp only;omega) ⟨by dsimp only;omega,fin _ f fr (by rw[d1];simp[Xu])⟩ (ho:=by simp only[Ag,QWS,QVP,QWe,QVU,QVx,QWp];rfl)
   ·exact Ix.go (k+1,l++[⟨h.name,x.num,9,p.path⟩]++[⟨h.name,x.num,15,p.path⟩]) (by dsimp only;omega) ⟨by dsimp only;omega,fin _ f fr (by rw[d1];simp[Xu])⟩ (ho:=by simp only[Ag,QWS,QVP,QWe,QVU,QVx,QWp];rfl)
   ·exact Ix.go (k+1,l++[⟨h.name,x.num,ef,p.path⟩]) (by dsimp only;omega) ⟨by dsimp only;omega,fin _ f fr (by rw[d1];simp[Xu])⟩ (ho:=by simp only[Ag,QWS,QVP,QWe,QVU,QVx,QWp];rfl)
   ·exact Ix.go (k+1,l++[⟨h.name,x.num,ef,p.path⟩]++[⟨h.name,x.num,15,p.path⟩]) (by dsimp only;omega) ⟨by dsimp only;omega,fin _ f fr (by rw[d1];simp[Xu])⟩ (ho:=by simp only[Ag,QWS,QVP,QWe,QVU,QVx,QWp];rfl)
   ·exact Ix.go (k+1,l++[⟨h.name,x.num,ef,p.path⟩]++[⟨h.name,x.num,9,p.path⟩]) (by dsimp only;omega) ⟨by dsimp only;omega,fin _ f fr (by rw[d1];simp[Xu])⟩ (ho:=by simp only[Ag,QWS,QVP,QWe,QVU,QVx,QWp];rfl)
   ·exact Ix.go (k+1,l++[⟨h.name,x.num,ef,p.path⟩]++[⟨h.name,x.num,9,p.path⟩]++[⟨h.name,x.num,15,p.path⟩]) (by dsimp only;omega) ⟨by dsimp only;omega,fin _ f fr (by rw[d1];simp[Xu])⟩ (ho:=by simp only[Ag,QWS,QVP,QWe,QVU,QVx,QWp];rfl)
 -- the required fields of the reader
 have ek:k=g.ops.length:=by omega
 subst ek;simp only[Qu hlt,QWE,eE,seval];clear hlt hk;refine QO (X:=Nat×List FD) (fun s=>[(2,.ptr 0 2 0),(3,.ptr 0 3 0),(5,.ptr 0 5 0),(6,.ptr 0 6 0),(7,.ptr 0 7 0),(8,A),(93,.list (h.ops.map QB)),(94,.int .i64 (h.ops.length:Nat)),(95,.int .i64 (s.1:Nat))]) (fun s=>[(7,.cells [.vec 0 1103 (1+s.2.length) 0 s.2.length false]),(1103,.vec (1+s.2.length) 4 (s.2.map Xd)),(2,.cells (jc P R fm)),(3,.cells PC),(5,.cells g.cells),(6,.cells h.cells)]) [17] (fun s=>h.ops.length-s.1) (fun s=>s.1≤h.ops.length∧s.2=l++(h.ops.take s.1).flatMap (Js P R fm g h p)∧s.2.length≤192+s.1) (fun _=>[]) (0,l) ⟨QVr _,by simp,hll⟩ ?_;rintro⟨k,l2⟩ f fr ⟨hk,hl2,hll2⟩;dsimp only at hk hl2 hll2;simp only[A,PC,jc,PG.cells,Xa,QVP,QWe,QVD,QVE,Qa,seval];rcases Xi h.ops k with⟨x,hx,hlt⟩|hlt
 case inr=>
  have e:Wr P R fm g h p=l2:=by
   unfold Wr;rw[←hl,hl2,QVQ (by omega)]
  rw[e];have ex:(l2.map Xd).take l2.length=l2.map Xd:=QVQ (by simp);simp only[Qu hlt,QWE,ex,QVY,QVH,QVi,QWh,QWn,AV.un,eE,seval]
 have hxm:=QVw hx;have hgx:(h.ops.map QB)[k]? = some (QB x):=by rw[QWB,hx];rfl
 have e1:=Qh k _ hlt (by simp only[maxLen];omega);have hT:(h.ops.take (k+1)).flatMap (Js P R fm g h p)=(h.ops.take k).flatMap (Js P R fm g h p)++Js P R fm g h p x:=by rw[QWT,hx,QXn];simp
 have c5:=w35 P R fm g h hgl hhl hop hA x (hoq x hxm) hR.its;have ca:=w30 h p x.num 14;simp only[QC,Je,Qx]at c5 hgx;simp only[Qs hlt,Qd,QWH,Qb,hgx,eE,seval];have stay:Js P R fm g h p x=[]→l++(h.ops.take (k+1)).flatMap (Js P R fm g h p)=l2:=fun e=>by rw[hT,e,QWg,←hl2]
 cases hh:p.hid
 case true=>
  simp only[e1,QWZ,cond_true,cond_false,Qa,seval];exact Ix.go (k+1,l2) (by dsimp only;omega) ⟨by dsimp only;omega,(stay (by unfold Js;rw[hh];rfl)).symm,by dsimp only;omega⟩ (ho:=by simp only;rfl)
 cases hcd:(x.card==1)
 case false=>
  simp only[hcd,e1,QWl,cond_true,cond_false,eE,seval];exact Ix.go (k+1,l2) (by dsimp only;omega) ⟨by dsimp only;omega,(stay (by unfold Js;rw[hh,hcd];rfl)).symm,by dsimp only;omega⟩ (ho:=by simp only;rfl)
 simp only[hcd,QWl,cond_true,cond_false,eE,seval];refine aC c5 ?_;cases hgv:GA P R fm g h x
 ·simp only[QWl,cond_true,cond_false,eE,seval];refine Xp (fa:=[]) (fb:=[.ptr 0 7 0,.ptr 0 6 0,.ptr 0 3 0]) rfl (ca _ _ l2.length (l2.map Xd) (by rfl) (by rfl) (by simp) (by omega) (by omega) (by rfl) (by rw[hh];exact(by rfl))) rfl ?_;simp only[e1,Qa,seval];exact Ix.go (k+1,l2++[⟨h.name,x.num,14,p.path⟩]) (by dsimp only;omega) ⟨by dsimp only;omega,by dsimp only;rw[hT,hl2,QVC];congr 1;unfold Js;rw[hh,hcd,hgv];rfl,by dsimp only;rw[QVU];simp;omega⟩ (ho:=by simp only[Ag,QWS,QVP,QWe,QVU,QVx,QWp];rfl)
 ·simp only[e1,QWZ,cond_true,cond_false,Qa,seval];exact Ix.go (k+1,l2) (by dsimp only;omega) ⟨by dsimp only;omega,(stay (by unfold Js;rw[hh,hcd,hgv];rfl)).symm,by dsimp only;omega⟩ (ho:=by simp only;rfl)
end

theorem SX {P:Program}{its:List Am.Item}{d:Nat}{f:Fr}{m:Qo}{ds:List DF}{K:St→Prop}{sz bytes el:Nat}{s r:RA}{site g n:Nat}{fr F:Nat→Ob}{xs ys:List AV}(hs:s.ev f=.vec 1 site g 0 n false)(hl:F site=.vec g sz xs)(ht:XC site el=true)(hn:n=xs.length)(hr:r.ev f=.list ys)(hz:ys.all (fun e=>e.cells.length==sz)=true)(hm:n+ys.length≤maxLen)(hb:(n+ys.length)*bytes≤140737488355328)
  (h:Ql P its ⟨Qn f d (.vec 1 site (g+1) 0 (n+ys.length) false),fr :: Qn F site (.vec (g+1) sz (xs++ys)) :: m,ds⟩ K):Ql P (⟨some d,.app sz bytes el s r,none⟩ :: its) ⟨f,fr :: F :: m,ds⟩ K:=by
 refine⟨1,site,g,n,xs,ys,hs,hl,ht,by omega,?_,hz,hm,hb,?_⟩
 ·show Xj (fr :: F :: m) (r.ev f)=some ys;rw[hr];rfl
 ·subst hn;rw[QWQ];exact h

section
variable {P R:PL}{fm:Int}{g h:PG}{p:Pq}
theorem Hx {L:List Pq}{k:Nat}{x:PO}(hx:g.ops[k]? = some x):JS P R fm g h p L (k+1)=Jt P R fm g h p (JS P R fm g h p L k) x:=by
 unfold JS;rw[QWT,hx,QWU,List.foldl_append];rfl
theorem QcO (L:List Pq)(x:PO):L.length≤(Jt P R fm g h p L x).length∧(Jt P R fm g h p L x).length≤L.length+1:=by
 unfold Jt;split
 ·omega
 ·split
  ·split
   ·omega
   ·rw[QVU,QWM];omega
  ·omega
theorem V7 (L:List Pq):∀k,L.length≤(JS P R fm g h p L k).length∧(JS P R fm g h p L k).length≤L.length+k
 |0=>by simp[JS]
 |k+1=>by
  have ih:=V7 L k;cases hx:g.ops[k]? with
  |none=>
   have:JS P R fm g h p L (k+1)=JS P R fm g h p L k:=by unfold JS;rw[QWT,hx,Option.toList_none,QWg]
   rw[this];omega
  |some x=>
   rw[Hx hx];have:=QcO (P:=P) (R:=R) (fm:=fm) (g:=g) (h:=h) (p:=p) (JS P R fm g h p L k) x;omega
end

section
variable (P R:PL)(hP:Own P)(hR:Own R)(fm:Int)(hf:Fm fm)
include hP hR
set_option maxHeartbeats 2000000 in
theorem w20 (S:Nat)(hS:∀el,XC S el=true)(p:Pq)(g h:PG)(hg:P.progs[p.w]? = some g)(hh:R.progs[p.r]? = some h)(L:List Pq)(ge:Nat)(F:Nat→Ob)(m:Qo)(hF:F S=.vec ge 4 (L.map Pq.av))(hL:L.length≤1000)(hpl:p.path.length≤1000) :
  Qp Tryz.prog 20 [jv P R fm,.vec 0 S ge 0 L.length false,p.av] (F :: m) fun y m1=>y=.vec 0 S (ge+((JT P R fm g h p L).length-L.length)) 0 (JT P R fm g h p L).length false∧m1=Qn F S (.vec (ge+((JT P R fm g h p L).length-L.length)) 4 ((JT P R fm g h p L).map Pq.av)) :: m:=by
 have hgm:=QVw hg;have hhm:=QVw hh;have hgl:=hP.ops g hgm;have hhl:=hR.ops h hhm;have hop:=hP.op g hgm;have hoq:=hR.op h hhm;have hgp:(P.progs.map Xk)[p.w]? = some (Xk g):=by rw[QWB,hg];rfl
 have hhp:(R.progs.map Xk)[p.r]? = some (Xk h):=by rw[QWB,hh];rfl
 have hA:=SU P R hP fm g hgm;rw[Je]at hgp hhp;refine k20.go (by simp) ?_;simp only[QC,DZ,Qd,QWH,Qb,hgp,hhp,QWE,eE,seval]
 let PC:List AV:=[.int .i64 (p.w:Nat),.int .i64 (p.r:Nat),.list (p.path.map iw),.bool p.hid]
 have h0:JS P R fm g h p L 0=L:=by simp[JS]
 refine QO (X:=Nat×List Pq) (fun s=>[(1,.vec 1 S (ge+(s.2.length-L.length)) 0 s.2.length false),(3,.ptr 0 3 0),(5,.ptr 0 5 0),(7,.ptr 0 7 0),(8,.ptr 0 8 0),(32,.list (g.ops.map QB)),(33,.int .i64 (g.ops.length:Nat)),(34,.int .i64 (s.1:Nat))]) (fun _=>[(3,.cells (jc P R fm)),(5,.cells PC),(7,.cells g.cells),(8,.cells h.cells)]) [15,11,10] (fun s=>g.ops.length-s.1) (fun s=>s.1≤g.ops.length∧s.2=JS P R fm g h p L s.1) (fun s=>Qn F S (.vec (ge+(s.2.length-L.length)) 4 (s.2.map Pq.av)) :: m) (0,L) ⟨QVr _,h0.symm⟩ ?_ (by simp only[Ag,QVP,QWe,Nat.sub_self,QVO];rfl) (by rfl) (by rfl) (by dsimp only;rw[Nat.sub_self,QVO,Np hF]);rintro⟨k,L'⟩ f fr ⟨hk,hLe⟩;dsimp only at hk hLe;have hLk:=V7 (P:=P) (R:=R) (fm:=fm) (g:=g) (h:=h) (p:=p) L k;rw[←hLe]at hLk;simp only[PC,jc,PG.cells,Xa,QVP,QWe,QVD,QVE,Qa,seval];rcases Xi g.ops k with⟨x,hx,hlt⟩|hlt
 case inr=>
  have e:JT P R fm g h p L=L':=by
   rw[hLe];unfold JT JS;rw[QVQ (by omega)]
  rw[e];simp only[Qu hlt,Qa,seval]
 have hxm:=QVw hx;have hox:=hop x hxm;have hgx:(g.ops.map QB)[k]? = some (QB x):=by rw[QWB,hx];rfl
 have e1:=Qh k _ hlt (by simp only[maxLen];omega);have c1:=SJ P R fm h hhl x;have c2:=w31 P R fm g x hox;have hsu:=Hx (P:=P) (R:=R) (fm:=fm) (h:=h) (p:=p) (L:=L) hx;rw[←hLe]at hsu;simp only[QC,Je,Qx,oq]at c1 c2 hgx;simp only[Qs hlt,Qd,QWH,Qb,hgx,eE,seval];refine aC c1 ?_;cases hq:mq fm h x with
 |none=>
  have hs:L'=JS P R fm g h p L (k+1):=by rw[hsu];unfold Jt;rw[hq]
  simp only[QWP,QV5,JK,e1,QWs,QWl,cond_true,cond_false,eE,seval];exact Ix.go (k+1,L') (by dsimp only;omega) ⟨by dsimp only;omega,hs⟩
 |some q=>
  have hqm:=KT hq;have hoqm:=hoq q hqm;have hs1:Jt P R fm g h p L' x=(if Kf P x=true∧x.kind=10∧q.kind=10∧YS fm x q=false then
   (if Hu L' x.target q.target (p.hid||WJ P R fm g h x q)=true then L' else L'++[⟨x.target.toNat,q.target.toNat,p.path++[x.num],p.hid||WJ P R fm g h x q⟩])else L'):=by unfold Jt;rw[hq]
  rw[hs1]at hsu;have c3:=w36 P R fm x q;have c4:=w37 P R fm g h hgl hhl hop hA x q hoq hR.its;simp only[QC,Je,Qx]at c3 c4;simp only[QWo,QW4,QWs,QWZ,cond_true,cond_false,eE,seval];refine aC c2 ?_;cases hb:Kf P x
  ·simp only[e1,QWl,cond_true,cond_false,Qa,seval];exact Ix.go (k+1,L') (by dsimp only;omega) ⟨by dsimp only;omega,by dsimp only;rw[hsu,QVp (by rw[hb];simp)]⟩
  by_cases h10:x.kind=10
  case neg=>
   have d:(x.kind != 10)=true:=by simp[h10]
   simp only[d,e1,QWZ,cond_true,cond_false,eE,seval];exact Ix.go (k+1,L') (by dsimp only;omega) ⟨by dsimp only;omega,by dsimp only;rw[hsu,QVp (fun h=>h10 h.2.1)]⟩
  have d:(x.kind != 10)=false:=by simp[h10]
  by_cases q10:q.kind=10
  case neg=>
   have d':(q.kind != 10)=true:=by simp[q10]
   simp only[d,d',e1,QWZ,cond_true,cond_false,eE,seval];exact Ix.go (k+1,L') (by dsimp only;omega) ⟨by dsimp only;omega,by dsimp only;rw[hsu,QVp (fun h=>q10 h.2.2.1)]⟩
  have d':(q.kind != 10)=false:=by simp[q10]
  have hu:(ZY fm != 0)=true:=by unfold ZY;cases(fm==1)<;>rfl
  simp only[d,d',QWZ,cond_true,cond_false,eE,seval];refine aC c3 ?_;cases hc:YS fm x q
  case true=>
   simp only[hu,e1,cond_true,cond_false,Qa,seval];exact Ix.go (k+1,L') (by dsimp only;omega) ⟨by dsimp only;omega,by dsimp only;rw[hsu,QVp (fun h=>by rw[hc]at h;cases h.2.2.2)]⟩
  rw[QVq ⟨hb,h10,q10,hc⟩]at hsu;obtain⟨jx,gx,hjx,htx⟩:=hox.tgP h10;obtain⟨jq,gq,hjq,htq⟩:=hoqm.tgP q10;have etx:((x.target.toNat:Nat):Int)=x.target:=by rw[htx];rfl
  have etq:((q.target.toNat:Nat):Int)=q.target:=by rw[htq];rfl
  obtain⟨hd,ehd⟩:∃hd,(p.hid||WJ P R fm g h x q)=hd:=⟨_,rfl⟩;rw[ehd]at hsu;simp only[cond_true,cond_false,eE,seval];have hFS:Qn F S (.vec (ge+(L'.length-L.length)) 4 (L'.map Pq.av)) S=.vec (ge+(L'.length-L.length)) 4 (L'.map Pq.av):=QP _ _ _;cases hh:p.hid
  case' true=>
   rw[hh,QW0]at ehd;simp only[hFS,cond_true,cond_false,eE,seval]
  case' false=>
   rw[hh,QW1]at ehd;rw[ehd]at c4;simp only[cond_true,cond_false,eE,seval];refine aC c4 ?_;simp only[hFS,cond_true,cond_false,eE,seval]
  all_goals
   refine QO (X:=Nat) (fun i=>[(1,.vec 1 S (ge+(L'.length-L.length)) 0 L'.length false),(3,.ptr 0 3 0),(5,.ptr 0 5 0),(7,.ptr 0 7 0),(8,.ptr 0 8 0),(10,.ptr 0 10 0),(11,.ptr 0 11 0),(13,.bool hd),(32,.list (g.ops.map QB)),(33,.int .i64 (g.ops.length:Nat)),(34,.int .i64 (k:Nat)),(80,.vec 1 S (ge+(L'.length-L.length)) 0 L'.length false),(81,.int .i64 (L'.length:Nat)),(82,.int .i64 (i:Nat))]) (fun _=>[(3,.cells (jc P R fm)),(5,.cells PC),(7,.cells g.cells),(8,.cells h.cells),(10,.cells x.cells),(11,.cells q.cells)]) [15] (fun i=>L'.length-i) (fun i=>i≤L'.length∧(L'.take i).any (fun y=>((y.w:Int)==x.target&&(y.r:Int)==q.target)&&(!y.hid||hd))=false) (fun _=>Qn F S (.vec (ge+(L'.length-L.length)) 4 (L'.map Pq.av)) :: m) 0 ⟨QVr _,rfl⟩ ?_ (by first|exact rfl|(rw[←ehd];exact rfl)) (by simp only[PC,hh];rfl);rintro i f fr ⟨hi,hq'⟩;simp only[PC,jc,PG.cells,PO.cells,Xa,QVP,QWe,QVD,QVE,Qa,seval];generalize hF':Qn F S (.vec (ge+(L'.length-L.length)) 4 (L'.map Pq.av))=F' at *;rcases Xi L' i with⟨y,hy,hli⟩|hli
   ·have e2:=Qh i _ hli (by simp only[maxLen];omega);have ia:∀fr':Nat→Ob,Qb (fr' :: F' :: m) 4 none (.vec 1 S (ge+(L'.length-L.length)) 0 L'.length false) (i:Int)=some (.vptr 1 S (ge+(L'.length-L.length)) i 0):=by
     intro fr';have e:Am.Qe (fr' :: F' :: m) 1 S=.vec (ge+(L'.length-L.length)) 4 (L'.map Pq.av):=hFS;simp only[Qb,e,Qd,if_true,QWH];simp[hli]
    have il:∀fr':Nat→Ob,Xy (fr' :: F' :: m) (some 4) (.vptr 1 S (ge+(L'.length-L.length)) i 0)=some (.agg [.int .i64 (y.w:Nat),.int .i64 (y.r:Nat),.list (y.path.map iw),.bool y.hid]):=by
     intro fr';have e:Am.Qe (fr' :: F' :: m) 1 S=.vec (ge+(L'.length-L.length)) 4 (L'.map Pq.av):=hFS;have e2:(L'.map Pq.av)[i]? = some y.av:=by rw[QWB,hy];rfl
     simp only[Xy,e,e2,if_true];rfl
    have hT:=Zh (q:=fun y:Pq=>((y.w:Int)==x.target&&(y.r:Int)==q.target)&&(!y.hid||hd)) hy;rw[hq',QW1]at hT;have hany:(((y.w:Int)==x.target&&(y.r:Int)==q.target)&&(!y.hid||hd))=true→L'=JS P R fm g h p L (k+1):=fun e=>by
     rw[hsu,QVq];exact QWR.2 ⟨y,QVw hy,e⟩
    simp only[Qs hli,ia,il,eE,seval];cases q1:((y.w:Int)==x.target)
    ·simp only[e2,cond_true,cond_false,Qa,seval];exact Ix.go (i+1) (by omega) ⟨by omega,by rw[hT,q1];rfl⟩
    cases q2:((y.r:Int)==q.target)
    ·simp only[q2,e2,cond_true,cond_false,eE,seval];exact Ix.go (i+1) (by omega) ⟨by omega,by rw[hT,q1,q2];rfl⟩
    cases q3:y.hid
    ·simp only[q2,e1,QWl,cond_true,cond_false,eE,seval];rw[←hF'];exact Ix.go (k+1,L') (by dsimp only;omega) ⟨by dsimp only;omega,hany (by rw[q1,q2,q3];rfl)⟩ (ho:=by simp only[Ag,hh];rfl)
    cases q4:hd
    ·simp only[q2,e2,QXf,QWZ,cond_true,cond_false,eE,seval];exact Ix.go (i+1) (by omega) ⟨by omega,by rw[q4]at hT;simpa [q1,q2,q3]using hT⟩
    ·simp only[q2,e1,QWs,QXg,QWZ,cond_true,cond_false,eE,seval];rw[←hF'];exact Ix.go (k+1,L') (by dsimp only;omega) ⟨by dsimp only;omega,hany (by rw[q1,q2,q3,q4];rfl)⟩ (ho:=by simp only[Ag,hh];rfl)
   rw[QVQ (by omega)]at hq';rw[QVp (by unfold Hu;rw[hq'];simp)]at hsu;simp only[Qu hli,QWE,eE,seval];refine Dx (by rfl) ?_;refine DD (xs:=p.path.map iw) (ys:=[.int .i64 x.num]) (by rfl) (by rfl) (Nx _) rfl (by simp only[QWE,QVx,QWp,maxLen];omega) (by simp only[QWE,QVx,QWp];omega) ?_;simp only[eE,seval];refine QM rfl rfl (by decide) rfl rfl ?_;simp only[nn0,QVP,QWe,seval];refine SX (xs:=L'.map Pq.av) (by rfl) hFS (hS _) (by rw[QWE]) (by rfl) rfl (by simp only[QVx,QWp,maxLen];omega) (by simp only[QVx,QWp];omega) ?_;simp only[e1,Qa,seval];have hfin:Qn F' S (.vec (ge+(L'.length-L.length)+1) 4 (L'.map Pq.av++[.agg [.int .i64 x.target,.int .i64 q.target,.list (p.path.map iw++[.int .i64 x.num]),.bool hd]]))=Qn F S (.vec (ge+((L'++[(⟨x.target.toNat,q.target.toNat,p.path++[x.num],hd⟩:Pq)]).length-L.length)) 4 ((L'++[(⟨x.target.toNat,q.target.toNat,p.path++[x.num],hd⟩:Pq)]).map Pq.av)):=by
    rw[←hF',Jw,QWS,QVU,QWM,show ge+(L'.length+1-L.length)=ge+(L'.length-L.length)+1 by omega];simp only[QVP,QWe,Pq.av,etx,etq,QWS,iw]
   rw[hfin];exact Ix.go (k+1,L'++[(⟨x.target.toNat,q.target.toNat,p.path++[x.num],hd⟩:Pq)]) (by dsimp only;omega) ⟨by dsimp only;omega,hsu.symm⟩ (ho:=by simp only[Ag,hh];rfl) (hf:=by simp only[Ag,QVP,QWe,QVU,QVx,QWp,show ge+(L'.length+(0+1)-L.length)=ge+(L'.length-L.length)+1 by omega];rfl)
end

end Go.Proofs.YtjjmjopabpakoaaGreatDoor.Va

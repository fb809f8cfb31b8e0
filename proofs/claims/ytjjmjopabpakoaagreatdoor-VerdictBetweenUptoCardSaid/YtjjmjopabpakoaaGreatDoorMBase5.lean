/- Parts of the proof, in order. -/
import Derived.Test.YtjjmjopabpakoaaGreatDoorMBase4

set_option linter.unusedSimpArgs false
set_option linter.unusedSectionVars false
namespace Go.Proofs.YtjjmjopabpakoaaGreatDoor.Va
open Go Am Rc Bt Br Up So

theorem GF {L:List Pq}{i:Nat}{y:Pq}(hy:L[i]? = some y):(L.map Pq.av)[i]? = some (.agg [.int .i64 (y.w:Nat),.int .i64 (y.r:Nat),.list (y.path.map iw),.bool y.hid]):=by
 rw[QWB,hy];rfl
theorem Dm {l:List PO}{i:Nat}{o:PO}(h:l[i]? = some o):(l.map QB)[i]? = some (.agg [.int .i64 o.num,.str o.name,.str o.alias,.int .i64 o.card,.int .i64 o.key,.int .i64 o.kind,.int .i64 o.target,.int .i64 o.union]):=by
 rw[QWB,h];rfl
theorem QcP {α:Type}{l l':List α}(h:l <+: l'){i:Nat}{x:α}(hx:l[i]? = some x):l'[i]? = some x:=by
 obtain⟨t,rfl⟩:=h;rw[QWF (QVk.1 hx).1];exact hx

theorem u45 (L:List Pq)(hl:L.length≤1000)(a b:Int)(hd:Bool):Qj Tryz.prog 45 [.list (L.map Pq.av),.int .i64 a,.int .i64 b,.bool hd] (.bool (Hu L a b hd)):=by
 unfold Hu;refine k45.fn (by simp) ?_;simp only[Qa,seval];refine QO (X:=Nat) (fun k=>[(0,.list (L.map Pq.av)),(1,.int .i64 a),(2,.int .i64 b),(3,.bool hd),(9,.int .i64 (k:Nat))]) (fun _=>[]) [] (fun k=>L.length-k) (fun k=>k≤L.length∧((L.take k).any fun y=>((y.w:Int)==a&&(y.r:Int)==b)&&(!y.hid||hd))=false) (fun _=>[]) 0 ⟨QVr _,rfl⟩ ?_;rintro k f fr ⟨hk,hz⟩;simp only[QWE,Xa,QWe,Qa,seval];rcases Xi L k with⟨y,hy,hlt⟩|hlt
 case inr=>
  rw[QVQ (by omega)]at hz;simp only[Qu hlt,hz,Qa,seval]
 have hg:=GF hy;have e1:=Qh k _ hlt (by simp only[maxLen];omega);have hT:=Zh (q:=fun y:Pq=>((y.w:Int)==a&&(y.r:Int)==b)&&(!y.hid||hd)) hy;rw[hz,QW1]at hT;have hyes:(((y.w:Int)==a&&(y.r:Int)==b)&&(!y.hid||hd))=true→(L.any fun y=>((y.w:Int)==a&&(y.r:Int)==b)&&(!y.hid||hd))=true:=fun h=>QWR.2 ⟨y,QVw hy,h⟩
 simp only[Qs hlt,Qd,QWH,Qb,hg,eE,seval];cases d1:((y.w:Int)==a)
 ·simp only[e1,cond_true,cond_false,Qa,seval];exact Ix.go (k+1) (by omega) ⟨by omega,by rw[hT,d1];rfl⟩
 cases d2:((y.r:Int)==b)
 ·simp only[Qd,QWH,Qb,d2,hg,e1,cond_true,cond_false,eE,seval];exact Ix.go (k+1) (by omega) ⟨by omega,by rw[hT,d1,d2];rfl⟩
 cases d3:y.hid
 ·rw[hyes (by rw[d1,d2,d3];rfl)];simp only[Qd,QWH,Qb,d2,d3,hg,QWl,cond_true,cond_false,eE,seval]
 cases hd
 ·simp only[Qd,QWH,Qb,d2,d3,hg,e1,QXf,QWZ,cond_true,cond_false,eE,seval];exact Ix.go (k+1) (by omega) ⟨by omega,by simpa [d1,d2,d3]using hT⟩
 ·rw[hyes (by rw[d1,d2,d3];rfl)];simp only[Qd,QWH,Qb,d2,d3,hg,QWs,QXg,QWZ,cond_true,cond_false,eE,seval]

def Ny:Option Nat→Ob
 |none=>.none
 |some g=>.vec g 1 []
theorem Al {P:Program}{Q:Exit→St→Prop}{f:Fr}{m:Qo}{ds:List DF}{slot site sz:Nat}{a:RC}{fr:Nat→Ob}(h1:f slot=.nils)(h3:Qr (fr site)=true)
  (h:QJ P a ⟨Qn f slot (.vec 0 site (JX (fr site)) 0 0 false),Qn fr site (.vec (JX (fr site)) sz []) :: m,ds⟩ Q):QJ P (.gho (.vec slot site sz) a) ⟨f,fr :: m,ds⟩ Q:=by
 refine⟨_,?_,h⟩;have e:Qr (Am.Qe (fr :: m) 0 site)=true:=h3;have e2:QD (fr :: m) 0 site=JX (fr site):=Y8;simp[Zx,h1,e,e2,Am.put]

section
variable (P R:PL)(hP:Own P)(hR:Own R)(uP:Ns P)(uR:Ns R)(eP:EnO P)(eR:EnO R)(lP:P.progs.length≤8)(lR:R.progs.length≤8)(fm:Int)(hf:Fm fm)
include hP hR uP uR eP eR lP lR hf

set_option maxHeartbeats 4000000 in
theorem u23 (a b:Nat)(ha:a<P.progs.length)(hb:b<R.progs.length):Qj Tryz.prog 23 [jv P R fm,.int .i64 (a:Nat),.int .i64 (b:Nat)] (.list ((Zs P R fm a b 128).map Pq.av)):=by
 have hok:=Ws (fm:=fm) hP hR ha hb;refine k23.fn (by simp) ?_;simp only[QC,eE,seval];refine Yq (l:=[.int .i64 (a:Nat),.int .i64 (b:Nat),.nils,.bool false]) (by rfl) rfl (by decide) rfl rfl rfl ?_;simp only[nn0,QVP,QWe,Qa,seval];refine QO (X:=Nat×List Pq×Nat×Option Nat) (fun s=>[(3,.ptr 0 3 0),(7,.vec 0 19 s.2.2.1 0 s.2.1.length false),(8,.int .i64 (s.1:Nat))]) (fun s=>[(3,.cells (jc P R fm)),(19,.vec s.2.2.1 4 (s.2.1.map Pq.av)),(15,Ny s.2.2.2)]) [12,11] (fun s=>129-s.1) (fun s=>s.1≤s.2.1.length∧s.2.1=Zs P R fm a b s.1) (fun _=>[]) (0,Zs P R fm a b 0,1,none) ⟨QVr _,rfl⟩ ?_ (ht:=by rintro⟨i,L,G,_|t⟩<;>rfl);rintro⟨i,L,G,t⟩ f fr ⟨hi,hL⟩;dsimp only at hi hL;have hQ:=(hok i).1;rw[←hL]at hQ;have hLl:=KG lP lR hQ;simp only[jc,Xa,QVP,QWe,QVD,QVE,eE,seval];rcases Xi L i with⟨y,hy,hlt⟩|hlt
 case inr=>
  have e:Zs P R fm a b 128=L:=by
   rw[hL];exact Hw (by rw[←hL];exact hlt) (by omega)
  rw[e];have ex:(L.map Pq.av).take L.length=L.map Pq.av:=QVQ (by simp);simp only[Qu hlt,QWE,ex,QVY,QVH,QVi,QWh,QWn,AV.un,eE,seval]
 have hym:=QVw hy;have hyw:=hQ.ltw y hym;have hyr:=hQ.ltr y hym;have hyp:=hQ.pth i y hy;obtain⟨g,hg⟩:∃g,P.progs[y.w]? = some g:=⟨P.progs[y.w],QVl hyw⟩;obtain⟨h,hh⟩:∃h,R.progs[y.r]? = some h:=⟨R.progs[y.r],QVl hyr⟩;have hgm:=QVw hg;have hhm:=QVw hh;have hgl:=hP.ops g hgm;have hwg:=KF P hg;have hgy:=GF hy;have e1:=Qh i _ hlt (by simp only[maxLen];omega);have hnx:Zs P R fm a b (i+1)=JT P R fm g h y L:=by
  show nxt P R fm _ i=_;rw[←hL];exact Nv hy hg hh
 have h0:JS P R fm g h y L 0=L:=by simp[JS]
 simp only[Qs hlt,Qd,QWH,Qb,hlt,hgy,hwg,QWh,QVH,eE,seval];refine QO (X:=Nat×List Pq×Nat×Option Nat) (fun s=>[(3,.ptr 0 3 0),(7,.vec 0 19 s.2.2.1 0 s.2.1.length false),(8,.int .i64 (i:Nat)),(9,.list (g.ops.map QB)),(10,.int .i64 (s.1:Nat))]) (fun s=>[(3,.cells (jc P R fm)),(19,.vec s.2.2.1 4 (s.2.1.map Pq.av)),(15,Ny s.2.2.2)]) [12,11] (fun s=>g.ops.length-s.1) (fun s=>s.1≤g.ops.length∧s.2.1=JS P R fm g h y L s.1∧PrQ P R s.2.1∧L <+: s.2.1) (fun _=>[]) (0,L,G,t) ⟨QVr _,h0.symm,hQ,QXp _⟩ ?_ (ht:=by rintro⟨i,L,G,_|t⟩<;>rfl);rintro⟨k,L',G',t'⟩ f fr ⟨hk,hL',hQ',hpre⟩;dsimp only at hk hL' hQ' hpre;have hLl':=KG lP lR hQ';have hlt':i<L'.length:=Nat.lt_of_lt_of_le hlt hpre.length_le;have hgy':=GF (QcP hpre hy);simp only[jc,QWE,Xa,QVP,QWe,QVD,QVE,Qa,seval];rcases Xi g.ops k with⟨x,hx,hlk⟩|hlk
 case inr=>
  have e:JT P R fm g h y L=L':=by
   rw[hL'];unfold JT JS;rw[QVQ (by omega)]
  simp only[Qu hlk,e1,Qa,seval];exact Ix.go (i+1,L',G',t') (by dsimp only;omega) ⟨by dsimp only;omega,by dsimp only;rw[hnx,e]⟩
 have hxm:=QVw hx;have hox:=hP.op g hgm x hxm;have hgx:=Dm hx;have ek:=Qh k _ hlk (by simp only[maxLen];omega);have c1:=V3 P R fm hR y.r h hh x;have c2:=u42 P R fm g x hox;have hsu:=Hx (P:=P) (R:=R) (fm:=fm) (h:=h) (p:=y) (L:=L) hx;rw[←hL']at hsu;have hQs:=Nu hP hR hgm hhm (fm:=fm) (p:=y) hxm hQ' (by omega);have hps:=V5 (P:=P) (R:=R) (fm:=fm) (g:=g) (h:=h) (p:=y) L' x;have hpr':L <+: Jt P R fm g h y L' x:=hpre.trans hps;have stay:Jt P R fm g h y L' x=L'→k+1≤g.ops.length∧L'=JS P R fm g h y L (k+1)∧PrQ P R L'∧L <+: L':=fun e=>⟨by omega,by rw[hsu,e],hQ',hpre⟩
 simp only[QC,Qx,oq]at c1 c2;simp only[Qs hlk,Qd,QWH,Qb,hgx,hlt',hgy',QWh,QVH,eE,seval];refine aC c1 ?_;cases hq:mq fm h x with
 |none=>
  simp only[QWP,QV5,JK,ek,QWs,QWl,cond_true,cond_false,eE,seval];exact Ix.go (k+1,L',G',t') (by dsimp only;omega) (stay (by unfold Jt;rw[hq]))
 |some q=>
  have hqm:=KT hq;have hoq:=hR.op h hhm q hqm;have hs1:Jt P R fm g h y L' x=(if Kf P x=true∧x.kind=10∧q.kind=10∧YS fm x q=false then
   (if Hu L' x.target q.target (y.hid||WJ P R fm g h x q)=true then L' else L'++[⟨x.target.toNat,q.target.toNat,y.path++[x.num],y.hid||WJ P R fm g h x q⟩])else L'):=by unfold Jt;rw[hq]
  have c3:=u43 P R fm x q;have c4:=u44 P R hP hR uP uR eP eR fm hf y.w y.r g h hg hh x q hqm;simp only[QC,Qx]at c3 c4;simp only[QWo,QW4,QWs,QWZ,cond_true,cond_false,eE,seval];refine aC c2 ?_;cases hb:Kf P x
  ·simp only[ek,QWl,cond_true,cond_false,Qa,seval];exact Ix.go (k+1,L',G',t') (by dsimp only;omega) (stay (by rw[hs1,QVp (by rw[hb];simp)]))
  by_cases h10:x.kind=10
  case neg=>
   have d:(x.kind != 10)=true:=by simp[h10]
   simp only[d,ek,QWZ,cond_true,cond_false,eE,seval];exact Ix.go (k+1,L',G',t') (by dsimp only;omega) (stay (by rw[hs1,QVp (fun h=>h10 h.2.1)]))
  have d:(x.kind != 10)=false:=by simp[h10]
  by_cases q10:q.kind=10
  case neg=>
   have d':(q.kind != 10)=true:=by simp[q10]
   simp only[d,d',ek,QWZ,cond_true,cond_false,eE,seval];exact Ix.go (k+1,L',G',t') (by dsimp only;omega) (stay (by rw[hs1,QVp (fun h=>q10 h.2.2.1)]))
  have d':(q.kind != 10)=false:=by simp[q10]
  simp only[d,d',QWZ,cond_true,cond_false,eE,seval];refine aC c3 ?_;cases hc:YS fm x q
  case true=>
   simp only[ek,cond_true,cond_false,Qa,seval];exact Ix.go (k+1,L',G',t') (by dsimp only;omega) (stay (by rw[hs1,QVp (fun h=>by rw[hc]at h;cases h.2.2.2)]))
  rw[QVq ⟨hb,h10,q10,hc⟩]at hs1;obtain⟨jx,gx,hjx,htx⟩:=hox.tgP h10;obtain⟨jq,gq,hjq,htq⟩:=hoq.tgP q10;have etx:((x.target.toNat:Nat):Int)=x.target:=by rw[htx];rfl
  have etq:((q.target.toNat:Nat):Int)=q.target:=by rw[htq];rfl
  obtain⟨hd,ehd⟩:∃hd,(y.hid||WJ P R fm g h x q)=hd:=⟨_,rfl⟩;rw[ehd]at hs1;have cf:=u45 L' (by omega) x.target q.target hd;simp only[Qd,QWH,Qb,hlt',hgy',QWh,QVH,cond_true,cond_false,eE,seval];cases hhd:y.hid
  case' true=>
   rw[hhd,QW0]at ehd;subst ehd;simp only[cond_true,cond_false,eE,seval]
  case' false=>
   rw[hhd,QW1]at ehd;rw[ehd]at c4;simp only[Qd,QWH,Qb,hlt',hgy',QWh,QVH,cond_true,cond_false,eE,seval];refine aC c4 ?_;simp only[cond_true,cond_false,eE,seval]
  all_goals
   rw[hhd]at hgy';refine Xe cf ?_ rfl rfl (.inr rfl) ?_
   ·have ex:(L'.map Pq.av).take L'.length=L'.map Pq.av:=QVQ (by simp);simp only[QVP,QWe,AV.stillL,AV.still,Am.Qe,QWE,ex,QVY,QVH,QVi,QWh,QWL,QVB,Qa,seval]<;>rfl
   cases hfq:Hu L' x.target q.target _
   case true=>
    rw[hfq,QVq rfl]at hs1;simp only[ek,cond_true,cond_false,Qa,seval];exact Ix.go (k+1,L',G',t') (by dsimp only;omega) (stay hs1)
   rw[hfq,QVp (by simp)]at hs1;simp only[cond_true,cond_false,Qa,seval];have hro:Qr (Ny t')=true:=by cases t'<;>rfl
   refine Al rfl hro ?_;have hng:∃gn,JX (Ny t')=gn:=⟨_,rfl⟩;obtain⟨gn,hng⟩:=hng;simp only[hng,Qd,QWH,Qb,hlt',hgy',QWh,QVH,eE,seval];refine QI (site:=15) (g:=gn) (n:=0) (xs:=[]) (ys:=y.path.map iw) (by rfl) (by rfl) rfl rfl (by rfl) (Nx _) (by simp only[QWE,maxLen];omega) (by simp only[QWE];omega) ?_;simp only[QWE,QVH,eE,seval];refine Dx (by rfl) ?_;refine DC (site:=15) (xs:=y.path.map iw) (ys:=[.int .i64 x.num]) (by rfl) (by rfl) rfl (by simp) (by rfl) rfl (by simp only[QVx,QWp,maxLen];omega) (by simp only[QVx,QWp];omega) ?_;simp only[eE,seval];refine QM rfl rfl (by decide) rfl rfl ?_;simp only[nn0,QVP,QWe,seval];refine QI (site:=19) (xs:=L'.map Pq.av) (by rfl) (by rfl) rfl (by simp) (by rfl) rfl (by simp only[QVx,QWp,maxLen];omega) (by simp only[QVx,QWp];omega) ?_;simp only[ek,Qa,seval];exact Ix.go (k+1,Jt P R fm g h y L' x,G'+1,some (gn+1+1+1)) (by dsimp only;omega) ⟨by dsimp only;omega,hsu.symm,hQs,hpr'⟩ (hf:=by simp only[Ag,hs1,QVP,QWe,QVU,QVx,QWp];rfl) (ho:=by simp only[Ag,Ny,hs1,Pq.av,etx,etq,iw,QWS,QVP,QWe];rfl)
end

theorem QKe (a b c:Bool):(a=false∧True∧True∧(a&&c&&b)=false)∨(a=true∧b=false∧True∧(a&&c&&b)=false)∨(a=true∧b=true∧c=false∧(a&&c&&b)=false)∨(a=true∧b=true∧c=true∧(a&&c&&b)=true):=by
 cases a<;>cases b<;>cases c<;>simp
theorem QKf (a b:Bool):(a=false∧True∧(a&&b)=false)∨(a=true∧b=false∧(a&&b)=false)∨(a=true∧b=true∧(a&&b)=true):=by
 cases a<;>cases b<;>simp

section
variable (P R:PL)(hP:Own P)(hR:Own R)(uP:Ns P)(uR:Ns R)(eP:EnO P)(eR:EnO R)(fm:Int)(hf:Fm fm)
include hP hR uP uR eP eR hf

set_option maxHeartbeats 4000000 in
theorem u24 (p:Pq)(g h:PG)(hg:P.progs[p.w]? = some g)(hh:R.progs[p.r]? = some h):Qj Tryz.prog 24 [jv P R fm,p.av] (.list ((Wr P R fm g h p).map Xd)):=by
 have hgm:=QVw hg;have hhm:=QVw hh;have hgl:=hP.ops g hgm;have hhl:=hR.ops h hhm;have hop:=hP.op g hgm;have hoq:=hR.op h hhm;have hgp:=KF P hg;have hhp:=KF R hh;have hN:=UL P R fm g h p;refine k24.fn (by simp) ?_;simp only[QC,DZ,eE,seval];refine Zv rfl rfl ?_;simp only[Qd,QWH,Qb,hgp,hhp,eE,seval]
 let PC:List AV:=[.int .i64 (p.w:Nat),.int .i64 (p.r:Nat),.list (p.path.map iw),.bool p.hid]
 refine QO (X:=Nat×List FD) (fun s=>[(2,.ptr 0 2 0),(3,.ptr 0 3 0),(5,.vec 0 5 (1+s.2.length) 0 s.2.length false),(6,.str h.name),(7,.list (g.ops.map QB)),(8,.int .i64 (s.1:Nat))]) (fun s=>[(2,.cells (jc P R fm)),(3,.cells PC),(5,.vec (1+s.2.length) 4 (s.2.map Xd)),(16,.none)]) [13,10,9] (fun s=>g.ops.length-s.1) (fun s=>s.1≤g.ops.length∧s.2=Uw P R fm g h p s.1) (fun _=>[]) (0,[]) ⟨QVr _,rfl⟩ ?_;rintro⟨k,l⟩ f fr ⟨hk,hl⟩;dsimp only at hk hl;have hll:l.length≤192:=by
  have:=hN k;rw[hl];omega
 simp only[PC,jc,QWE,Xa,QVP,QWe,QVD,QVE,Qa,seval];rcases Xi g.ops k with⟨x,hx,hlt⟩|hlt
 case inl=>
  have hxm:=QVw hx;have hox:=hop x hxm;have hgx:=Dm hx;have e1:=Qh k _ hlt (by simp only[maxLen];omega);have c1:=u42 P R fm g x hox;have c2:=V3 P R fm hR p.r h hh x;have hT:=Ht P R fm g h p k;rw[←hl]at hT;have hW:GB P R fm g h p k=(if Kf P x=true then(match mq fm h x with
   |none=>Xu h p (fm==4) x.num 8
   |some q=>Xu h p (KZ P R fm x q != 0) x.num (KZ P R fm x q)++(Xu h p (WH P fm h (g.ops.take k) x q) x.num 9++Xu h p (WI P fm h (g.ops.take k) x q) x.num 15))else []):=by unfold GB;rw[hx]<;>rfl
  simp only[QC,Qx,oq]at c1 c2;simp only[Qs hlt,Qd,QWH,Qb,hgx,eE,seval];refine aC c1 ?_;cases hb:Kf P x
  ·rw[hb,QVp (by simp)]at hW;simp only[e1,QWl,cond_true,cond_false,Qa,seval];exact Ix.go (k+1,l) (by dsimp only;omega) ⟨by dsimp only;omega,by dsimp only;rw[hT,hW,QWg]⟩
  rw[hb,QVq rfl]at hW;simp only[QWZ,cond_true,cond_false,eE,seval];refine aC c2 ?_;cases hq:mq fm h x with
  |none=>
   rw[hq]at hW;dsimp only at hW;cases f4:(fm==4)
   ·rw[f4]at hW;simp only[QWP,QV5,JK,f4,e1,QWs,QWl,cond_true,cond_false,eE,seval];exact Ix.go (k+1,l) (by dsimp only;omega) ⟨by dsimp only;omega,by dsimp only;rw[hT,hW];simp[Xu]⟩
   ·rw[f4]at hW;simp only[QWP,QV5,JK,f4,QWs,QWl,cond_true,cond_false,eE,seval];refine QM rfl rfl (by decide) rfl rfl ?_;simp only[nn0,QVP,QWe,seval];refine QI (xs:=l.map Xd) (by rfl) (by rfl) rfl (by simp) (by rfl) rfl (by simp only[QVx,QWp,maxLen];omega) (by simp only[QVx,QWp];omega) ?_;simp only[e1,Qa,seval];exact Ix.go (k+1,l++[⟨h.name,x.num,8,p.path⟩]) (by dsimp only;omega) ⟨by dsimp only;omega,by dsimp only;rw[hT,hW];simp[Xu]⟩ (hf:=by simp only[Ag,QVU,QVx,QWp];rfl) (ho:=by simp only[Ag,QWS,QVP,QWe,QVU,QVx,QWp];rfl)
  |some y=>
   rw[hq]at hW;dsimp only at hW;have hym:=KT hq;have c3:=u46 P R hP hR eP eR fm hf g h x y hox (hoq y hym);have c4:=u47 P R hP hR uP uR eP eR fm hf p.w p.r g h hg hh k x y hx false;have c5:=u47 P R hP hR uP uR eP eR fm hf p.w p.r g h hg hh k x y hx true;have r4:=QzX P R hP hR uP uR eP eR fm hf p.w p.r g h hg hh y x k;have r5:=QzY P R hP hR uP uR eP eR fm hf p.w p.r g h hg hh y x hym k;simp only[QC,Qx,oq,r4,r5]at c3 c4 c5;have fin:∀(l':List FD) (f':Fr) (fr':Nat→Ob),l'=l++(Xu h p (KZ P R fm x y != 0) x.num (KZ P R fm x y)++(Xu h p (WH P fm h (g.ops.take k) x y) x.num 9++Xu h p (WI P fm h (g.ops.take k) x y) x.num 15))→l'=Uw P R fm g h p (k+1):=fun l' _ _ e=>by rw[e,hT,hW]
   clear hW hT r4 r5;have h4:=QKe (fm==4) ((g.ops.take k).any (Gy P fm h x y)) (y.card != 4);have h5:=QKf (fm != 1) ((g.ops.take k).any (Gz P fm h x y));rw[show(fm==4&&y.card != 4&&(g.ops.take k).any (Gy P fm h x y))=WH P fm h (g.ops.take k) x y from rfl]at h4;rw[show(fm != 1&&(g.ops.take k).any (Gz P fm h x y))=WI P fm h (g.ops.take k) x y from rfl]at h5;generalize WH P fm h (g.ops.take k) x y=et at *;generalize WI P fm h (g.ops.take k) x y=eu at *;generalize (g.ops.take k).any (Gy P fm h x y)=b1 at *;generalize (g.ops.take k).any (Gz P fm h x y)=b2 at *;generalize KZ P R fm x y=ef at *;simp only[QWo,QW4,QWs,QWZ,cond_true,cond_false,eE,seval];refine aC c3 ?_;cases d1:(ef != 0)<;>simp only[d1,QWs,cond_true,cond_false,eE,seval]
   all_goals
    try(refine QM rfl rfl (by decide) rfl rfl ?_;simp only[nn0,QVP,QWe,seval];refine QI (xs:=l.map Xd) (by rfl) (by rfl) rfl (by simp) (by rfl) rfl (by simp only[QVx,QWp,maxLen];omega) (by simp only[QVx,QWp];omega) ?_;simp only[eE,seval])
    refine aC c4 ?_;rcases h4 with⟨f4,x1,d4,et0⟩|⟨f4,x1,d4,et0⟩|⟨f4,x1,d4,et0⟩|⟨f4,x1,d4,et0⟩
   all_goals
    subst et0;simp only[f4,x1,d4,QWs,cond_true,cond_false,eE,seval]
    try(refine QM rfl rfl (by decide) rfl rfl ?_;simp only[nn0,QVP,QWe,seval];refine QI (by rfl) (by rfl) rfl (by simp) (by rfl) rfl (by simp[maxLen];omega) (by simp;omega) ?_;simp only[eE,seval])
    refine aC c5 ?_;rcases h5 with⟨f1,x2,eu0⟩|⟨f1,x2,eu0⟩|⟨f1,x2,eu0⟩
   all_goals
    subst eu0;simp only[f1,x2,QWs,cond_true,cond_false,eE,seval]
    try(refine QM rfl rfl (by decide) rfl rfl ?_;simp only[nn0,QVP,QWe,seval];refine QI (by rfl) (by rfl) rfl (by simp) (by rfl) rfl (by simp[maxLen];omega) (by simp;omega) ?_)
    simp only[e1,Qa,seval]
    first
     |exact Ix.go (k+1,l) (by dsimp only;omega) ⟨by dsimp only;omega,fin _ f fr (by rw[d1];simp[Xu])⟩
     |exact Ix.go (k+1,l++[⟨h.name,x.num,15,p.path⟩]) (by dsimp only;omega) ⟨by dsimp only;omega,fin _ f fr (by rw[d1];simp[Xu])⟩ (hf:=by simp only[Ag,QVU,QVx,QWp];rfl) (ho:=by simp only[Ag,QWS,QVP,QWe,QVU,QVx,QWp];rfl)
     |exact Ix.go (k+1,l++[⟨h.name,x.num,9,p.path⟩]) (by dsimp only;omega) ⟨by dsimp only;omega,fin _ f fr (by rw[d1];simp[Xu])⟩ (hf:=by simp only[Ag,QVU,QVx,QWp];rfl) (ho:=by simp only[Ag,QWS,QVP,QWe,QVU,QVx,QWp];rfl)
     |exact Ix.go (k+1,l++[⟨h.name,x.num,9,p.path⟩]++[⟨h.name,x.num,15,p.path⟩]) (by dsimp only;omega) ⟨by dsimp only;omega,fin _ f fr (by rw[d1];simp[Xu])⟩ (hf:=by simp only[Ag,QVU,QVx,QWp];rfl) (ho:=by simp only[Ag,QWS,QVP,QWe,QVU,QVx,QWp];rfl)
     |exact Ix.go (k+1,l++[⟨h.name,x.num,ef,p.path⟩]) (by dsimp only;omega) ⟨by dsimp only;omega,fin _ f fr (by rw[d1];simp[Xu])⟩ (hf:=by simp only[Ag,QVU,QVx,QWp];rfl) (ho:=by simp only[Ag,QWS,QVP,QWe,QVU,QVx,QWp];rfl)
     |exact Ix.go (k+1,l++[⟨h.name,x.num,ef,p.path⟩]++[⟨h.name,x.num,15,p.path⟩]) (by dsimp only;omega) ⟨by dsimp only;omega,fin _ f fr (by rw[d1];simp[Xu])⟩ (hf:=by simp only[Ag,QVU,QVx,QWp];rfl) (ho:=by simp only[Ag,QWS,QVP,QWe,QVU,QVx,QWp];rfl)
     |exact Ix.go (k+1,l++[⟨h.name,x.num,ef,p.path⟩]++[⟨h.name,x.num,9,p.path⟩]) (by dsimp only;omega) ⟨by dsimp only;omega,fin _ f fr (by rw[d1];simp[Xu])⟩ (hf:=by simp only[Ag,QVU,QVx,QWp];rfl) (ho:=by simp only[Ag,QWS,QVP,QWe,QVU,QVx,QWp];rfl)
     |exact Ix.go (k+1,l++[⟨h.name,x.num,ef,p.path⟩]++[⟨h.name,x.num,9,p.path⟩]++[⟨h.name,x.num,15,p.path⟩]) (by dsimp only;omega) ⟨by dsimp only;omega,fin _ f fr (by rw[d1];simp[Xu])⟩ (hf:=by simp only[Ag,QVU,QVx,QWp];rfl) (ho:=by simp only[Ag,QWS,QVP,QWe,QVU,QVx,QWp];rfl)
 have ek:k=g.ops.length:=by omega
 subst ek;simp only[Qu hlt,Qa,seval];clear hlt hk;refine QO (X:=Nat×List FD) (fun s=>[(2,.ptr 0 2 0),(3,.ptr 0 3 0),(5,.vec 0 5 (1+s.2.length) 0 s.2.length false),(6,.str h.name),(15,.int .i64 (s.1:Nat))]) (fun s=>[(2,.cells (jc P R fm)),(3,.cells PC),(5,.vec (1+s.2.length) 4 (s.2.map Xd))]) [16] (fun s=>h.ops.length-s.1) (fun s=>s.1≤h.ops.length∧s.2=l++(h.ops.take s.1).flatMap (Js P R fm g h p)∧s.2.length≤192+s.1) (fun _=>[]) (0,l) ⟨QVr _,by simp,hll⟩ ?_;rintro⟨k,l2⟩ f fr ⟨hk,hl2,hll2⟩;dsimp only at hk hl2 hll2;simp only[PC,jc,Qd,QWH,Qb,hhp,QWE,Xa,QVP,QWe,QVD,QVE,eE,seval];rcases Xi h.ops k with⟨x,hx,hlt⟩|hlt
 case inr=>
  have e:Wr P R fm g h p=l2:=by
   unfold Wr;rw[←hl,hl2,QVQ (by omega)]
  rw[e];have ex:(l2.map Xd).take l2.length=l2.map Xd:=QVQ (by simp);simp only[Qu hlt,QWE,ex,QVY,QVH,QVi,QWh,QWn,AV.un,eE,seval]
 have hxm:=QVw hx;have hgx:=Dm hx;have e1:=Qh k _ hlt (by simp only[maxLen];omega);have hT:(h.ops.take (k+1)).flatMap (Js P R fm g h p)=(h.ops.take k).flatMap (Js P R fm g h p)++Js P R fm g h p x:=by rw[QWT,hx,QXn];simp
 have c5:=u48 P R hP hR uP uR eP eR fm hf p.w p.r g h hg hh x hxm;simp only[QC,Qx]at c5;simp only[Qs hlt,Qd,QWH,Qb,hhp,hgx,eE,seval];have stay:Js P R fm g h p x=[]→l++(h.ops.take (k+1)).flatMap (Js P R fm g h p)=l2:=fun e=>by rw[hT,e,QWg,←hl2]
 cases hcd:(x.card==1)
 case false=>
  simp only[e1,cond_true,cond_false,Qa,seval];exact Ix.go (k+1,l2) (by dsimp only;omega) ⟨by dsimp only;omega,(stay (by unfold Js;rw[hcd];simp[Xu])).symm,by dsimp only;omega⟩
 cases hh':p.hid
 case true=>
  simp only[e1,QWZ,cond_true,cond_false,eE,seval];exact Ix.go (k+1,l2) (by dsimp only;omega) ⟨by dsimp only;omega,(stay (by unfold Js;rw[hh'];rfl)).symm,by dsimp only;omega⟩ (ho:=by simp only;rfl)
 simp only[QWl,cond_true,cond_false,eE,seval];refine aC c5 ?_;cases hgv:GA P R fm g h x
 ·simp only[QWs,QWl,cond_true,cond_false,eE,seval];refine QM rfl rfl (by decide) rfl rfl ?_;simp only[nn0,QVP,QWe,seval];refine QI (xs:=l2.map Xd) (by rfl) (by rfl) rfl (by simp) (by rfl) rfl (by simp only[QVx,QWp,maxLen];omega) (by simp only[QVx,QWp];omega) ?_;simp only[e1,Qa,seval];exact Ix.go (k+1,l2++[⟨h.name,x.num,14,p.path⟩]) (by dsimp only;omega) ⟨by dsimp only;omega,by dsimp only;rw[hT,hl2,QVC];congr 1;unfold Js;rw[hh',hcd,hgv];rfl,by dsimp only;rw[QVU];simp;omega⟩ (hf:=by simp only[Ag,QVU,QVx,QWp];rfl) (ho:=by simp only[Ag,QWS,QVP,QWe,QVU,QVx,QWp];rfl)
 ·simp only[e1,QWZ,cond_true,cond_false,Qa,seval];exact Ix.go (k+1,l2) (by dsimp only;omega) ⟨by dsimp only;omega,(stay (by unfold Js;rw[hh',hcd,hgv];rfl)).symm,by dsimp only;omega⟩ (ho:=by simp only;rfl)
end

def K2 (fm:Int):Bool:=fm==1||fm==2||fm==4
theorem Dn {fm:Int}(h:K2 fm=true):Fm fm:=by
 unfold K2 at h;simp only[QWc,QVG]at h;rcases h with(h|h)|h
 ·exact .inl h
 ·exact .inr (.inl h)
 ·exact .inr (.inr h)
def Xv (P:PL)(s:List UInt8):Int:=QW (fun g:PG=>g.name==s) P.progs 0
def Wt (s:List UInt8)(e:Int):FD:=⟨s,-1,e,[]⟩
def Z6 (P R:PL)(s:List UInt8)(fm:Int):List FD:=if K2 fm=false then [Wt s 1]else if Xv P s<0∨Xv R s<0 then [Wt s 10]else WU P R fm (Xv P s).toNat (Xv R s).toNat
def V8 (l:List FD):AV:=.tup [Xd (l.head?.getD ⟨[],0,0,[]⟩),.bool l.head?.isSome]
theorem V9 (P:PL)(s:List UInt8):VI s P.progs=.tup [.int .i64 (if Xv P s<0 then 0 else Xv P s),.bool (decide (Xv P s≥0))]:=rfl
theorem JU {P:PL}{s:List UInt8}(h:¬Xv P s<0):∃a:Nat,Xv P s=(a:Int)∧a<P.progs.length:=by
 unfold Xv at *;rcases Xn (fun g:PG=>g.name==s) P.progs 0 with⟨e,_⟩|⟨k,o,e,ho,_⟩
 ·omega
 ·exact⟨k,by rw[e];omega,(QVk.1 ho).1⟩
theorem Qz1 (P:PL):P.av=.agg [.list (P.progs.map Xk),.list (P.enums.map Z2)]:=rfl

theorem w27 (fm:Int):Qj Tryz.prog 27 [.int .i64 fm] (.bool (K2 fm)):=by
 unfold K2;refine k27.fn (by simp) ?_;simp only[Qa,seval];cases h1:(fm==1)
 ·cases h2:(fm==2)<;>simp only[h2,QW0,QW1,QXg,QXf,cond_true,cond_false,Qa,seval]
 ·simp only[QW0,cond_true,cond_false,Qa,seval]

section
variable {M:Nat}(hM:M≤1048576)(S T:SC)(hS:S.ok M)(hT:T.ok M)(S8:S.msgs.length≤8∧S.enums.length≤8∧S.servs.length≤8)(T8:T.msgs.length≤8∧T.enums.length≤8∧T.servs.length≤8)(vS:XR S=true)(vT:XR T=true)(s:List UInt8)(fm:Int)
include hM hS hT S8 T8 vS vT

theorem w18 (F:Nat→Ob)(hF:F 1000=.none):Qp Tryz.prog 18 [S.av,T.av,.str s,.int .i64 fm] [F] fun y m1=>
  (K2 fm=false∧y=.tup [.agg [.list [],.list [],.list [],.list [],.int .i64 0],.agg [.int .i64 0,.int .i64 0,.list [],.bool false],.list [Xd (Wt s 1)]]∧m1=[F])∨
  (K2 fm=true∧(Xv (QE S) s<0∨Xv (QE T) s<0)∧y=.tup [.agg [.list [],.list [],.list [],.list [],.int .i64 0],.agg [.int .i64 0,.int .i64 0,.list [],.bool false],.list [Xd (Wt s 10)]]∧m1=[F])∨
  (K2 fm=true∧¬(Xv (QE S) s<0∨Xv (QE T) s<0)∧y=.tup [jv (QE S) (QE T) fm,.agg [.int .i64 (Xv (QE S) s),.int .i64 (Xv (QE T) s),.list [],.bool false],.vec 0 1000 1 0 0 false]∧m1=[Qn F 1000 (.vec 1 4 [])]):=by
 have ck:=w27 fm;have mS:=s28 hM S hS S8;have mT:=s28 hM T hT T8;rw[DV,QVq vS]at mS;rw[DV,QVq vT]at mT;have fS:=y29 (QE S) (by have:=S8.1;unfold QE;simp only[QWE,maxLen];omega) s;have fT:=y29 (QE T) (by have:=T8.1;unfold QE;simp only[QWE,maxLen];omega) s;rw[V9]at fS fT;rw[Qz1]at mS mT fS fT;simp only[SC.av]at mS mT;refine k18.go (by simp) ?_;simp only[SC.av,eE,seval];refine aC ck ?_;cases hk:K2 fm
 ·simp only[QWs,QWl,cond_true,cond_false,eE,seval];refine QM rfl rfl (by decide) rfl rfl ?_;simp only[nn0,QVP,QWe,eE,seval];exact .inl rfl
 simp only[QWs,QWZ,cond_true,cond_false,eE,seval];refine aC mS ?_;simp only[eE,seval];refine aC mT ?_;simp only[eE,seval];refine aC fS ?_;simp only[eE,seval];refine aC fT ?_;by_cases h1:Xv (QE S) s<0
 ·have d1:decide (Xv (QE S) s≥0)=false:=QW3 (by omega);simp only[d1,QWs,QWl,cond_true,cond_false,eE,seval];refine QM rfl rfl (by decide) rfl rfl ?_;simp only[nn0,QVP,QWe,eE,seval];exact .inr (.inl ⟨.inl h1,rfl⟩)
 by_cases h2:Xv (QE T) s<0
 ·have d1:decide (Xv (QE S) s≥0)=true:=QXb (by omega);have d2:decide (Xv (QE T) s≥0)=false:=QW3 (by omega);simp only[d1,d2,QWs,QWZ,QWl,cond_true,cond_false,eE,seval];refine QM rfl rfl (by decide) rfl rfl ?_;simp only[nn0,QVP,QWe,eE,seval];exact .inr (.inl ⟨.inr h2,rfl⟩)
 have d1:decide (Xv (QE S) s≥0)=true:=QXb (by omega);have d2:decide (Xv (QE T) s≥0)=true:=QXb (by omega);simp only[d1,d2,h1,h2,QWs,QWZ,cond_true,cond_false,eE,seval];refine Zv rfl rfl ?_;refine Tu (fr:=_) rfl rfl (by simp) (by decide) (by simp only[Am.Qe,hF];rfl) ?_;have hng:QD [F] 0 1000=1:=by rw[Y8,hF];rfl
 simp only[hng,eE,seval];exact .inr (.inr ⟨fun e=>e.elim id id,rfl⟩)
theorem Qz3 (hk:K2 fm=false)(F:Nat→Ob)(hF:F 1000=.none):Qp Tryz.prog 18 [S.av,T.av,.str s,.int .i64 fm] [F] fun y m1=>y=.tup [.agg [.list [],.list [],.list [],.list [],.int .i64 0],.agg [.int .i64 0,.int .i64 0,.list [],.bool false],.list [Xd (Wt s 1)]]∧m1=[F]:=by
 refine(w18 hM S T hS hT S8 T8 vS vT s fm F hF).mono fun y m1 h=>?_
 rcases h with h|h|h
 ·exact h.2
 ·rw[hk]at h;cases h.1
 ·rw[hk]at h;cases h.1
theorem Qz4 (hk:K2 fm=true)(hx:Xv (QE S) s<0∨Xv (QE T) s<0)(F:Nat→Ob)(hF:F 1000=.none):Qp Tryz.prog 18 [S.av,T.av,.str s,.int .i64 fm] [F] fun y m1=>y=.tup [.agg [.list [],.list [],.list [],.list [],.int .i64 0],.agg [.int .i64 0,.int .i64 0,.list [],.bool false],.list [Xd (Wt s 10)]]∧m1=[F]:=by
 refine(w18 hM S T hS hT S8 T8 vS vT s fm F hF).mono fun y m1 h=>?_
 rcases h with h|h|h
 ·rw[hk]at h;cases h.1
 ·exact h.2.2
 ·exact absurd hx h.2.1
theorem Qz5 (hk:K2 fm=true)(hx:¬(Xv (QE S) s<0∨Xv (QE T) s<0))(F:Nat→Ob)(hF:F 1000=.none):Qp Tryz.prog 18 [S.av,T.av,.str s,.int .i64 fm] [F] fun y m1=>y=.tup [jv (QE S) (QE T) fm,.agg [.int .i64 (Xv (QE S) s),.int .i64 (Xv (QE T) s),.list [],.bool false],.vec 0 1000 1 0 0 false]∧m1=[Qn F 1000 (.vec 1 4 [])]:=by
 refine(w18 hM S T hS hT S8 T8 vS vT s fm F hF).mono fun y m1 h=>?_
 rcases h with h|h|h
 ·rw[hk]at h;cases h.1
 ·exact absurd h.2.1 hx
 ·exact h.2.2

set_option maxHeartbeats 2000000 in
theorem w10:Qj Tryz.prog 10 [S.av,T.av,.str s,.int .i64 fm] (.list ((Z6 (QE S) (QE T) s fm).map Xd)):=by
 have l8P:(QE S).progs.length≤8:=by have:=S8.1;unfold QE;simp only[QWE];omega
 have l8R:(QE T).progs.length≤8:=by have:=T8.1;unfold QE;simp only[QWE];omega
 have hP:=ZF (ZL vS);have hR:=ZF (ZL vT);have b1:=Qz3 hM S T hS hT S8 T8 vS vT s fm;have b2:=Qz4 hM S T hS hT S8 T8 vS vT s fm;have b3:=Qz5 hM S T hS hT S8 T8 vS vT s fm;generalize QE S=P at *;generalize QE T=R at *;simp only[SC.av,QC,JF,Wt,QWe]at b1 b2 b3;refine DL.fn (by simp) ?_;unfold Z6;cases hk:K2 fm
 case false=>
  rw[QVq rfl];simp only[SC.av,eE,seval];refine Qc (b1 hk _ rfl) (by simp only[QVP,QWe,Qa,seval]<;>rfl) ?_;simp only[seval,JF,Wt,QWe,QVP,eE]
 rw[QVp (by simp)];by_cases hx:Xv P s<0∨Xv R s<0
 case pos=>
  rw[QVq hx];simp only[SC.av,eE,seval];refine Qc (b2 hk hx _ rfl) (by simp only[QVP,QWe,Qa,seval]<;>rfl) ?_;simp only[seval,JF,Wt,QWe,QVP,eE]
 rw[QVp hx];have b3:=b3 hk hx;have hf:=Dn hk;obtain⟨a,ea,ha⟩:=JU (P:=P) (s:=s) (by omega);obtain⟨b,eb,hb⟩:=JU (P:=R) (s:=s) (by omega);rw[ea,eb]at b3;rw[ea,eb,QWH,QWH];have hok:=Ws (fm:=fm) hP hR ha hb;simp only[SC.av,eE,seval];refine Qc (b3 _ rfl) (by simp only[QVP,QWe,Qa,seval]<;>rfl) ?_;simp only[seval,eE];refine Yq (l:=[.int .i64 (a:Nat),.int .i64 (b:Nat),.list [],.bool false]) (by rfl) rfl (by decide) rfl rfl rfl ?_;simp only[nn0,QVP,QWe,Qa,seval];refine QO (X:=Nat×List Pq×Nat×List FD) (fun s=>[(9,.ptr 0 9 0),(11,.vec 0 1000 (1+s.1) 0 s.2.2.2.length false),(12,.vec 0 28 s.2.2.1 0 s.2.1.length false),(13,.int .i64 (s.1:Nat))]) (fun s=>[(9,.cells (jc P R fm)),(28,.vec s.2.2.1 4 (s.2.1.map Pq.av)),(1000,.vec (1+s.1) 4 (s.2.2.2.map Xd))]) [] (fun s=>129-s.1) (fun s=>s.1≤s.2.1.length∧s.2.1=Zs P R fm a b s.1∧s.2.2.2=(s.2.1.take s.1).flatMap (K1 P R fm)) (fun _=>[]) (0,Zs P R fm a b 0,1,[]) ⟨QVr _,rfl,rfl⟩ ?_;rintro⟨i,L,G,l⟩ f fr ⟨hi,hL,hl⟩;dsimp only at hi hL hl;have hQ:=(hok i).1;rw[←hL]at hQ;have hLl:=KG l8P l8R hQ;have hll:l.length≤32768:=by
  have:=YE (fm:=fm) hP hR (L.take i);rw[←hl,QV8]at this;omega
 simp only[jc,Xa,QWe,eE,seval];rcases Xi L i with⟨y,hy,hlt⟩|hlt
 case inr=>
  have e:WU P R fm a b=l:=by
   unfold WU;rw[hl,QVQ (by omega),hL,Hw (by rw[←hL];exact hlt) (by omega)]
  rw[e];have ex:(l.map Xd).take l.length=l.map Xd:=QVQ (by simp);simp only[Qu hlt,QWE,ex,QVY,QVH,QVi,QWh,QWn,AV.un,eE,seval]
 have hym:=QVw hy;have hyp:=hQ.pth i y hy;have hyw:=hQ.ltw y hym;have hyr:=hQ.ltr y hym;obtain⟨g,hg⟩:∃g,P.progs[y.w]? = some g:=⟨P.progs[y.w],QVl hyw⟩;obtain⟨h,hh⟩:∃h,R.progs[y.r]? = some h:=⟨R.progs[y.r],QVl hyr⟩;have hgy:(L.map Pq.av)[i]? = some (.agg [.int .i64 (y.w:Nat),.int .i64 (y.r:Nat),.list (y.path.map iw),.bool y.hid]):=by rw[QWB,hy];rfl
 have e1:=Qh i _ hlt (by simp only[maxLen];omega);have hnx:Zs P R fm a b (i+1)=JT P R fm g h y L:=by
  show nxt P R fm _ i=_;rw[←hL];exact Nv hy hg hh
 have hpre:L <+: JT P R fm g h y L:=WL _ _;have hfn:=Nw (fm:=fm) hg hh;have hfl:=Dl (fm:=fm) hP hR y;rw[hfn]at hfl;have hl':l++Wr P R fm g h y=((JT P R fm g h y L).take (i+1)).flatMap (K1 P R fm):=by
  obtain⟨t,ht⟩:=hpre;rw[←ht,List.take_append_of_le_length (by omega),QWT,hy,QXn,←hl];simp[hfn]
 have c1:=w19 P R hP hR fm hf y g h hg hh (by omega);simp only[QC,DZ]at c1;simp only[Qs hlt,Qd,QWH,Qb,hlt,hgy,QWh,QVH,eE,seval];refine aC c1 ?_;refine QI (xs:=l.map Xd) (by rfl) (by rfl) rfl (by simp) (by rfl) (by rw[QVv];intro z hz;obtain⟨w,_,rfl⟩:=QWz.1 hz;rfl) (by simp only[QWE,maxLen];omega) (by simp only[QWE];omega) ?_;simp only[Qd,QWH,Qb,hlt,hgy,QWh,QVH,eE,seval];refine Qc (w20 P R hP hR fm 28 (fun _=>rfl) y g h hg hh L G _ [] (by rfl) (by omega) (by omega)) (by simp only[QC,DZ,QVP,QWe,Qa,seval]<;>rfl) ?_;simp only[e1,Qa,seval];have hle:=hpre.length_le;exact Ix.go (i+1,JT P R fm g h y L,G+((JT P R fm g h y L).length-L.length),l++Wr P R fm g h y) (by dsimp only;omega) ⟨by dsimp only;omega,hnx.symm,hl'⟩ (hf:=by simp only[Ag,QVU,QWE,QVh];rfl) (ho:=by simp only[Ag,QWS,QVh];rfl)
end

theorem An {P R:PL}{fm:Int}{a b i:Nat}{L:List Pq}{y:Pq}{x:FD}{t:List FD}(hL:L=Zs P R fm a b i)(hi:i≤128)(h0:(L.take i).flatMap (K1 P R fm)=[])(hy:L[i]? = some y)(hf:K1 P R fm y=x :: t):(WU P R fm a b).head? = some x:=by
 obtain⟨t',ht⟩:=QcM (P:=P) (R:=R) (fm:=fm) (a:=a) (b:=b) i (128-i);rw[show i+(128-i)=128 by omega,←hL]at ht;obtain⟨hil,e⟩:=QVk.1 hy;unfold WU;rw[←ht,QXn,←QWu i L,QXn,h0,QVZ hil,QWK,e,hf];rfl

theorem SY {P:Program}{K:St→Prop}{its:List Am.Item}{f:Fr}{m:Qo}{ds:List DF}{d sz len:Nat}{z y l:List AV}{ps:List (Nat×Nat×RA)}(hy:fill f ps (Xt z sz len)=some y)(h1:AV.rfL y=true)(h2:y.all AV.leaf=true)(hc:XP sz len (y.map nn0)=l)(h:Ql P its ⟨Qn f d (.list l),m,ds⟩ K) :
  Ql P (⟨some d,.bsl sz len z ps,none⟩ :: its) ⟨f,m,ds⟩ K:=by
 subst hc;exact⟨y,hy,h1,h2,h⟩

def WM (n b:Int):Bool:=bits .and .i64 n b != 0
def JA:List Int:=[1,2,4]
def XO (P R:PL)(s:List UInt8)(md fs b f:Int):List FD:=if (WM md b&&WM fs f)=true then Z6 P R s f else []
def D4 (P R:PL)(s:List UInt8)(md fs:Int):List FD:=JA.flatMap (XO P R s md fs 1)++JA.flatMap (XO R P s md fs 2)

theorem Wd {P R:PL}(hP:Own P)(hR:Own R)(lP:P.progs.length≤8)(lR:R.progs.length≤8)(s:List UInt8)(fm:Int):(Z6 P R s fm).length≤32768:=by
 unfold Z6;split
 ·simp
 split
 ·simp
 ·rename_i hx;obtain⟨a,ea,ha⟩:=JU (P:=P) (s:=s) (by omega);obtain⟨b,eb,hb⟩:=JU (P:=R) (s:=s) (by omega);rw[ea,eb,QWH,QWH];have h1:=KG lP lR (Ws (fm:=fm) hP hR ha hb 128).1;have h2:=YE (fm:=fm) hP hR (Zs P R fm a b 128);unfold WU;omega

section
variable {M:Nat}(hM:M≤1048576)(S T:SC)(hS:S.ok M)(hT:T.ok M)(S8:S.msgs.length≤8∧S.enums.length≤8∧S.servs.length≤8)(T8:T.msgs.length≤8∧T.enums.length≤8∧T.servs.length≤8)(vS:XR S=true)(vT:XR T=true)(s:List UInt8)(fm:Int)
include hM hS hT S8 T8 vS vT

set_option maxHeartbeats 2000000 in
theorem w7:Qj Tryz.prog 7 [S.av,T.av,.str s,.int .i64 fm] (V8 (Z6 (QE S) (QE T) s fm)):=by
 have l8P:(QE S).progs.length≤8:=by have:=S8.1;unfold QE;simp only[QWE];omega
 have l8R:(QE T).progs.length≤8:=by have:=T8.1;unfold QE;simp only[QWE];omega
 have hP:=ZF (ZL vS);have hR:=ZF (ZL vT);have b1:=Qz3 hM S T hS hT S8 T8 vS vT s fm;have b2:=Qz4 hM S T hS hT S8 T8 vS vT s fm;have b3:=Qz5 hM S T hS hT S8 T8 vS vT s fm;generalize QE S=P at *;generalize QE T=R at *;simp only[SC.av,QC,JF,Wt,QWe]at b1 b2 b3;refine k7.fn (by simp) ?_;unfold Z6 V8;cases hk:K2 fm
 case false=>
  rw[QVq rfl];simp only[SC.av,eE,seval];refine Qc (b1 hk _ rfl) (by simp only[QVP,QWe,Qa,seval]<;>rfl) ?_;simp only[seval,Qb,JF,Wt,List.head?_cons,QWo,QW4,QWe,eE]
 rw[QVp (by simp)];by_cases hx:Xv P s<0∨Xv R s<0
 case pos=>
  rw[QVq hx];simp only[SC.av,eE,seval];refine Qc (b2 hk hx _ rfl) (by simp only[QVP,QWe,Qa,seval]<;>rfl) ?_;simp only[seval,Qb,JF,Wt,List.head?_cons,QWo,QW4,QWe,eE]
 rw[QVp hx];have b3:=b3 hk hx;have hf:=Dn hk;obtain⟨a,ea,ha⟩:=JU (P:=P) (s:=s) (by omega);obtain⟨b,eb,hb⟩:=JU (P:=R) (s:=s) (by omega);rw[ea,eb]at b3;rw[ea,eb,QWH,QWH];have hok:=Ws (fm:=fm) hP hR ha hb;simp only[SC.av,eE,seval];refine Qc (b3 _ rfl) (by simp only[QVP,QWe,Qa,seval]<;>rfl) ?_;simp only[seval,eE];refine Yq (l:=[.int .i64 (a:Nat),.int .i64 (b:Nat),.list [],.bool false]) (by rfl) rfl (by decide) rfl rfl rfl ?_;simp only[nn0,QVP,QWe,Qa,seval]
 let Z:List AV:=[.str [],.int .i64 0,.int .i64 0,.nils]
 refine QO (X:=Nat×List Pq×Nat) (fun s=>[(8,.ptr 0 8 0),(10,.ptr 0 10 0),(13,.ptr 0 13 0),(14,.bool false),(15,.vec 0 35 s.2.2 0 s.2.1.length false),(16,.int .i64 (s.1:Nat))]) (fun s=>[(8,.cells Z),(10,.cells (jc P R fm)),(13,.cells Z),(35,.vec s.2.2 4 (s.2.1.map Pq.av))]) [18] (fun s=>129-s.1) (fun s=>s.1≤s.2.1.length∧s.2.1=Zs P R fm a b s.1∧(s.2.1.take s.1).flatMap (K1 P R fm)=[]) (fun _=>[]) (0,Zs P R fm a b 0,1) ⟨QVr _,rfl,rfl⟩ ?_;rintro⟨i,L,G⟩ f fr ⟨hi,hL,hl⟩;dsimp only at hi hL hl;have hQ:=(hok i).1;rw[←hL]at hQ;have hLl:=KG l8P l8R hQ;simp only[Z,jc,Xa,QVP,QWe,QVD,QVE,eE,seval];rcases Xi L i with⟨y,hy,hlt⟩|hlt
 case inr=>
  have e:WU P R fm a b=[]:=by
   unfold WU;rw[←hl,QVQ (by omega),hL,Hw (by rw[←hL];exact hlt) (by omega)]
  rw[e];simp only[Qu hlt,List.head?_nil,QWP,QV5,JF,QWe,eE,seval]
 have hym:=QVw hy;have hyp:=hQ.pth i y hy;have hyw:=hQ.ltw y hym;have hyr:=hQ.ltr y hym;obtain⟨g,hg⟩:∃g,P.progs[y.w]? = some g:=⟨P.progs[y.w],QVl hyw⟩;obtain⟨h,hh⟩:∃h,R.progs[y.r]? = some h:=⟨R.progs[y.r],QVl hyr⟩;have hgy:(L.map Pq.av)[i]? = some (.agg [.int .i64 (y.w:Nat),.int .i64 (y.r:Nat),.list (y.path.map iw),.bool y.hid]):=by rw[QWB,hy];rfl
 have e1:=Qh i _ hlt (by simp only[maxLen];omega);have hnx:Zs P R fm a b (i+1)=JT P R fm g h y L:=by
  show nxt P R fm _ i=_;rw[←hL];exact Nv hy hg hh
 have hpre:L <+: JT P R fm g h y L:=WL _ _;have hfn:=Nw (fm:=fm) hg hh;have c1:=w19 P R hP hR fm hf y g h hg hh (by omega);have hd:=fun x t e=>An (x:=x) (t:=t) hL (by omega) hl hy e
 rw[hfn]at hd;simp only[QC,DZ]at c1;simp only[Qs hlt,Qd,QWH,Qb,hlt,hgy,QWh,QVH,eE,seval];refine aC c1 ?_;simp only[QWE,Qa,seval];cases hls:Wr P R fm g h y with
 |cons x t=>
  rw[hd x t hls];refine QO (X:=Unit) (fun _=>[(8,.ptr 0 8 0),(13,.ptr 0 13 0),(47,.list ((x :: t).map Xd)),(48,.int .i64 ((x :: t).length:Nat)),(49,.int .i64 0)]) (fun _=>[(8,.cells Z),(13,.cells Z)]) [18] (fun _=>0) (fun _=>True) (fun _=>[]) () trivial ?_;rintro _ f fr -;have d:decide ((0:Int)<((t.length+1:Nat):Int))=true:=QXb (by omega);simp only[Z,d,JF,Qb,QVP,QWo,QW4,Xa,QVP,QWe,QVD,QVE,eE,seval]
 |nil=>
  have hl':((JT P R fm g h y L).take (i+1)).flatMap (K1 P R fm)=[]:=by
   obtain⟨t,ht⟩:=hpre;rw[←ht,List.take_append_of_le_length (by omega),QWT,hy,QXn,hl];simp[hfn,hls]
  refine QO (X:=Unit) (fun _=>[(8,.ptr 0 8 0),(10,.ptr 0 10 0),(13,.ptr 0 13 0),(14,.bool false),(15,.vec 0 35 G 0 L.length false),(16,.int .i64 (i:Nat)),(48,.int .i64 0),(49,.int .i64 0)]) (fun _=>[(8,.cells Z),(10,.cells (jc P R fm)),(13,.cells Z),(35,.vec G 4 (L.map Pq.av))]) [18] (fun _=>0) (fun _=>True) (fun _=>[]) () trivial ?_;rintro _ f fr -;simp only[Z,jc,seval,Qd,QWH,Qb,hlt,hgy,QWh,QVH,Xa,QVP,QWe,QVD,QVE,eE];refine Qc (w20 P R hP hR fm 35 (fun _=>rfl) y g h hg hh L G _ [] (by rfl) (by omega) (by omega)) (by simp only[QC,DZ,QVP,QWe,Qa,seval]<;>rfl) ?_;simp only[e1,Qa,seval];have hle:=hpre.length_le;exact Ix.go (i+1,JT P R fm g h y L,G+((JT P R fm g h y L).length-L.length)) (by dsimp only;omega) ⟨by dsimp only;omega,hnx.symm,hl'⟩

theorem w12:Qj Tryz.prog 12 [S.av,T.av,.str s,.int .i64 fm] (.bool (!(Z6 (QE S) (QE T) s fm).head?.isSome)):=by
 have hc:=w7 hM S T hS hT S8 T8 vS vT s fm;simp only[SC.av,V8,JF]at hc;refine k12.fn (by simp) ?_;simp only[SC.av,eE,seval];refine aC hc ?_;simp only[eE,seval]

theorem w14 (md fs:Int):Qj Tryz.prog 14 [S.av,T.av,.str s,.int .i64 md,.int .i64 fs] (.list ((D4 (QE S) (QE T) s md fs).map Xd)):=by
 have l8P:(QE S).progs.length≤8:=by have:=S8.1;unfold QE;simp only[QWE];omega
 have l8R:(QE T).progs.length≤8:=by have:=T8.1;unfold QE;simp only[QWE];omega
 have hP:=ZF (ZL vS);have hR:=ZF (ZL vT);have nA:=fun fm=>Wd hP hR l8P l8R s fm
 have nB:=fun fm=>Wd hR hP l8R l8P s fm
 have cA:=fun fm=>w10 hM S T hS hT S8 T8 vS vT s fm
 have cB:=fun fm=>w10 hM T S hT hS T8 S8 vT vS s fm
 generalize QE S=P at *;generalize QE T=R at *;unfold D4;simp only[SC.av]at cA cB;have hal:∀l:List FD,(l.map Xd).all (fun e=>e.cells.length==4)=true:=fun l=>by rw[QVv];intro z hz;obtain⟨w,_,rfl⟩:=QWz.1 hz;rfl
 refine k14.fn (by simp) ?_;simp only[SC.av,eE,seval];refine Zv rfl rfl ?_;simp only[Qa,seval];refine SY (l:=[.int .i64 1,.int .i64 2,.int .i64 4]) rfl rfl rfl rfl ?_;simp only[Qa,seval]
 let SV:List AV:=[.list (S.msgs.map fun n=>.agg n.cells),.list (S.enums.map fun n=>.agg n.cells),.list (S.servs.map fun n=>.agg n.cells)]
 let TV:List AV:=[.list (T.msgs.map fun n=>.agg n.cells),.list (T.enums.map fun n=>.agg n.cells),.list (T.servs.map fun n=>.agg n.cells)]
 refine QO (X:=Nat×List FD×Nat) (fun x=>[(2,.str s),(3,.int .i64 md),(4,.int .i64 fs),(5,.ptr 0 5 0),(6,.ptr 0 6 0),(11,.vec 0 11 x.2.2 0 x.2.1.length false),(12,.list [.int .i64 1,.int .i64 2,.int .i64 4]),(18,.list [.int .i64 1,.int .i64 2,.int .i64 4]),(19,.int .i64 3),(20,.int .i64 (x.1:Nat))]) (fun x=>[(5,.cells SV),(6,.cells TV),(11,.vec x.2.2 4 (x.2.1.map Xd))]) [] (fun x=>3-x.1) (fun x=>x.1≤3∧x.2.1=(JA.take x.1).flatMap (XO P R s md fs 1)∧x.2.1.length≤32768*x.1) (fun _=>[]) (0,[],1) ⟨by decide,rfl,QVi _⟩ ?_;rintro⟨k,l,G⟩ f fr ⟨hk,hl,hll⟩;dsimp only at hk hl hll;simp only[SV,TV,Xa,QWe,Qa,seval];by_cases hlt:k<3
 case pos=>
  have hx:∃x,JA[k]? = some x∧([.int .i64 1,.int .i64 2,.int .i64 4]:List AV)[k]? = some (.int .i64 x):=by
   have:k=0∨k=1∨k=2:=by omega
   rcases this with rfl|rfl|rfl<;>exact⟨_,rfl,rfl⟩
  obtain⟨x,hx,hgx⟩:=hx;have e1:=Qh k _ hlt (by simp only[maxLen];omega);have d:decide ((k:Int)<3)=true:=QXb (by omega);have hT:(JA.take (k+1)).flatMap (XO P R s md fs 1)=l++XO P R s md fs 1 x:=by rw[QWT,hx,QXn,←hl];simp
  have c1:=cA x;have n1:=nA x;simp only[d,Qd,QWH,Qb,hgx,eE,seval];cases m1:(bits .and .i64 md 1 != 0)
  ·have hb:XO P R s md fs 1 x=[]:=by unfold XO WM;rw[m1];rfl
   simp only[e1,cond_true,cond_false,Qa,seval];exact Ix.go (k+1,l,G) (by dsimp only;omega) ⟨by dsimp only;omega,by dsimp only;rw[hT,hb,QWg],by dsimp only;omega⟩
  cases m2:(bits .and .i64 fs x != 0)
  ·have hb:XO P R s md fs 1 x=[]:=by unfold XO WM;rw[m1,m2];rfl
   simp only[m2,e1,cond_true,cond_false,Qa,seval];exact Ix.go (k+1,l,G) (by dsimp only;omega) ⟨by dsimp only;omega,by dsimp only;rw[hT,hb,QWg],by dsimp only;omega⟩
  ·have hb:XO P R s md fs 1 x=Z6 P R s x:=by unfold XO WM;rw[m1,m2];rfl
   simp only[m2,cond_true,cond_false,eE,seval];refine aC c1 ?_;refine QI (xs:=l.map Xd) (by rfl) (by rfl) rfl (by simp) (by rfl) (hal _) (by simp only[QWE,maxLen];omega) (by simp only[QWE];omega) ?_;simp only[e1,Qa,seval];exact Ix.go (k+1,l++Z6 P R s x,G+1) (by dsimp only;omega) ⟨by dsimp only;omega,by dsimp only;rw[hT,hb],by dsimp only;rw[QVU];omega⟩ (hf:=by simp only[Ag,QVU,QWE];rfl) (ho:=by simp only[Ag,QWS];rfl)
 have ek:k=3:=by omega
 subst ek;rw[show JA.take 3=JA from rfl]at hl;rw[←hl];simp only[Qa,seval];clear hlt hk;refine QO (X:=Nat×List FD×Nat) (fun x=>[(2,.str s),(3,.int .i64 md),(4,.int .i64 fs),(5,.ptr 0 5 0),(6,.ptr 0 6 0),(11,.vec 0 11 x.2.2 0 x.2.1.length false),(41,.list [.int .i64 1,.int .i64 2,.int .i64 4]),(42,.int .i64 3),(43,.int .i64 (x.1:Nat))]) (fun x=>[(5,.cells SV),(6,.cells TV),(11,.vec x.2.2 4 (x.2.1.map Xd))]) [] (fun x=>3-x.1) (fun x=>x.1≤3∧x.2.1=l++(JA.take x.1).flatMap (XO R P s md fs 2)∧x.2.1.length≤98304+32768*x.1) (fun _=>[]) (0,l,G) ⟨QVr _,by simp,by dsimp only;omega⟩ ?_;rintro⟨k,l2,G⟩ f fr ⟨hk,hl2,hll2⟩;dsimp only at hk hl2 hll2;simp only[SV,TV,Xa,QWe,Qa,seval];by_cases hlt:k<3
 case pos=>
  have hx:∃x,JA[k]? = some x∧([.int .i64 1,.int .i64 2,.int .i64 4]:List AV)[k]? = some (.int .i64 x):=by
   have:k=0∨k=1∨k=2:=by omega
   rcases this with rfl|rfl|rfl<;>exact⟨_,rfl,rfl⟩
  obtain⟨x,hx,hgx⟩:=hx;have e1:=Qh k _ hlt (by simp only[maxLen];omega);have d:decide ((k:Int)<3)=true:=QXb (by omega);have hT:l++(JA.take (k+1)).flatMap (XO R P s md fs 2)=l2++XO R P s md fs 2 x:=by rw[QWT,hx,QXn,←QVC,←hl2];simp
  have c1:=cB x;have n1:=nB x;simp only[d,Qd,QWH,Qb,hgx,eE,seval];cases m1:(bits .and .i64 md 2 != 0)
  ·have hb:XO R P s md fs 2 x=[]:=by unfold XO WM;rw[m1];rfl
   simp only[e1,cond_true,cond_false,Qa,seval];exact Ix.go (k+1,l2,G) (by dsimp only;omega) ⟨by dsimp only;omega,by dsimp only;rw[hT,hb,QWg],by dsimp only;omega⟩
  cases m2:(bits .and .i64 fs x != 0)
  ·have hb:XO R P s md fs 2 x=[]:=by unfold XO WM;rw[m1,m2];rfl
   simp only[m2,e1,cond_true,cond_false,Qa,seval];exact Ix.go (k+1,l2,G) (by dsimp only;omega) ⟨by dsimp only;omega,by dsimp only;rw[hT,hb,QWg],by dsimp only;omega⟩
  ·have hb:XO R P s md fs 2 x=Z6 R P s x:=by unfold XO WM;rw[m1,m2];rfl
   simp only[m2,cond_true,cond_false,eE,seval];refine aC c1 ?_;refine QI (xs:=l2.map Xd) (by rfl) (by rfl) rfl (by simp) (by rfl) (hal _) (by simp only[QWE,maxLen];omega) (by simp only[QWE];omega) ?_;simp only[e1,Qa,seval];exact Ix.go (k+1,l2++Z6 R P s x,G+1) (by dsimp only;omega) ⟨by dsimp only;omega,by dsimp only;rw[hT,hb],by dsimp only;rw[QVU];omega⟩ (hf:=by simp only[Ag,QVU,QWE];rfl) (ho:=by simp only[Ag,QWS];rfl)
 have ek:k=3:=by omega
 subst ek;rw[show JA.take 3=JA from rfl]at hl2;rw[←hl2];have ex:(l2.map Xd).take l2.length=l2.map Xd:=QVQ (by simp);simp only[QWE,ex,QVY,QVH,QVi,QWh,QWn,AV.un,eE,seval]
end

section
variable (l:List SF)(hl:l.length≤1048576)
include hl
theorem u38:Qj Tryz.prog 38 [.list (l.map fun n=>.agg n.cells)] (.list ((unl [] l).map Qk)):=by
 let I:Nat→St→Prop:=fun k st=>∃f fr i g,st=⟨f,[fr],[]⟩∧k=l.length-i∧i≤l.length∧f 0=.list (l.map fun n=>.agg n.cells)∧f 3=.vec 0 3 g 0 (un l i).length false∧f 4=.int .i64 (i:Nat)∧fr 3=.vec g 1 ((un l i).map Qk)
 refine k38.fn (by simp) ?_;simp only[Qa,seval];refine Zv rfl rfl ?_;simp only[Qa,seval];refine Qf I _ ⟨_,_,0,1,rfl,rfl,QVr _,(by rfl),(by rfl),(by rfl),(by rfl)⟩ ?_;rintro _ st ⟨f,fr,i,g,rfl,rfl,hi,h0,h3,h4,o3⟩;simp only[QWE,h0,h4,Qa,seval];by_cases hlt:i<l.length
 case neg=>
  have e:i=l.length:=by omega
  subst e;rw[Nm]at h3 o3;have ht:List.take (unl [] l).length ((unl [] l).map Qk)=(unl [] l).map Qk:=QVQ (by simp);simp only[Qu hlt,h3,o3,ht,QWE,QVY,QVH,QVi,QWh,QWn,AV.un,eE,seval]
 obtain⟨x,hx⟩:∃x,l[i]? = some x:=⟨l[i],QVl hlt⟩;have hg:(l.map fun n=>AV.agg n.cells)[i]? = some (.agg x.cells):=by rw[QWB,hx];rfl
 rw[QL]at hg;have e1:=Qh i _ hlt (by simp only[maxLen];omega);have hus:=Di hx;have hul:=Uv l i;simp only[Qs hlt,Qd,QWH,Qb,hg,h0,h4,Qz,eE,seval];by_cases hu:x.union=[]
 ·have d:(x.union==[])=true:=by simp[hu]
  rw[QVq (.inl hu)]at hus;simp only[d,h4,e1,QWZ,Qa,seval];exact⟨l.length-(i+1),by omega,_,fr,i+1,g,rfl,rfl,by omega,(by exact h0),by rw[hus];exact(by exact h3),(by rfl),by rw[hus];exact o3⟩
 have d:(x.union==[])=false:=by simp[hu]
 simp only[d,Qd,QWH,Qb,hg,h0,h3,h4,QWl,eE,seval];refine Xe (u70 (un l i) (by simp only[maxLen];omega) x.union) ?_ rfl rfl (.inr rfl) ?_
 ·have ht:List.take (un l i).length ((un l i).map Qk)=(un l i).map Qk:=QVQ (by simp);simp only[QVP,QWe,AV.stillL,AV.still,Am.Qe,o3,QWE,ht,QVY,QVH,QVi,QWh,QWL,QVB,Qa,seval]<;>rfl
 cases hc:(un l i).contains x.union
 ·rw[QVp (by simp only[hu,hc,QVB,or_self,not_false_eq_true])]at hus;simp only[Qd,QWH,Qb,hg,h0,h3,h4,QWl,eE,seval];refine ZD (w:=x.union) rfl ?_;refine QI (xs:=(un l i).map Qk) (by rfl) (by exact o3) rfl (by simp) (by rfl) rfl (by simp only[QVx,QWp,maxLen];omega) (by simp only[QVx,QWp];omega) ?_;simp only[h4,e1,Qa,seval];exact⟨l.length-(i+1),by omega,_,_,i+1,g+1,rfl,rfl,by omega,(by exact h0),by rw[hus,QVU];exact(by rfl),(by rfl),by rw[hus,QWS];exact(by rfl)⟩
 ·rw[QVq (.inr hc)]at hus;simp only[h4,e1,QWZ,Qa,seval];exact⟨l.length-(i+1),by omega,_,fr,i+1,g,rfl,rfl,by omega,(by exact h0),by rw[hus];exact(by exact h3),(by rfl),by rw[hus];exact o3⟩
end

def U7 (l:List SN):List SN:=l.filter fun n=>n.name==alias
section
variable (l:List SN)(hl:l.length≤1048576)
include hl
theorem u40:Qj Tryz.prog 40 [.list (l.map fun n=>.agg n.cells)] (.list ((U7 l).map fun n=>.agg n.cells)):=by
 let I:Nat→St→Prop:=fun k st=>∃f fr i g L,st=⟨f,[fr],[]⟩∧k=l.length-i∧i≤l.length∧L=U7 (l.take i)∧f 0=.list (l.map fun n=>.agg n.cells)∧f 3=.vec 0 3 g 0 L.length false∧f 4=.int .i64 (i:Nat)∧fr 3=.vec g 8 (L.map fun n=>.agg n.cells)
 refine k40.fn (by simp) ?_;simp only[Qa,seval];refine Zv rfl rfl ?_;simp only[Qa,seval];refine Qf I _ ⟨_,_,0,1,[],rfl,rfl,QVr _,rfl,(by rfl),(by rfl),(by rfl),(by rfl)⟩ ?_;rintro _ st ⟨f,fr,i,g,L,rfl,rfl,hi,hL,h0,h3,h4,o3⟩;simp only[QWE,h0,h4,Qa,seval];by_cases hlt:i<l.length
 case neg=>
  rw[QVQ (by omega)]at hL;subst hL;have ht:List.take (U7 l).length ((U7 l).map fun n=>AV.agg n.cells)=(U7 l).map fun n=>AV.agg n.cells:=QVQ (by simp)
  simp only[Qu hlt,h3,o3,ht,QWE,QVY,QVH,QVi,QWh,QWn,AV.un,eE,seval]
 obtain⟨x,hx⟩:∃x,l[i]? = some x:=⟨l[i],QVl hlt⟩;have hg:(l.map fun n=>AV.agg n.cells)[i]? = some (.agg x.cells):=by rw[QWB,hx];rfl
 rw[WD]at hg;have e1:=Qh i _ hlt (by simp only[maxLen];omega);have hLl:L.length≤i:=by
  rw[hL];refine QVj (List.length_filter_le _ _) ?_;rw[QV8];omega
 have hsu:U7 (l.take (i+1))=L++(if x.name=alias then [x]else []):=by
  rw[hL,QWT,hx,QWU];unfold U7;rw[List.filter_append];congr 1
  by_cases h:x.name=alias<;>simp[h]
 simp only[Qs hlt,Qd,QWH,Qb,hg,h0,h4,Qz,eE,seval];by_cases hn:x.name=alias
 ·have d:(x.name==[97,108,105,97,115])=true:=by rw[hn];rfl
  rw[QVq hn]at hsu;simp only[d,Qd,QWH,Qb,hg,h0,h3,h4,eE,seval];refine QM rfl rfl (by decide) rfl rfl ?_;simp only[nn0,QVP,QWe,seval];refine QI (xs:=L.map fun n=>.agg n.cells) (by rfl) (by exact o3) rfl (by simp) (by rfl) rfl (by simp only[QVx,QWp,maxLen];omega) (by simp only[QVx,QWp];omega) ?_;simp only[h4,e1,Qa,seval];exact⟨l.length-(i+1),by omega,_,_,i+1,g+1,L++[x],rfl,rfl,by omega,hsu.symm,(by exact h0),by rw[QVU];exact(by rfl),(by rfl),by rw[QWS,QVP,QWe,WD x];exact(by rfl)⟩
 ·have d:(x.name==[97,108,105,97,115])=false:=QXd.2 hn;rw[QVp hn,QWg]at hsu;simp only[d,h4,e1,Qa,seval];exact⟨l.length-(i+1),by omega,_,fr,i+1,g,L,rfl,rfl,by omega,hsu.symm,(by exact h0),(by exact h3),(by rfl),o3⟩
end

theorem SZ {t:Int}:∀ {l:List SN} {s:List UInt8},J5 t (some s) l=0→∀n∈l,Op.bytesLess s n.name=true
 |n :: l,s,h,x,hx=>by
  have key:JO t (some s) n=0∧J5 t (some n.name) l=0:=by
   rw[J5]at h;split at h
   ·rename_i h1;exact⟨h1,h⟩
   ·rename_i h1;exact absurd h h1
  have h1:Op.bytesLess s n.name=true:=by
   have h1:=key.1;unfold JO at h1;split at h1
   ·cases h1
   split at h1
   ·cases h1
   split at h1
   ·cases h1
   dsimp only at h1;split at h1
   ·cases h1
   rename_i hb;split at h1
   ·cases h1
   rename_i hne;cases hs:Op.bytesLess s n.name with
   |true=>rfl
   |false=>exact absurd (Ut (by simpa using hb) hs) hne
  rcases QWy.1 hx with rfl|hx
  ·exact h1
  ·exact Yz h1 (SZ key.2 x hx)
theorem Ao {t:Int}{n:SN}{l:List SN}{last:Option (List UInt8)}(h:J5 t last (n :: l)=0):J5 t (some n.name) l=0:=by
 rw[J5]at h;split at h
 ·exact h
 ·rename_i h1;exact absurd h h1
theorem Ca {t:Int}:∀ {l:List SN} {last:Option (List UInt8)},J5 t last l=0→U7 l=(l.find? fun n=>n.name==alias).toList
 | [],_,_=>rfl
 |n :: l,last,h=>by
  have hn:=Ao h;unfold U7;rw[List.filter_cons,QW2];cases hp:(n.name==alias)
  ·exact Ca hn
  ·have e:l.filter (fun n=>n.name==alias)=[]:=by
    rw[List.filter_eq_nil_iff];intro x hx hxa;have h1:=SZ hn x hx;have e1:n.name=alias:=by simpa using hp
    have e2:x.name=alias:=by simpa using hxa
    rw[e1,e2,J6]at h1;cases h1
   simp[e]
theorem Ap {x:SI}{t:Int}(h:X6 x.notes t=0):(ZJ x).cells=[.str x.name,.int .i64 x.num,.list ((U7 x.notes).map fun n=>.agg n.cells)]:=by
 have hn:J5 t none x.notes=0:=by
  unfold X6 at h;split at h
  ·cases h
  ·exact h
 rw[Ca hn];cases hf:x.notes.find? fun n=>n.name==alias with
 |none=>exact Nn (by unfold Xc;rw[hf];rfl)
 |some n=>
  have e:n.name=alias:=by simpa using QXa hf
  rw[No (v:=n.val) (by unfold Xc;rw[hf];rfl),QWU,QVP,QWe,QQE,e]

theorem D5:∀(l:List SF) (us:List (List UInt8)),us.Nodup→(unl us l).Nodup
 | [],us,h=>h
 |f :: l,us,h=>by
  rw[unl];refine D5 l _ ?_;split
  ·exact h
  ·rename_i hn;rw[not_or]at hn;refine List.nodup_append.2 ⟨h,by simp,fun a ha b hb=>?_⟩;rcases QXk.1 hb with rfl
   rintro rfl;exact hn.2 (QXj.2 ha)
theorem Qz7 {us:List (List UInt8)}(hd:us.Nodup){j:Nat}{s:List UInt8}(h:us[j]? = some s):XH us s=(j:Int):=by
 unfold XH;rcases Xn (fun u=>u==s) us 0 with⟨_,hn⟩|⟨k,o,h1,h2,h3⟩
 ·have:=QW8.1 hn s (QVw h);simp at this
 ·have e:o=s:=by simpa using QXa h3
  subst e;have:=(List.getElem?_inj (QVk.1 h2).1 hd).1 (h2.trans h.symm);omega

theorem D6 {P:Program}{Q:Exit→St→Prop}{f:Fr}{m:Qo}{ds:List DF}{s idx site sz:Nat}{a:RC}{fr:Nat→Ob}{xs:List AV}(h1:fr s=.cells xs)(h2:xs[idx]? = some .nils)(h3:Qr (fr site)=true)(hne:Nat.beq site s=false)
  (h:QJ P a ⟨f,Qn (Qn fr site (.vec (JX (fr site)) sz [])) s (.cells (xs.set idx (.vec 0 site (JX (fr site)) 0 0 false))) :: m,ds⟩ Q):QJ P (.gho (.vecc s idx site sz) a) ⟨f,fr :: m,ds⟩ Q:=by
 refine⟨_,?_,h⟩;have e1:Am.Qe (fr :: m) 0 s=.cells xs:=h1;have e:Qr (Am.Qe (fr :: m) 0 site)=true:=h3;have e2:QD (fr :: m) 0 site=JX (fr site):=Y8;simp[Zx,e1,h2,e,e2,Am.put,hne]

def Yc (x:SF)(a:List UInt8)(t u:Int):List AV:=[.int .i64 x.num,.str x.name,.str a,.int .i64 x.card,.int .i64 x.key,.int .i64 x.kind,.int .i64 t,.int .i64 u]

section
variable {M:Nat}(hM:M≤1048576)(S:SC)(hS:S.ok M)(l:List SF)(hl:l.length≤1048576)(k:Nat)(x:SF)(hx:l[k]? = some x)

include hl in
theorem Nz (a:List UInt8)(t:Int)(f:Fr)(fr:Nat→Ob)(h1:f 1=.list (l.map fun n=>.agg n.cells))(h6:f 6=.ptr 0 6 0)(h7:f 7=.ptr 0 7 0)(h8:f 8=.ptr 0 8 0)(o6:∃a b c d e g h i,fr 6=.cells [a,b,c,d,e,g,h,i])(o7:fr 7=.cells x.cells)(o8:fr 8=.cells (Yc x a t (-1)))(hm:x∈l) :
  QJ Tryz.prog (.seq (.seq (.reg Gn) (.cond (.t 67) (.seq (.reg Gp) (.seq (.reg Gq) (.block 0 (.loop Fq)))) .skip)) (.seq (.reg Ui) .ret)) ⟨f,[fr],[]⟩ (Zi B4 0 fun y _=>y=.agg (Yc x a t (X2 (unl [] l) x))):=by
 obtain⟨z0,z1,z2,z3,z4,z5,z6,z7,o6⟩:=o6;have fin:∀f:Fr,f 6=.ptr 0 6 0→f 8=.ptr 0 8 0→∀fr:Nat→Ob,(∃a b c d e g h i,fr 6=.cells [a,b,c,d,e,g,h,i])→fr 8=.cells (Yc x a t (X2 (unl [] l) x))→QJ Tryz.prog (.seq (.reg Ui) .ret) ⟨f,[fr],[]⟩ (Zi B4 0 fun y _=>y=.agg (Yc x a t (X2 (unl [] l) x))):=by
  rintro f h6 h8 fr ⟨z0,z1,z2,z3,z4,z5,z6,z7,o6⟩ o8;simp only[Yc]at o8;simp only[Ui,B4,Yc,h6,h8,o6,o8,eE,seval]
 rw[QL]at o7;simp only[Yc]at o8;simp only[Gn,h7,o7,Qz,eE,seval];by_cases hu:x.union=[]
 ·have d:(x.union==[])=true:=by simp[hu]
  have eu:X2 (unl [] l) x = -1:=QVq hu;have:=fin;simp only[Qa,seval]at this;simp only[d,QWZ,Qa,seval];exact this _ (by exact h6) (by exact h8) _ ⟨_,_,_,_,_,_,_,_,o6⟩ (by rw[eu];exact o8)
 have d:(x.union==[])=false:=by simp[hu]
 have hmu:x.union∈unl [] l:=(UF l [] x.union).2 (.inr ⟨hu,x,hm,rfl⟩);have hid:=Db (r:=[]) hmu;rw[QWg]at hid;have hnd:=D5 l [] (by simp);have eu:X2 (unl [] l) x=XH (unl [] l) x.union:=QVp hu;have hll:(unl [] l).length≤l.length:=by
  have:=Uv l l.length
  rwa [Nm]at this
 simp only[d,Gp,h1,QWl,Qa,seval];refine aC (u38 l hl) ?_;simp only[Gq,Qa,seval];rw[eu]at fin ⊢;generalize hU:unl [] l=U at *
 let I:Nat→St→Prop:=fun n st=>∃f fr j,st=⟨f,[fr],[]⟩∧n=U.length-j∧j≤U.length∧f 6=.ptr 0 6 0∧f 7=.ptr 0 7 0∧f 8=.ptr 0 8 0∧f 11=.list (U.map Qk)∧f 12=.int .i64 (j:Nat)∧(∃a b c d e g h i,fr 6=.cells [a,b,c,d,e,g,h,i])∧fr 7=.cells x.cells∧fr 8=.cells (Yc x a t (if XH U x.union<(j:Int)then XH U x.union else -1))
 refine Qf I _ ⟨_,_,0,rfl,rfl,QVr _,(by exact h6),(by exact h7),(by exact h8),(by rfl),(by rfl),⟨_,_,_,_,_,_,_,_,o6⟩,by rw[QL];exact o7,by rw[QVp (by omega)];exact o8⟩ ?_;clear h1 h6 h7 h8 o6 o7 o8;rintro _ st ⟨f,fr,j,rfl,rfl,hj,h6,h7,h8,h11,h12,o6,o7,o8⟩;simp only[Fq,R5,QWE,h11,h12,Qa,seval];by_cases hlt:j<U.length
 case neg=>
  have:=fin;simp only[Qa,seval]at this;simp only[Qu hlt,Qa,seval];rw[QVq (by omega)]at o8;exact this _ (by exact h6) (by exact h8) _ o6 o8
 obtain⟨y,hy⟩:∃y,U[j]? = some y:=⟨U[j],QVl hlt⟩;have hg:(U.map Qk)[j]? = some (.str y):=by simp[hy,Qk]
 have e1:=Qh j _ hlt (by simp only[maxLen];omega);have o7':=o7;rw[QL]at o7';simp only[Qs hlt,R6,Qd,QWH,Qb,hg,h7,h11,h12,o7',Qz,eE,seval];by_cases hp:y=x.union
 ·have dp:(y==x.union)=true:=by simp[hp]
  have hi:=Qz7 hnd hy;rw[hp]at hi;simp only[Yc]at o8;simp only[dp,R7,B3,h8,h12,o8,e1,eE,seval];exact⟨U.length-(j+1),by omega,_,_,j+1,rfl,rfl,by omega,(by exact h6),(by exact h7),(by exact h8),(by exact h11),(by rfl),(by obtain⟨a,b,c,d,e,g,h,i,o6⟩:=o6;exact⟨a,b,c,d,e,g,h,i,(by exact o6)⟩),(by exact o7),by rw[QVq (by omega),hi];exact(by rfl)⟩
 ·have dp:(y==x.union)=false:=by simp[hp]
  have hne:XH U x.union≠(j:Int):=by
   intro he;obtain⟨k',o,q1,q2,q3⟩:∃k o,XH U x.union=((k:Nat):Int)∧U[k]? = some o∧o=x.union:=by
    rcases Xn (fun u=>u==x.union) U 0 with⟨q,_⟩|⟨k,o,q1,q2,q3⟩
    ·have:XH U x.union = -1:=q;omega
    ·exact⟨k,o,by rw[XH,q1,QVH],q2,by simpa using QXa q3⟩
   have:k'=j:=by omega
   subst this;rw[hy]at q2;cases q2;exact hp q3
  have hlt2:(XH U x.union<(j:Int))=(XH U x.union<((j+1:Nat):Int)):=by
   apply propext
   omega
  simp only[dp,B3,h12,e1,Qa,seval];exact⟨U.length-(j+1),by omega,_,_,j+1,rfl,rfl,by omega,(by exact h6),(by exact h7),(by exact h8),(by exact h11),(by rfl),o6,o7,by simp only[←hlt2];exact o8⟩

include hM hS hl hx in
theorem u39 (hn:x.notes.length≤1048576):Qj Tryz.prog 39 [S.av,.list (l.map fun n=>.agg n.cells),.int .i64 (k:Nat)] (.agg (Wq S x (X2 (unl [] l) x))):=by
 obtain⟨l1,l2,_⟩:=ZV S hS hM;have hg:(l.map fun n=>AV.agg n.cells)[k]? = some (.agg x.cells):=by rw[QWB,hx];rfl
 rw[QL]at hg;have hc1:=u72 S l1 x.tname;have hc2:=u73 S l2 x.tname;generalize (S.msgs.find? fun m=>m.name==x.tname).getD Sk=m0 at hc1;generalize (S.enums.find? fun m=>m.name==x.tname).getD Sl=e0 at hc2;simp only[Q4,XL m0,SC.av]at hc1;simp only[X3,X7 e0,SC.av]at hc2;have hfd:=u71 x.notes (by simp only[maxLen];omega) alias;have eis:(x.notes.find? fun x=>x.name==alias).isSome=(Xc x.notes).isSome:=by unfold Xc;rw[Option.isSome_map]
 rw[YB,eis]at hfd;have hxm:=QVw hx;have e8:Wq S x (X2 (unl [] l) x)=Yc x (((Xc x.notes).map V.text).getD []) (Jy S x) (X2 (unl [] l) x):=rfl;rw[e8];generalize hA:((Xc x.notes).map V.text).getD []=A at *;have key:∀(f:Fr) (fr:Nat→Ob),f 1=.list (l.map fun n=>.agg n.cells)→f 3=.ptr 0 3 0→f 6=.ptr 0 6 0→f 7=.ptr 0 7 0→f 8=.ptr 0 8 0→fr 3=.cells [.list (S.msgs.map fun n=>.agg n.cells),.list (S.enums.map fun n=>.agg n.cells),.list (S.servs.map fun n=>.agg n.cells)]→
   (∃a b c d e g h i,fr 6=.cells [a,b,c,d,e,g,h,i])→fr 7=.cells x.cells→fr 8=.cells (Yc x A (-1) (-1))→
   QJ Tryz.prog (.seq (.seq (.reg CX) (.cond (.t 42) (.reg CY) .skip)) (.seq (.seq (.reg Gm) (.cond (.t 55) (.reg CZ) .skip)) (.seq (.seq (.reg Gn) (.cond (.t 67) (.seq (.reg Gp) (.seq (.reg Gq) (.block 0 (.loop Fq)))) .skip)) (.seq (.reg Ui) .ret)))) ⟨f,[fr],[]⟩ (Zi B4 0 fun y _=>y=.agg (Yc x A (Jy S x) (X2 (unl [] l) x))):=by
  intro f fr h1 h3 h6 h7 h8 o3 o6 o7 o8;have o7':=o7;rw[QL]at o7';have o6k:∀fr':Nat→Ob,fr' 6=fr 6→∃a b c d e g h i,fr' 6=.cells [a,b,c,d,e,g,h,i]:=fun fr' h=>by rw[h];exact o6
  have o8':=o8;simp only[Yc]at o8';simp only[CX,h7,o7',eE,seval];by_cases h10:x.kind=10
  ·have d:(x.kind==10)=true:=by simp[h10]
   have d2:(x.kind==9)=false:=by simp[h10]
   have et:Jy S x=JP S x.tname:=QVq h10;rw[et];simp only[d,CY,h3,h7,o3,o7',eE,seval];refine aC hc1 ?_;simp only[h7,h8,o7',o8',Gm,d2,eE,seval];have:=Nz l hl x A (JP S x.tname);simp only[Qa,seval]at this;exact this _ _ (by exact h1) (by exact h6) (by exact h7) (by exact h8) (o6k _ (by rfl)) (by exact o7) (by rfl) hxm
  have d:(x.kind==10)=false:=by simp[h10]
  by_cases h9:x.kind=9
  ·have d2:(x.kind==9)=true:=by simp[h9]
   have et:Jy S x=U4 S x.tname:=by unfold Jy;rw[QVp h10,QVq h9];rfl
   rw[et];simp only[d,h7,o7',Gm,d2,eE,seval];simp only[CZ,h3,h7,o3,o7',eE,seval];refine aC hc2 ?_;simp only[h8,o8',eE,seval];have:=Nz l hl x A (U4 S x.tname);simp only[Qa,seval]at this;exact this _ _ (by exact h1) (by exact h6) (by exact h7) (by exact h8) (o6k _ (by rfl)) (by exact o7) (by rfl) hxm
  have d2:(x.kind==9)=false:=by simp[h9]
  have et:Jy S x = -1:=by unfold Jy;rw[QVp h10,QVp h9]
  rw[et];simp only[d,d2,h7,o7',Gm,eE,seval];have:=Nz l hl x A (-1);simp only[Qa,seval]at this;exact this _ _ (by exact h1) (by exact h6) (by exact h7) (by exact h8) o6 o7 o8 hxm
 simp only[B4,Qa,seval]at key;refine k39.fn (by simp) ?_;simp only[r39,B4,Ir,Is,SC.av,Qd,QWH,Qb,hg,eE,seval];simp only[It,eE,seval];simp only[Iu,eE,seval];cases hal:Xc x.notes with
 |none=>
  rw[hal]at hfd hA;simp only[QWP,QV5,QWa,alias]at hfd hA;rw[V.av,V.eta]at hfd;refine aC hfd ?_;simp only[CW,eE,seval];subst hA;exact key _ _ (by rfl) (by rfl) (by rfl) (by rfl) (by rfl) (by rfl) ⟨_,_,_,_,_,_,_,_,rfl⟩ (by rw[QL];exact(by rfl)) (by rfl)
 |some v=>
  rw[hal]at hfd hA;simp only[QWo,QW4,QVI,alias]at hfd hA;rw[V.av,V.eta]at hfd;refine aC hfd ?_;simp only[CW,Iv,eE,seval];subst hA;exact key _ _ (by rfl) (by rfl) (by rfl) (by rfl) (by rfl) (by rfl) ⟨_,_,_,_,_,_,_,_,rfl⟩ (by rw[QL];exact(by rfl)) (by rfl)
end

def WN (S:SC)(i j:Nat)(f:Fr)(fr:Nat→Ob):Prop:=f 1=.ptr 0 1 0∧f 2=.ptr 0 2 0∧f 4=.ptr 0 4 0∧
  fr 1=.cells [.list (S.msgs.map fun n=>.agg n.cells),.list (S.enums.map fun n=>.agg n.cells),.list (S.servs.map fun n=>.agg n.cells)]∧(∃a b,fr 2=.cells [a,b])∧
  ∃g h,fr 4=.cells [.vec 0 1101 g 0 i false,.vec 0 1103 h 0 j false]∧fr 1101=.vec g 3 ((S.msgs.take i).map fun m=>.agg (Zq S m).cells)∧fr 1103=.vec h 5 ((S.enums.take j).map fun e=>.agg (ZS e).cells)
theorem WN.to {S:SC}{i j:Nat}{f f':Fr}{fr fr':Nat→Ob}(h:WN S i j f fr)(hf:f' 1=f 1∧f' 2=f 2∧f' 4=f 4)(hm:fr' 1=fr 1∧fr' 2=fr 2∧fr' 4=fr 4∧fr' 1101=fr 1101∧fr' 1103=fr 1103):WN S i j f' fr':=by
 obtain⟨a,b,c⟩:=hf;obtain⟨d,e,g,p,q⟩:=hm;unfold WN at h ⊢;rw[a,b,c,d,e,g,p,q];exact h
theorem WN.drop {S:SC}{i j:Nat}{f f':Fr}{fr fr':Nat→Ob}{l:List Nat}(h:WN S i j f fr)(hf:∀i,f' i=Yp l (f i))(hm:∀i,i∉l→fr' i=KL l (fr i))(hl:∀s∈l,s∈[7,10,12]):WN S i j f' fr':=by
 have hs:∀s:Nat,s∈[7,10,12]→∀i∈[1,2,4,1101,1103],i≠s:=by decide
 have hp:∀i∈[1,2,4,1101,1103],i∉l:=fun i hi hil=>hs i (hl i hil) i hi rfl
 have sp:∀(l:List Nat) (s o:Nat),s∉l→Yp l (.ptr 0 s o)=.ptr 0 s o:=by
  intro l
  induction l with
  |nil=>intro s o _;rfl
  |cons x l ih=>
   intro s o hs;rw[QWy,not_or]at hs;rw[Yp,DA,show Nat.beq s x=false by rw[MA];simp[hs.1],cond_false];exact ih s o hs.2
 have sg:∀(l:List Nat) (v:AV),(∀s,v.scrub s=v)→Yp l v=v:=by
  intro l
  induction l with
  |nil=>intro v _;rfl
  |cons x l ih=>intro v hv;rw[Yp,hv];exact ih v hv
 have og:∀(l:List Nat) (o:Ob),(∀s,o.scrub s=o)→KL l o=o:=by
  intro l
  induction l with
  |nil=>intro v _;rfl
  |cons x l ih=>intro v hv;rw[KL,hv];exact ih v hv
 have oc:∀(l:List Nat) (a b:AV),∃c d,KL l (.cells [a,b])=.cells [c,d]:=by
  intro l
  induction l with
  |nil=>intro a b;exact⟨a,b,rfl⟩
  |cons x l ih=>intro a b;exact ih _ _
 obtain⟨h1,h2,h4,o1,⟨a,b,o2⟩,g,h,o4,oR,oT⟩:=h;refine⟨by rw[hf,h1];exact sp l 1 0 (hp 1 (by decide)),by rw[hf,h2];exact sp l 2 0 (hp 2 (by decide)),by rw[hf,h4];exact sp l 4 0 (hp 4 (by decide)),?_,?_,g,h,?_,?_,?_⟩
 ·rw[hm 1 (hp 1 (by decide)),o1];exact og l _ fun _=>rfl
 ·rw[hm 2 (hp 2 (by decide)),o2];exact oc l a b
 ·rw[hm 4 (hp 4 (by decide)),o4];exact og l _ fun _=>rfl
 ·rw[hm 1101 (hp 1101 (by decide)),oR];exact og l _ fun _=>rfl
 ·rw[hm 1103 (hp 1103 (by decide)),oT];exact og l _ fun _=>rfl

theorem WO:∀(l:List Nat) (o:Ob),Qr o=true→Qr (KL l o)=true
 | [],_,h=>h
 |x :: l,o,h=>WO l _ (by cases o<;>first|exact h|cases h)

section
variable {M:Nat}(hM:M≤1048576)(S:SC)(hS:S.ok M)(hv:XR S=true)

def OpS (S:SC)(m:SM)(i k:Nat)(f:Fr)(fr:Nat→Ob):Prop:=WN S i 0 f fr∧f 5=.int .i64 (i:Nat)∧f 6=.list (m.fields.map fun n=>.agg n.cells)∧f 7=.ptr 0 7 0∧f 8=.int .i64 (k:Nat)∧(∀s∈[12,10],(fr s).isRow=false)∧Qr (fr 1102)=true∧
 ∃r,fr 7=.cells [.str m.name,.vec 0 1100 r 0 k false,.int .i64 ((unl [] m.fields).length:Nat)]∧fr 1100=.vec r 8 ((m.fields.take k).map fun x=>.agg (Wq S x (X2 (unl [] m.fields) x)))

include hM hS in
theorem Qz9 (m:SM)(hm:m∈S.msgs)(i:Nat)(f:Fr)(fr:Nat→Ob)(H:OpS S m i 0 f fr)(Q:Exit→St→Prop)(hq:∀f fr,OpS S m i m.fields.length f fr→Q (.exit 2) ⟨f,[fr],[]⟩):QJ Tryz.prog (.loop CV) ⟨f,[fr],[]⟩ Q:=by
 let I:Nat→St→Prop:=fun n st=>∃f fr k,st=⟨f,[fr],[]⟩∧n=m.fields.length-k∧k≤m.fields.length∧OpS S m i k f fr
 have hmo:=hS.msgs m hm;have hl1:=hmo.len1;refine Qf I _ ⟨f,fr,0,rfl,rfl,QVr _,H⟩ ?_;clear H;rintro _ st ⟨f,fr,k,rfl,rfl,hk,H⟩;have H':=H;obtain⟨⟨h1,h2,h4,o1,o2,g,h,o4,oR,oT⟩,h5,h6,h7,h8,Kr,r2,r,o7,oP⟩:=H';simp only[CV,RP,QWE,h6,h8,Qa,seval];by_cases hlt:k<m.fields.length
 case neg=>
  have e:k=m.fields.length:=by omega
  subst e;simp only[Qu hlt,Qa,seval];refine hq _ _ ⟨H.1.to ⟨(by rfl),(by rfl),(by rfl)⟩ ⟨rfl,rfl,rfl,rfl,rfl⟩,(by exact h5),(by exact h6),(by exact h7),(by exact h8),Kr,r2,r,o7,oP⟩
 obtain⟨x,hx⟩:∃x,m.fields[k]? = some x:=⟨m.fields[k],QVl hlt⟩;have hxl:=(hmo.fields x (QVw hx)).len;have e1:=Qh k _ hlt (by simp only[maxLen];omega);have htl:(m.fields.take k).length=k:=by rw[QV8];omega
 have hc:=u39 hM S hS m.fields (by omega) k x hx (by omega);simp only[SC.av]at hc;simp only[Qs hlt,RQ,h1,h6,h7,h8,o1,o7,eE,seval];refine aC hc ?_;refine QM rfl rfl (by decide) rfl rfl ?_;rw[show List.map nn0 (Wq S x (X2 (unl [] m.fields) x))=Wq S x (X2 (unl [] m.fields) x)from rfl];refine QI (xs:=(m.fields.take k).map fun x=>.agg (Wq S x (X2 (unl [] m.fields) x))) (by rfl) (by exact oP) rfl (by rw[QWE,htl]) (by rfl) rfl (by simp only[QVx,QWp,maxLen];omega) (by simp only[QVx,QWp];omega) ?_;simp only[h7,h8,o7,e1,RS,eE,seval];refine⟨m.fields.length-(k+1),by omega,_,_,k+1,rfl,rfl,by omega,H.1.to ⟨(by rfl),(by rfl),(by rfl)⟩ ⟨(by rfl),(by rfl),(by rfl),(by rfl),(by rfl)⟩,(by exact h5),(by exact h6),(by exact h7),(by rfl),?_,(by exact r2),r+1,(by rfl),?_⟩
 ·intro s hs;simp only[QWy,QXi,or_false]at hs;rcases hs with rfl|rfl<;>exact Kr _ (by decide)
 ·rw[QWT,hx,QWU,QWS];exact(by rfl)

def MhS (S:SC)(i:Nat)(f:Fr)(fr:Nat→Ob):Prop:=WN S i 0 f fr∧f 5=.int .i64 (i:Nat)∧(∀s∈[12,10,7],(fr s).isRow=false)∧Qr (fr 1100)=true∧Qr (fr 1102)=true

include hM hS in
theorem QcQ (f:Fr)(fr:Nat→Ob)(H:MhS S 0 f fr)(Q:Exit→St→Prop)(hq:∀f fr,MhS S S.msgs.length f fr→Q (.exit 0) ⟨f,[fr],[]⟩):QJ Tryz.prog (.loop Io) ⟨f,[fr],[]⟩ Q:=by
 let I:Nat→St→Prop:=fun n st=>∃f fr i,st=⟨f,[fr],[]⟩∧n=S.msgs.length-i∧i≤S.msgs.length∧MhS S i f fr
 have hl1:=hS.len1;refine Qf I _ ⟨f,fr,0,rfl,rfl,QVr _,H⟩ ?_;clear H;rintro _ st ⟨f0,fr0,i,rfl,rfl,hi,H0,h50,r0,Bb,DM⟩;refine QR (a:=_) [7] (by intro s hs;exact r0 s (by simp only[QWy,QXi,or_false]at hs ⊢;omega)) ?_;intro f fr hf hmm hn;have H:WN S i 0 f fr:=H0.drop hf hmm (by decide);have h5:f 5=.int .i64 (i:Nat):=by rw[hf,h50]<;>rfl
 have n7:=hn 7 (by decide);have r1:Qr (fr 1100)=true:=by rw[hmm 1100 (by decide)];exact WO _ _ Bb
 have r2:Qr (fr 1102)=true:=by rw[hmm 1102 (by decide)];exact WO _ _ DM
 have Kr:∀s∈[12,10],(fr s).isRow=false:=by
  intro s hs;have e:s∉[7]:=by simp only[QWy,QXi,or_false]at hs ⊢;omega
  rw[hmm s e];have:=r0 s (by simp only[QWy,QXi,or_false]at hs ⊢;omega)
  revert this
  cases fr0 s<;>intro h<;>first|rfl|exact h
 clear hf hmm hn H0 h50 r0 Bb DM;have H':=H;obtain⟨h1,h2,h4,o1,o2,g,h,o4,oR,oT⟩:=H';simp only[Ii,QWE,h1,h5,o1,eE,seval];by_cases hlt:i<S.msgs.length
 case neg=>
  have e:i=S.msgs.length:=by omega
  subst e;simp only[Qu hlt,Qa,seval];refine hq _ _ ⟨H.to ⟨(by rfl),(by rfl),(by rfl)⟩ ⟨rfl,rfl,rfl,rfl,rfl⟩,(by exact h5),fun s hs=>?_,r1,r2⟩;simp only[QWy,QXi,or_false]at hs;rcases hs with rfl|rfl|rfl
  ·exact Kr 12 (by decide)
  ·exact Kr 10 (by decide)
  ·rw[n7];rfl
 obtain⟨m,hm⟩:∃x,S.msgs[i]? = some x:=⟨S.msgs[i],QVl hlt⟩;have hmm:=QVw hm;have hmo:=hS.msgs m hmm;have hml:=hmo.len1;have hg:(S.msgs.map fun n=>AV.agg n.cells)[i]? = some (.agg m.cells):=by rw[QWB,hm];rfl
 rw[XL]at hg;have e1:=Qh i _ hlt (by simp only[maxLen];omega);have htl:(S.msgs.take i).length=i:=by rw[QV8];omega
 simp only[Qs hlt,Ij,Ik,Qd,QWH,Qb,hg,h1,h5,o1,eE,seval];refine aC (u38 m.fields (by omega)) ?_;simp only[n7,QWE,eE,seval];refine D6 (by rfl) rfl (by exact r1) rfl ?_;simp only[Il,Qa,seval];refine Qz9 hM S hS m hmm i _ _ ⟨H.to ⟨(by rfl),(by rfl),(by rfl)⟩ ⟨(by rfl),(by rfl),(by rfl),(by rfl),(by rfl)⟩,(by exact h5),(by rfl),(by rfl),(by rfl),?_,(by exact r2),_,(by rfl),(by rfl)⟩ _ (fun f fr H=>?_)
 ·intro s hs;simp only[QWy,QXi,or_false]at hs;rcases hs with rfl|rfl<;>exact Kr _ (by decide)
 clear h1 h2 h4 h5 o1 o2 o4 oR oT n7 r1 r2 Kr;obtain⟨H,h5,h6,h7,h8,Kr,r2,r,o7,oP⟩:=H;have H':=H;obtain⟨h1,h2,h4,o1,o2,g,h,o4,oR,oT⟩:=H';rw[QWQ]at oP;simp only[Qa,seval];refine FX o7 rfl oP (by simp) ?_;have ht:List.take m.fields.length (m.fields.map fun x=>AV.agg (Wq S x (X2 (unl [] m.fields) x)))=m.fields.map fun x=>AV.agg (Wq S x (X2 (unl [] m.fields) x)):=QVQ (by simp)
 have eG:(Zq S m).cells=[.str m.name,.list (m.fields.map fun x=>AV.agg (Wq S x (X2 (unl [] m.fields) x))),.int .i64 ((unl [] m.fields).length:Nat)]:=by
  unfold PG.cells Zq;simp only[QWW];rfl
 simp only[ht,List.set_cons_zero,List.set_cons_succ,RT,h4,h7,o4,eE,seval];refine QM rfl rfl (by decide) rfl rfl ?_;simp only[nn0,QVP,QWe,seval];refine QI (xs:=(S.msgs.take i).map fun m=>.agg (Zq S m).cells) (by rfl) (by exact oR) rfl (by rw[QWE,htl]) (by rfl) rfl (by simp only[QVx,QWp,maxLen];omega) (by simp only[QVx,QWp];omega) ?_;simp only[h4,h5,o4,e1,Im,eE,seval];obtain⟨a,b,o2⟩:=o2;refine⟨S.msgs.length-(i+1),by omega,_,_,i+1,rfl,rfl,by omega,⟨(by exact h1),(by exact h2),(by exact h4),(by exact o1),⟨a,b,(by exact o2)⟩,g+1,h,(by rfl),?_,(by exact oT)⟩,(by rfl),?_,(by rfl),(by exact r2)⟩
 ·rw[QWT,hm,QWU,QWS];simp only[QVP,QWe,eG,Qa,seval]
 ·intro s hs;simp only[QWy,QXi,or_false]at hs;rcases hs with rfl|rfl|rfl
  ·exact Kr 12 (by decide)
  ·exact Kr 10 (by decide)
  ·rfl

end

section
variable {M:Nat}(hM:M≤1048576)(S:SC)(hS:S.ok M)(hv:XR S=true)

def ItS (S:SC)(e:SE)(j k:Nat)(f:Fr)(fr:Nat→Ob):Prop:=WN S S.msgs.length j f fr∧f 9=.int .i64 (j:Nat)∧f 10=.ptr 0 10 0∧f 11=.int .i64 (k:Nat)∧(∀s∈[12],(fr s).isRow=false)∧
 ∃r,fr 10=.cells [.str e.name,.bool e.opn,.vec 0 1102 r 0 k false,.list (e.free.map fun n=>.agg n.cells),.nils]∧fr 1102=.vec r 3 ((e.items.take k).map fun x=>.agg (ZJ x).cells)

include hM hS hv in
theorem Aq (e:SE)(j:Nat)(he:S.enums[j]? = some e)(f:Fr)(fr:Nat→Ob)(H:ItS S e j 0 f fr)(Q:Exit→St→Prop)(hq:∀f fr,ItS S e j e.items.length f fr→Q (.exit 6) ⟨f,[fr],[]⟩):QJ Tryz.prog (.loop Ip) ⟨f,[fr],[]⟩ Q:=by
 let I:Nat→St→Prop:=fun n st=>∃f fr k,st=⟨f,[fr],[]⟩∧n=e.items.length-k∧k≤e.items.length∧ItS S e j k f fr
 have hem:=QVw he;have heo:=hS.enums e hem;have hek:=Wm ((Si hv).es e hem);have hl1:=heo.len1;refine Qf I _ ⟨f,fr,0,rfl,rfl,QVr _,H⟩ ?_;clear H;rintro _ st ⟨f0,fr0,k,rfl,rfl,hk,H0,h90,h100,h110,Kr,r,Bd,oP0⟩;refine QR (a:=_) [12] Kr ?_;intro f fr hf hmm hn;have H:WN S S.msgs.length j f fr:=H0.drop hf hmm (by decide);have h9:f 9=.int .i64 (j:Nat):=by rw[hf,h90]<;>rfl
 have h10:f 10=.ptr 0 10 0:=by rw[hf,h100]<;>rfl
 have h11:f 11=.int .i64 (k:Nat):=by rw[hf,h110]<;>rfl
 have XG:fr 10=.cells [.str e.name,.bool e.opn,.vec 0 1102 r 0 k false,.list (e.free.map fun n=>.agg n.cells),.nils]:=by rw[hmm 10 (by decide),Bd]<;>rfl
 have oP:fr 1102=.vec r 3 ((e.items.take k).map fun x=>.agg (ZJ x).cells):=by rw[hmm 1102 (by decide),oP0]<;>rfl
 have n12:=hn 12 (by decide);clear hf hmm hn H0 h90 h100 h110 Kr Bd oP0;have H':=H;obtain⟨h1,h2,h4,o1,o2,g,h,o4,oR,oT⟩:=H';have hge:(S.enums.map fun n=>AV.agg n.cells)[j]? = some (.agg e.cells):=by rw[QWB,he];rfl
 rw[X7 e]at hge;simp only[RY,Qd,QWH,Qb,hge,QWE,h1,h9,h11,o1,eE,seval];by_cases hlt:k<e.items.length
 case neg=>
  have ek:k=e.items.length:=by omega
  subst ek;simp only[Qu hlt,Qa,seval];refine hq _ _ ⟨H.to ⟨(by rfl),(by rfl),(by rfl)⟩ ⟨rfl,rfl,rfl,rfl,rfl⟩,(by exact h9),(by exact h10),(by exact h11),?_,r,XG,oP⟩;intro s hs;simp only[QWy,QXi,or_false]at hs;subst hs;rw[n12];rfl
 obtain⟨x,hx⟩:∃x,e.items[k]? = some x:=⟨e.items[k],QVl hlt⟩;have hxo:=heo.items x (QVw hx);have hxl:=hxo.len;have hcl:=Ap (Wn hek hx).notes;have hgi:(e.items.map fun n=>AV.agg n.cells)[k]? = some (.agg x.cells):=by rw[QWB,hx];rfl
 rw[Jk x]at hgi;have e1:=Qh k _ hlt (by simp only[maxLen];omega);have htl:(e.items.take k).length=k:=by rw[QV8];omega
 have hc:=u40 x.notes (by omega);simp only[Qs hlt,n12,RZ,R0,Qd,QWH,Qb,hge,hgi,h1,h9,h10,h11,o1,XG,eE,seval];refine aC hc ?_;simp only[eE,seval];refine QM rfl rfl (by decide) rfl rfl ?_;simp only[nn0,QVP,QWe,seval];refine QI (xs:=(e.items.take k).map fun x=>.agg (ZJ x).cells) (by rfl) (by exact oP) rfl (by rw[QWE,htl]) (by rfl) rfl (by simp only[QVx,QWp,maxLen];omega) (by simp only[QVx,QWp];omega) ?_;simp only[h10,h11,XG,e1,R1,eE,seval];refine⟨e.items.length-(k+1),by omega,_,_,k+1,rfl,rfl,by omega,H.to ⟨(by rfl),(by rfl),(by rfl)⟩ ⟨(by rfl),(by rfl),(by rfl),(by rfl),(by rfl)⟩,(by exact h9),(by exact h10),(by rfl),?_,r+1,(by rfl),?_⟩
 ·intro s hs;simp only[QWy,QXi,or_false]at hs;subst hs;rfl
 ·rw[QWT,hx,QWU,QWS];simp only[QVP,QWe,hcl,Qa,seval]

def EhS (S:SC)(j:Nat)(f:Fr)(fr:Nat→Ob):Prop:=WN S S.msgs.length j f fr∧f 9=.int .i64 (j:Nat)∧(∀s∈[12,10],(fr s).isRow=false)∧Qr (fr 1102)=true

include hM hS hv in
theorem Ar (f:Fr)(fr:Nat→Ob)(H:EhS S 0 f fr)(Q:Exit→St→Prop)(hq:∀f fr,EhS S S.enums.length f fr→Q (.exit 4) ⟨f,[fr],[]⟩):QJ Tryz.prog (.loop Iq) ⟨f,[fr],[]⟩ Q:=by
 let I:Nat→St→Prop:=fun n st=>∃f fr i,st=⟨f,[fr],[]⟩∧n=S.enums.length-i∧i≤S.enums.length∧EhS S i f fr
 have hl1:=hS.len2;refine Qf I _ ⟨f,fr,0,rfl,rfl,QVr _,H⟩ ?_;clear H;rintro _ st ⟨f0,fr0,j,rfl,rfl,hj,H0,h90,r0,DM⟩;refine QR (a:=_) [12,10] r0 ?_;intro f fr hf hmm hn;have H:WN S S.msgs.length j f fr:=H0.drop hf hmm (by decide);have h9:f 9=.int .i64 (j:Nat):=by rw[hf,h90]<;>rfl
 have n12:=hn 12 (by decide);have n10:=hn 10 (by decide);have r2:Qr (fr 1102)=true:=by rw[hmm 1102 (by decide)];exact WO _ _ DM
 clear hf hmm hn H0 h90 r0 DM;have H':=H;obtain⟨h1,h2,h4,o1,o2,g,h,o4,oR,oT⟩:=H';simp only[RV,QWE,h1,h9,o1,eE,seval];by_cases hlt:j<S.enums.length
 case neg=>
  have e:j=S.enums.length:=by omega
  subst e;simp only[Qu hlt,Qa,seval];refine hq _ _ ⟨H.to ⟨(by rfl),(by rfl),(by rfl)⟩ ⟨rfl,rfl,rfl,rfl,rfl⟩,(by exact h9),fun s hs=>?_,r2⟩;simp only[QWy,QXi,or_false]at hs;rcases hs with rfl|rfl
  ·rw[n12];rfl
  ·rw[n10];rfl
 obtain⟨e,he⟩:∃x,S.enums[j]? = some x:=⟨S.enums[j],QVl hlt⟩;have heo:=hS.enums e (QVw he);have hel1:=heo.len1;have hel2:=heo.len2;have hge:(S.enums.map fun n=>AV.agg n.cells)[j]? = some (.agg e.cells):=by rw[QWB,he];rfl
 rw[X7 e]at hge;have e1:=Qh j _ hlt (by simp only[maxLen];omega);have htl:(S.enums.take j).length=j:=by rw[QV8];omega
 have ha2:(e.free.map fun n=>AV.agg n.cells).all (fun e=>e.cells.length==2)=true:=by
  rw[QVv];intro x hx;obtain⟨y,_,rfl⟩:=QWz.1 hx;rfl
 simp only[Qs hlt,RW,Qd,QWH,Qb,hge,h1,h9,o1,Qdr,eE,seval];refine DD (xs:=[]) (ys:=e.free.map fun n=>.agg n.cells) (by rfl) (by rfl) rfl ha2 (by simp only[QWE,QWp,maxLen];omega) (by simp only[QWE,QWp];omega) ?_;simp only[n10,QVE,eE,seval];refine D6 (by rfl) rfl (by exact r2) rfl ?_;simp only[RX,Qa,seval];refine Aq hM S hS hv e j he _ _ ⟨H.to ⟨(by rfl),(by rfl),(by rfl)⟩ ⟨(by rfl),(by rfl),(by rfl),(by rfl),(by rfl)⟩,(by exact h9),(by rfl),(by rfl),?_,_,(by rfl),(by rfl)⟩ _ (fun f fr H=>?_)
 ·intro s hs;simp only[QWy,QXi,or_false]at hs;subst hs;simp only[n12,Qa,seval]<;>rfl
 clear h1 h2 h4 h9 o1 o2 o4 oR oT n12 n10 r2;obtain⟨H,h9,h10,h11,Kr,r,XG,oP⟩:=H;obtain⟨h1,h2,h4,o1,o2,g,h,o4,oR,oT⟩:=H;rw[QWQ]at oP;simp only[Qa,seval];refine FX XG rfl oP (by simp) ?_;have ht:List.take e.items.length (e.items.map fun x=>AV.agg (ZJ x).cells)=e.items.map fun x=>AV.agg (ZJ x).cells:=QVQ (by simp)
 have eG:(ZS e).cells=[.str e.name,.bool e.opn,.list (e.items.map fun x=>.agg (ZJ x).cells),.list (e.free.map fun n=>.agg n.cells),.list []]:=by
  unfold PE.cells ZS;simp only[QWW];rfl
 simp only[ht,List.set_cons_zero,List.set_cons_succ,R2,h4,h10,o4,eE,seval];refine QM rfl rfl (by decide) rfl rfl ?_;simp only[nn0,QVP,QWe,seval];refine QI (xs:=(S.enums.take j).map fun m=>.agg (ZS m).cells) (by rfl) (by exact oT) rfl (by rw[QWE,htl]) (by rfl) rfl (by simp only[QVx,QWp,maxLen];omega) (by simp only[QVx,QWp];omega) ?_;simp only[h4,h9,o4,e1,R3,eE,seval];obtain⟨a,b,o2⟩:=o2;refine⟨S.enums.length-(j+1),by omega,_,_,j+1,rfl,rfl,by omega,⟨(by exact h1),(by exact h2),(by exact h4),(by exact o1),⟨a,b,(by exact o2)⟩,g,h+1,(by rfl),(by exact oR),?_⟩,(by rfl),?_,(by rfl)⟩
 ·rw[QWT,he,QWU,QWS];simp only[QVP,QWe,eG,Qa,seval]
 ·intro s hs;simp only[QWy,QXi,or_false]at hs;rcases hs with rfl|rfl
  ·exact Kr 12 (by decide)
  ·rfl
end

section
variable {M:Nat}(hM:M≤1048576)(S:SC)(hS:S.ok M)
include hM hS in
theorem u21 (h8:S.msgs.length≤8∧S.enums.length≤8∧S.servs.length≤8):Qj Tryz.prog 21 [S.av] (DV S):=by
 have hv:=u16 hM S hS h8;simp only[SC.av]at hv;refine k21.fn (by simp) ?_;simp only[r21,o21,Ib,Ic,SC.av,eE,seval];refine aC hv ?_;unfold DV;cases hs:XR S
 ·rw[QVp (by simp)];simp only[Ie,QWl,eE,seval]
 rw[QVq rfl];simp only[Ig,QWZ,eE,seval];refine Xm rfl rfl rfl rfl ?_;refine Xm rfl rfl rfl rfl ?_;simp only[Ih,Qa,seval];refine QcQ hM S hS _ _ ⟨⟨(by rfl),(by rfl),(by rfl),(by rfl),⟨_,_,rfl⟩,1,1,(by rfl),(by rfl),(by rfl)⟩,(by rfl),by intro s hs;simp only[QWy,QXi,or_false]at hs;rcases hs with rfl|rfl|rfl<;>rfl,rfl,rfl⟩ _ (fun f fr H=>?_);obtain⟨H,h5,r7,-,r2⟩:=H;simp only[RU,Qa,seval];refine Ar hM S hS hs _ _ ⟨H.to ⟨(by rfl),(by rfl),(by rfl)⟩ ⟨rfl,rfl,rfl,rfl,rfl⟩,(by rfl),fun s hs=>r7 s (by simp only[QWy,QXi,or_false]at hs ⊢;omega),r2⟩ _ (fun f fr H=>?_);obtain⟨⟨h1,h2,h4,o1,⟨a,b,o2⟩,g,h,o4,oR,oT⟩,-⟩:=H;have ht1:List.take S.msgs.length (S.msgs.map fun m=>AV.agg (Zq S m).cells)=S.msgs.map fun m=>AV.agg (Zq S m).cells:=QVQ (by simp)
 have ht2:List.take S.enums.length (S.enums.map fun m=>AV.agg (ZS m).cells)=S.enums.map fun m=>AV.agg (ZS m).cells:=QVQ (by simp)
 have eP:(QE S).av=.agg [.list (S.msgs.map fun m=>.agg (Zq S m).cells),.list (S.enums.map fun e=>.agg (ZS e).cells)]:=by
  unfold PL.av QE;simp only[QWW];rfl
 rw[QWQ]at oR oT;simp only[R4,h2,h4,o2,o4,oR,oT,eP,ht1,ht2,QWE,QVY,QVH,QVi,QWh,QWn,AV.un,AV.unL,eE,seval]
end

theorem Dp (l:List FD):(l.map Xd).all (fun e=>e.cells.length==4)=true:=by
 rw[QVv];intro z hz;obtain⟨w,_,rfl⟩:=QWz.1 hz;rfl
theorem QcR {l:List FD}{i:Nat}{x:FD}(h:l[i]? = some x):(l.map Xd)[i]? = some (.agg [.str x.df,.int .i64 x.num,.int .i64 x.err,.list (x.path.map iw)]):=by
 rw[QWB,h];rfl

theorem u9 (l:List FD)(hl:l.length≤1000000)(hp:∀x∈l,x.path.length≤1000):Qj Tryz.prog 9 [.list (l.map Xd),.list (l.map Xd)] (.bool true):=by
 refine k9.fn (by simp) ?_;simp only[bne_self_eq_false,Qa,seval];refine QO (X:=Nat) (fun k=>[(0,.list (l.map Xd)),(1,.list (l.map Xd)),(5,.int .i64 (k:Nat))]) (fun _=>[]) [] (fun k=>l.length-k) (fun k=>k≤l.length) (fun _=>[]) 0 (QVr _) ?_;intro k f fr hk;simp only[QWE,Xa,QWe,Qa,seval];rcases Xi l k with⟨x,hx,hlt⟩|hlt
 case inr=>simp only[Qu hlt,Qa,seval]
 have hxm:=QVw hx;have hxp:=hp x hxm;have hg:=QcR hx;have e1:=Qh k _ hlt (by simp only[maxLen];omega);simp only[Qs hlt,Qd,QWH,Qb,hg,Qz,beq_self_eq_true,bne_self_eq_false,QWE,QWZ,cond_true,cond_false,eE,seval];refine QO (X:=Nat) (fun i=>[(0,.list (l.map Xd)),(1,.list (l.map Xd)),(5,.int .i64 (k:Nat)),(6,.int .i64 (i:Nat))]) (fun _=>[]) [] (fun i=>x.path.length-i) (fun i=>i≤x.path.length) (fun _=>[]) 0 (QVr _) ?_;intro i f fr hi;simp only[Qd,QWH,Qb,hg,QWE,Xa,QWe,eE,seval];rcases Xi x.path i with⟨w,hw,hli⟩|hli
 case inr=>
  simp only[Qu hli,e1,Qa,seval];exact Ix.go (k+1) (by omega) (by omega)
 have hgw:(x.path.map iw)[i]? = some (.int .i64 w):=by rw[QWB,hw];rfl
 have e2:=Qh i _ hli (by simp only[maxLen];omega);simp only[Qs hli,Qd,QWH,Qb,hg,hgw,bne_self_eq_false,e2,cond_true,cond_false,eE,seval];exact Ix.go (i+1) (by omega) (by omega)

section
variable {M:Nat}(hM:M≤1048576)(S T:SC)(hS:S.ok M)(hT:T.ok M)(S8:S.msgs.length≤8∧S.enums.length≤8∧S.servs.length≤8)(T8:T.msgs.length≤8∧T.enums.length≤8∧T.servs.length≤8)(vS:XR S=true)(vT:XR T=true)(eS:EnO (QE S))(eT:EnO (QE T))(s:List UInt8)(fm:Int)
include hM hS hT S8 T8 vS vT eS eT

set_option maxHeartbeats 2000000 in
theorem S0:Qj Tryz.prog 11 [S.av,T.av,.str s,.int .i64 fm] (.list ((Z6 (QE S) (QE T) s fm).map Xd)):=by
 have l8P:(QE S).progs.length≤8:=by have:=S8.1;unfold QE;simp only[QWE];omega
 have l8R:(QE T).progs.length≤8:=by have:=T8.1;unfold QE;simp only[QWE];omega
 have hP:=ZF (ZL vS);have hR:=ZF (ZL vT);have uP:=SL (ZL vS);have uR:=SL (ZL vT);have mS:=u21 hM S hS S8;have mT:=u21 hM T hT T8;rw[DV,QVq vS]at mS;rw[DV,QVq vT]at mT;have fS:=y22 (QE S) (by simp only[maxLen];omega) s;have fT:=y22 (QE T) (by simp only[maxLen];omega) s;rw[V9]at fS fT;generalize QE S=P at *;generalize QE T=R at *;rw[Qz1]at mS mT fS fT;simp only[SC.av]at mS mT;refine k11.fn (by simp) ?_;unfold Z6;cases hk:K2 fm
 case false=>
  rw[QVq rfl];unfold K2 at hk;rw[QV6,QV6]at hk;have k1:(fm != 1)=true:=by simp[bne,hk.1.1]
  have k2:(fm != 2)=true:=by simp[bne,hk.1.2]
  have k3:(fm != 4)=true:=by simp[bne,hk.2]
  simp only[SC.av,k1,k2,k3,QWs,cond_true,cond_false,eE,seval];refine QM rfl rfl (by decide) rfl rfl ?_;simp only[nn0,Wt,JF,QVP,QWe,Qa,seval]
 rw[QVp (by simp)];have hf:=Dn hk;have go:∀b:Bool,(bif fm != 1 then(bif fm != 2 then fm != 4 else false)else false)=b→b=false:=by
  intro b h;subst h;rcases hf with rfl|rfl|rfl<;>rfl
 have hkk:((fm != 1)=false∧True∧True)∨((fm != 1)=true∧(fm != 2)=false∧True)∨((fm != 1)=true∧(fm != 2)=true∧(fm != 4)=false):=by
  rcases hf with rfl|rfl|rfl<;>simp
 rcases hkk with⟨k1,k2,k3⟩|⟨k1,k2,k3⟩|⟨k1,k2,k3⟩
 all_goals
  simp only[SC.av,k1,k2,k3,QWs,cond_true,cond_false,eE,seval];refine aC mS ?_;simp only[eE,seval];refine aC mT ?_;simp only[eE,seval];refine aC fS ?_;simp only[eE,seval];refine aC fT ?_;clear k1 k2 k3 go;by_cases h1:Xv P s<0
  ·have d1:decide (Xv P s≥0)=false:=QW3 (by omega);rw[QVq (show Xv P s<0∨Xv R s<0 from .inl h1)];simp only[d1,QWs,QWl,cond_true,cond_false,eE,seval];refine QM rfl rfl (by decide) rfl rfl ?_;simp only[nn0,Wt,JF,QVP,QWe,Qa,seval]
  by_cases h2:Xv R s<0
  ·have d1:decide (Xv P s≥0)=true:=QXb (by omega);have d2:decide (Xv R s≥0)=false:=QW3 (by omega);rw[QVq (show Xv P s<0∨Xv R s<0 from .inr h2)];simp only[d1,d2,QWs,QWZ,QWl,cond_true,cond_false,eE,seval];refine QM rfl rfl (by decide) rfl rfl ?_;simp only[nn0,Wt,JF,QVP,QWe,Qa,seval]
  have d1:decide (Xv P s≥0)=true:=QXb (by omega);have d2:decide (Xv R s≥0)=true:=QXb (by omega);rw[QVp (show ¬(Xv P s<0∨Xv R s<0)by omega)];obtain⟨a,ea,ha⟩:=JU (P:=P) (s:=s) (by omega);obtain⟨b,eb,hb⟩:=JU (P:=R) (s:=s) (by omega);have n1:¬((a:Nat):Int)<0:=by omega
  have n2:¬((b:Nat):Int)<0:=by omega
  rw[ea]at d1;rw[eb]at d2;rw[ea,eb,QWH,QWH];have hok:=Ws (fm:=fm) hP hR ha hb;have cp:=u23 P R hP hR uP uR eS eT l8P l8R fm hf a b ha hb;have hLl:=KG l8P l8R (hok 128).1;simp only[QC]at cp;simp only[d1,d2,n1,n2,QWs,QWZ,cond_true,cond_false,eE,seval];refine aC cp ?_;simp only[Qa,seval];refine Zv rfl rfl ?_;simp only[Qa,seval];have hQ:=(hok 128).1;unfold WU;clear hok;generalize Zs P R fm a b 128=L at *;refine QO (X:=Nat×List FD) (fun x=>[(17,.ptr 0 17 0),(18,.list (L.map Pq.av)),(19,.vec 0 19 (1+x.1) 0 x.2.length false),(20,.int .i64 (x.1:Nat))]) (fun x=>[(17,.cells (jc P R fm)),(19,.vec (1+x.1) 4 (x.2.map Xd))]) [] (fun x=>L.length-x.1) (fun x=>x.1≤L.length∧x.2=(L.take x.1).flatMap (K1 P R fm)) (fun _=>[]) (0,[]) ⟨QVr _,rfl⟩ ?_;rintro⟨i,l⟩ f fr ⟨hi,hl⟩;dsimp only at hi hl;have hll:l.length≤32768:=by
   have:=YE (fm:=fm) hP hR (L.take i);rw[←hl,QV8]at this;omega
  simp only[jc,QWE,Xa,QWe,Qa,seval];rcases Xi L i with⟨y,hy,hlt⟩|hlt
  case inr=>
   rw[QVQ (by omega)]at hl;rw[←hl];have ex:(l.map Xd).take l.length=l.map Xd:=QVQ (by simp);simp only[Qu hlt,QWE,ex,QVY,QVH,QVi,QWh,QWn,AV.un,eE,seval]
  have hym:=QVw hy;have hyw:=hQ.ltw y hym;have hyr:=hQ.ltr y hym;obtain⟨g,hg⟩:∃g,P.progs[y.w]? = some g:=⟨P.progs[y.w],QVl hyw⟩;obtain⟨h,hh⟩:∃h,R.progs[y.r]? = some h:=⟨R.progs[y.r],QVl hyr⟩;have hgy:=GF hy;have e1:=Qh i _ hlt (by simp only[maxLen];omega);have hfn:=Nw (fm:=fm) hg hh;have hfl:=Dl (fm:=fm) hP hR y;rw[hfn]at hfl;have hl':(L.take (i+1)).flatMap (K1 P R fm)=l++Wr P R fm g h y:=by
   rw[QWT,hy,QXn,←hl];simp[hfn]
  have c1:=u24 P R hP hR uP uR eS eT fm hf y g h hg hh;simp only[QC,DZ]at c1;simp only[Qs hlt,Qd,QWH,Qb,hgy,eE,seval];refine aC c1 ?_;refine QI (xs:=l.map Xd) (by rfl) (by rfl) rfl (by simp) (by rfl) (Dp _) (by simp only[QWE,maxLen];omega) (by simp only[QWE];omega) ?_;simp only[e1,Qa,seval];exact Ix.go (i+1,l++Wr P R fm g h y) (by dsimp only;omega) ⟨by dsimp only;omega,hl'.symm⟩ (hf:=by simp only[Ag,QVU,QWE,QVh];rfl) (ho:=by simp only[Ag,QWS,QVh];rfl)

theorem u8:Qj Tryz.prog 8 [S.av,T.av,.str s,.int .i64 fm] (V8 (Z6 (QE S) (QE T) s fm)):=by
 have hc:=S0 hM S T hS hT S8 T8 vS vT eS eT s fm;generalize Z6 (QE S) (QE T) s fm=l at *;simp only[SC.av]at hc;unfold V8;refine k8.fn (by simp) ?_;simp only[SC.av,eE,seval];refine aC hc ?_;cases l with
 |nil=>simp only[JF,QWe,List.head?_nil,QWP,QV5,eE,seval]
 |cons x l=>
  have d:(((l.length+1:Nat):Int)==0)=false:=by simp;omega
  simp only[d,Qb,JF,QWE,QVP,List.head?_cons,QWo,QW4,eE,seval]

theorem u13:Qj Tryz.prog 13 [S.av,T.av,.str s,.int .i64 fm] (.bool (!(Z6 (QE S) (QE T) s fm).head?.isSome)):=by
 have hc:=S0 hM S T hS hT S8 T8 vS vT eS eT s fm;generalize Z6 (QE S) (QE T) s fm=l at *;simp only[SC.av]at hc;refine k13.fn (by simp) ?_;simp only[SC.av,eE,seval];refine aC hc ?_;cases l with
 |nil=>simp only[QWe,List.head?_nil,QV5,Qa,seval]
 |cons x l=>
  have d:(((l.length+1:Nat):Int)==0)=false:=by simp;omega
  simp only[d,QWE,QVP,List.head?_cons,QW4,Qa,seval]
end

theorem u25 (n b:Int):Qj Tryz.prog 25 [.int .i64 n,.int .i64 b] (.bool (WM n b)):=by
 unfold WM;refine k25.fn (by simp) ?_;simp only[Qa,seval]

def Uy:Nat→Int
 |0=>1
 |1=>2
 |2=>4
 |_=>8
theorem IM {k:Nat}(h:k<3):JA[k]? = some (Uy k)∧decide (Uy k≤4)=true∧IntKind.i64.wrap (Uy k+Uy k)=Uy (k+1):=by
 have:k=0∨k=1∨k=2:=by omega
 rcases this with rfl|rfl|rfl<;>exact⟨rfl,rfl,rfl⟩

section
variable {M:Nat}(hM:M≤1048576)(S T:SC)(hS:S.ok M)(hT:T.ok M)(S8:S.msgs.length≤8∧S.enums.length≤8∧S.servs.length≤8)(T8:T.msgs.length≤8∧T.enums.length≤8∧T.servs.length≤8)(vS:XR S=true)(vT:XR T=true)(eS:EnO (QE S))(eT:EnO (QE T))(s:List UInt8)
include hM hS hT S8 T8 vS vT eS eT

theorem u15 (md fs:Int):Qj Tryz.prog 15 [S.av,T.av,.str s,.int .i64 md,.int .i64 fs] (.list ((D4 (QE S) (QE T) s md fs).map Xd)):=by
 have l8P:(QE S).progs.length≤8:=by have:=S8.1;unfold QE;simp only[QWE];omega
 have l8R:(QE T).progs.length≤8:=by have:=T8.1;unfold QE;simp only[QWE];omega
 have hP:=ZF (ZL vS);have hR:=ZF (ZL vT);have nA:=fun fm=>Wd hP hR l8P l8R s fm
 have nB:=fun fm=>Wd hR hP l8R l8P s fm
 have cA:=fun fm=>S0 hM S T hS hT S8 T8 vS vT eS eT s fm
 have cB:=fun fm=>S0 hM T S hT hS T8 S8 vT vS eT eS s fm
 have b1:=u25 md 1;have b2:=u25 md 2;have b3:=fun f=>u25 fs f
 generalize QE S=P at *;generalize QE T=R at *;unfold D4;simp only[SC.av]at cA cB;refine k15.fn (by simp) ?_;simp only[SC.av,eE,seval];refine Zv rfl rfl ?_;simp only[Qa,seval]
 let SV:List AV:=[.list (S.msgs.map fun n=>.agg n.cells),.list (S.enums.map fun n=>.agg n.cells),.list (S.servs.map fun n=>.agg n.cells)]
 let TV:List AV:=[.list (T.msgs.map fun n=>.agg n.cells),.list (T.enums.map fun n=>.agg n.cells),.list (T.servs.map fun n=>.agg n.cells)]
 refine QO (X:=Nat×List FD×Nat) (fun x=>[(2,.str s),(3,.int .i64 md),(4,.int .i64 fs),(5,.ptr 0 5 0),(6,.ptr 0 6 0),(11,.vec 0 11 x.2.2 0 x.2.1.length false),(12,.int .i64 (Uy x.1))]) (fun x=>[(5,.cells SV),(6,.cells TV),(11,.vec x.2.2 4 (x.2.1.map Xd))]) [] (fun x=>3-x.1) (fun x=>x.1≤3∧x.2.1=(JA.take x.1).flatMap (XO P R s md fs 1)∧x.2.1.length≤32768*x.1) (fun _=>[]) (0,[],1) ⟨QVr _,rfl,QVi _⟩ ?_;rintro⟨k,l,G⟩ f fr ⟨hk,hl,hll⟩;dsimp only at hk hl hll;simp only[SV,TV,Xa,QWe,Qa,seval];by_cases hlt:k<3
 case pos=>
  obtain⟨hx,d,e1⟩:=IM hlt;generalize hxx:Uy k=x at *;have hT:(JA.take (k+1)).flatMap (XO P R s md fs 1)=l++XO P R s md fs 1 x:=by rw[QWT,hx,QXn,←hl];simp
  have c1:=cA x;have n1:=nA x;have c3:=b3 x;simp only[d,Qa,seval];refine aC b1 ?_;cases m1:WM md 1
  ·have hb:XO P R s md fs 1 x=[]:=by unfold XO;rw[m1];rfl
   simp only[e1,cond_true,cond_false,Qa,seval];exact Ix.go (k+1,l,G) (by dsimp only;omega) ⟨by dsimp only;omega,by dsimp only;rw[hT,hb,QWg],by dsimp only;omega⟩
  simp only[cond_true,cond_false,Qa,seval];refine aC c3 ?_;cases m2:WM fs x
  ·have hb:XO P R s md fs 1 x=[]:=by unfold XO;rw[m1,m2];rfl
   simp only[e1,cond_true,cond_false,Qa,seval];exact Ix.go (k+1,l,G) (by dsimp only;omega) ⟨by dsimp only;omega,by dsimp only;rw[hT,hb,QWg],by dsimp only;omega⟩
  ·have hb:XO P R s md fs 1 x=Z6 P R s x:=by unfold XO;rw[m1,m2];rfl
   simp only[cond_true,cond_false,eE,seval];refine aC c1 ?_;refine QI (xs:=l.map Xd) (by rfl) (by rfl) rfl (by simp) (by rfl) (Dp _) (by simp only[QWE,maxLen];omega) (by simp only[QWE];omega) ?_;simp only[e1,Qa,seval];exact Ix.go (k+1,l++Z6 P R s x,G+1) (by dsimp only;omega) ⟨by dsimp only;omega,by dsimp only;rw[hT,hb],by dsimp only;rw[QVU];omega⟩ (hf:=by simp only[Ag,QVU,QWE];rfl) (ho:=by simp only[Ag,QWS];rfl)
 have ek:k=3:=by omega
 subst ek;rw[show JA.take 3=JA from rfl]at hl;rw[←hl];simp only[show decide (Uy 3≤4)=false from rfl,Qa,seval];clear hlt hk;refine QO (X:=Nat×List FD×Nat) (fun x=>[(2,.str s),(3,.int .i64 md),(4,.int .i64 fs),(5,.ptr 0 5 0),(6,.ptr 0 6 0),(11,.vec 0 11 x.2.2 0 x.2.1.length false),(13,.int .i64 (Uy x.1))]) (fun x=>[(5,.cells SV),(6,.cells TV),(11,.vec x.2.2 4 (x.2.1.map Xd))]) [] (fun x=>3-x.1) (fun x=>x.1≤3∧x.2.1=l++(JA.take x.1).flatMap (XO R P s md fs 2)∧x.2.1.length≤98304+32768*x.1) (fun _=>[]) (0,l,G) ⟨QVr _,by simp,by dsimp only;omega⟩ ?_;rintro⟨k,l2,G⟩ f fr ⟨hk,hl2,hll2⟩;dsimp only at hk hl2 hll2;simp only[SV,TV,Xa,QWe,Qa,seval];by_cases hlt:k<3
 case pos=>
  obtain⟨hx,d,e1⟩:=IM hlt;generalize hxx:Uy k=x at *;have hT:l++(JA.take (k+1)).flatMap (XO R P s md fs 2)=l2++XO R P s md fs 2 x:=by rw[QWT,hx,QXn,←QVC,←hl2];simp
  have c1:=cB x;have n1:=nB x;have c3:=b3 x;simp only[d,Qa,seval];refine aC b2 ?_;cases m1:WM md 2
  ·have hb:XO R P s md fs 2 x=[]:=by unfold XO;rw[m1];rfl
   simp only[e1,cond_true,cond_false,Qa,seval];exact Ix.go (k+1,l2,G) (by dsimp only;omega) ⟨by dsimp only;omega,by dsimp only;rw[hT,hb,QWg],by dsimp only;omega⟩
  simp only[cond_true,cond_false,Qa,seval];refine aC c3 ?_;cases m2:WM fs x
  ·have hb:XO R P s md fs 2 x=[]:=by unfold XO;rw[m1,m2];rfl
   simp only[e1,cond_true,cond_false,Qa,seval];exact Ix.go (k+1,l2,G) (by dsimp only;omega) ⟨by dsimp only;omega,by dsimp only;rw[hT,hb,QWg],by dsimp only;omega⟩
  ·have hb:XO R P s md fs 2 x=Z6 R P s x:=by unfold XO;rw[m1,m2];rfl
   simp only[cond_true,cond_false,eE,seval];refine aC c1 ?_;refine QI (xs:=l2.map Xd) (by rfl) (by rfl) rfl (by simp) (by rfl) (Dp _) (by simp only[QWE,maxLen];omega) (by simp only[QWE];omega) ?_;simp only[e1,Qa,seval];exact Ix.go (k+1,l2++Z6 R P s x,G+1) (by dsimp only;omega) ⟨by dsimp only;omega,by dsimp only;rw[hT,hb],by dsimp only;rw[QVU];omega⟩ (hf:=by simp only[Ag,QVU,QWE];rfl) (ho:=by simp only[Ag,QWS];rfl)
 have ek:k=3:=by omega
 subst ek;rw[show JA.take 3=JA from rfl]at hl2;rw[←hl2];have ex:(l2.map Xd).take l2.length=l2.map Xd:=QVQ (by simp);simp only[show decide (Uy 3≤4)=false from rfl,QWE,ex,QVY,QVH,QVi,QWh,QWn,AV.un,eE,seval]
end

end Go.Proofs.YtjjmjopabpakoaaGreatDoor.Va

namespace Go.Proofs.YtjjmjopabpakoaaGreatDoor.Rc
open Go Am
abbrev QQV:IL:=[jf 4 4 0,jf 5 5 1,jg 8]
abbrev QQW:IL:=[je 13 3 4,jv 14 5 13,jy 15 14,ja 16 15,yl 17 3 5 16,yy 18 5 17 16,yj 19 18 16,jn 20 16 19]
abbrev QQX:IL:=[⟨some 21,.call (.f 6) [],none⟩,ja 8 21]
abbrev QQY:IL:=[je 23 3 4,je 24 3 5,ja 25 2,ja 26 3,zq 27 7 23 24 25 26,ja 22 27,jo 28 22 0,jo 29 22 1,F1 9 9,jh 4 9 28,ja 10 29]
abbrev QQZ:IL:=[je 31 3 4,je 32 3 5,ja 33 2,ja 34 3,zq 35 8 31 32 33 34,ja 30 35,jo 36 30 0,jo 37 30 1,F1 11 11,jh 4 11 36,ja 12 37]
abbrev QQ0:IL:=[yc 38 0 4 3 4,yc 39 0 5 3 5,ja 40 2,ja 41 3,zq 42 10 38 39 40 41,yc 43 0 4 3 4,yc 44 0 5 3 5,ja 45 2,ja 46 3,zq 47 11 43 44 45 46,jx 48 9 42 47,ja 49 48,ji 50 10 49,ji 51 12 49,⟨some 52,.val (.bin .bool .eql (.t 50) (.t 51)),(some (49,true))⟩,jk 53 49 52,ja 54 53,zw 55 0 9 4 9 54,⟨some 56,.bsl 4 1 [.str [],.int .i64 0,.int .i64 0,.nils] [(0,4,(.t 55))],(some (54,true))⟩,zw 57 0 11 4 11 54,⟨some 58,.bsl 4 1 [.str [],.int .i64 0,.int .i64 0,.nils] [(0,4,(.t 57))],(some (54,true))⟩,Ue 59 9 56 58 54,jk 60 54 59,ja 61 60,zw 62 0 4 3 4 61,zw 63 0 5 3 5 61,ji 64 2 61,ji 65 3 61,⟨some 66,.call (.f 12) [(.t 62),(.t 63),(.t 64),(.t 65)],(some (61,true))⟩,zw 67 0 4 3 4 61,zw 68 0 5 3 5 61,ji 69 2 61,ji 70 3 61,⟨some 71,.call (.f 13) [(.t 67),(.t 68),(.t 69),(.t 70)],(some (61,true))⟩,⟨some 72,.val (.bin .bool .eql (.t 66) (.t 71)),(some (61,true))⟩,jk 73 61 72,ja 74 73,⟨some 75,.call (.f 6) [],(some (74,true))⟩,jk 76 74 75,ja 8 76]
abbrev r3:RC:=jQ QQV (.seq (jQ QQW (.cond (.t 20) (jQ QQX (.ret)) (.skip))) (jQ QQY (jQ QQZ (jD QQ0 (.ret)))))
abbrev o3:List RR:=[.tmp 8]
theorem k3:CT 3 77 r3 o3:=ck Tryz.func3 Tryz.ntmps3 (by decide +kernel)
abbrev QQ1:IL:=[jf 5 5 0,jf 6 6 1,jg 10]
abbrev QQ2:IL:=[je 11 3 5,jv 12 5 11,jy 13 12,ja 14 13,yl 15 3 6 14,yy 16 5 15 14,yj 17 16 14,jn 18 14 17]
abbrev QQ3:IL:=[⟨some 19,.call (.f 6) [],none⟩,ja 10 19]
abbrev QQ4:IL:=[yc 20 0 5 3 5,yc 21 0 6 3 6,ja 22 2,ja 23 3,ja 24 4,⟨some 25,.call (.f 14) [(.t 20),(.t 21),(.t 22),(.t 23),(.t 24)],none⟩,yc 26 0 5 3 5,yc 27 0 6 3 6,ja 28 2,ja 29 3,ja 30 4,⟨some 31,.call (.f 15) [(.t 26),(.t 27),(.t 28),(.t 29),(.t 30)],none⟩,jx 32 9 25 31,ja 33 32,⟨some 34,.call (.f 6) [],(some (33,true))⟩,jk 35 33 34,ja 10 35]
abbrev r4:RC:=jQ QQ1 (.seq (jQ QQ2 (.cond (.t 18) (jQ QQ3 (.ret)) (.skip))) (jD QQ4 (.ret)))
abbrev o4:List RR:=[.tmp 10]
theorem k4:CT 4 36 r4 o4:=ck Tryz.func4 Tryz.ntmps4 (by decide +kernel)
abbrev QQ5:IL:=[jf 1 1 0,jg 2]
abbrev QQ6:IL:=[jb 3 0 1,jc 4 3,jl 5 1 4,Ud 6 5 8,ja 7 6,jm 8 1 1 7,jt 9 8 7,ys 10 1 9 7,yz 11 10 8 7,jk 12 7 11,ja 13 12,jm 14 2 1 13,jt 15 14 13,ys 16 1 15 13,yz 17 16 8 13,jk 18 13 17,ja 19 18,zy 20 3 1 19,zm 21 16 20 19,jk 22 19 21,ja 2 22]
abbrev r5:RC:=jQ QQ5 (jQ QQ6 (.ret))
abbrev o5:List RR:=[.tmp 2]
theorem k5:CT 5 23 r5 o5:=ck Tryz.func5 Tryz.ntmps5 (by decide +kernel)
end Go.Proofs.YtjjmjopabpakoaaGreatDoor.Rc

namespace Go.Proofs.YtjjmjopabpakoaaGreatDoor.Ev
open Go Am Rc

theorem S1:evT Xl tab 6000 6 []=true:=by decide +kernel

theorem KH:Qj Tryz.prog 6 [] (.bool true):=CE XX ZR S1

end Go.Proofs.YtjjmjopabpakoaaGreatDoor.Ev

namespace Go.Proofs.YtjjmjopabpakoaaGreatDoor.Va
open Go Am Rc Bt Br Up So

theorem GG {S:SC}(h:XR S=true):EnO (QE S):=by
 have hE:∀e∈S.enums,Yv e=true:=by
  unfold XR at h;simp only[QVF,QVv]at h;exact h.1.2
 have hI:∀e∈S.enums,∀i x,e.items[i]? = some x→WS e i=true:=by
  intro e he i x hx;have h1:=hE e he;unfold Yv at h1;simp only[QVF]at h1;exact QU.1 h1.1.1.2 i (QVk.1 hx).1
 have hN:∀e∈S.enums,∀(i:Nat) (x:SI),e.items[i]? = some x→(0≤x.num∧x.num≤2147483647)∧(i=0→x.num=0)∧∀(j:Nat) (y:SI),i=j+1→e.items[j]? = some y→y.num<x.num:=by
  intro e he i x hx;have h1:=hI e he i x hx;unfold WS at h1;rw[hx]at h1;simp only[QVF,QWA]at h1;obtain⟨⟨⟨⟨⟨⟨a,b⟩,c⟩,_⟩,_⟩,_⟩,_⟩:=h1;refine⟨⟨a,b⟩,fun e0=>?_,fun j y ej hy=>?_⟩
  ·subst e0
   simpa using c
  ·subst ej;dsimp only at c;rw[hy]at c
   simpa using c
 have hget:∀e∈(QE S).enums,∃e'∈S.enums,e.items=e'.items.map ZJ:=by
  intro e he;unfold QE at he;obtain⟨e',he',rfl⟩:=QWz.1 he;exact⟨e',he',rfl⟩
 refine⟨fun e he x hx=>?_,fun e he=>?_,fun e he i x hx hi=>?_⟩
 ·obtain⟨e',he',hi⟩:=hget e he;rw[hi]at hx;obtain⟨z,hz,rfl⟩:=QWz.1 hx;obtain⟨i,hi⟩:=QVu.1 hz;exact(hN e' he' i z hi).1
 ·obtain⟨e',he',hi⟩:=hget e he;have h1:=hE e' he';unfold Yv at h1;simp only[QVF,QWA]at h1;have h2:=h1.1.1.1.1.1.2;have hx:e'.items[0]? = some (e'.items[0]'(by omega)):=QVl (by omega);refine⟨ZJ (e'.items[0]'(by omega)),by rw[hi,QWB,hx];rfl,?_⟩;exact(hN e' he' 0 _ hx).2.1 rfl
 ·obtain⟨e',he',hm⟩:=hget e he;rw[hm,QWB]at hx;obtain⟨z,hz,rfl⟩:=QVn.1 hx;obtain⟨j,rfl⟩:∃j,i=j+1:=⟨i-1,by omega⟩;have hl:=(QVk.1 hz).1;have hy:e'.items[j]? = some (e'.items[j]'(by omega)):=QVl (by omega);have h1:=(hN e' he' (j+1) z hz).2.2 j _ rfl hy;have h2:=(hN e' he' j _ hy).1;show 0<z.num;omega

theorem Wu {h:PG}{p:Pq}{b:Bool}{n e:Int}{x:FD}(hx:x∈Xu h p b n e):x.path=p.path:=by
 unfold Xu at hx;split at hx
 ·rcases QXk.1 hx with rfl;rfl
 ·cases hx
theorem As {P R:PL}{fm:Int}{p:Pq}{x:FD}(hx:x∈K1 P R fm p):x.path=p.path:=by
 unfold K1 at hx;split at hx
 ·unfold Wr Uw at hx;rcases QWw.1 hx with hx|hx
  ·obtain⟨i,_,hx⟩:=QV1.1 hx;unfold GB at hx;split at hx
   ·cases hx
   split at hx
   ·split at hx
    ·exact Wu hx
    ·rcases QWw.1 hx with hx|hx
     ·exact Wu hx
     rcases QWw.1 hx with hx|hx
     ·exact Wu hx
     ·exact Wu hx
   ·cases hx
  ·obtain⟨q,_,hx⟩:=QV1.1 hx;exact Wu hx
 ·cases hx
theorem NA {P R:PL}(hP:Own P)(hR:Own R)(lP:P.progs.length≤8)(lR:R.progs.length≤8)(s:List UInt8)(fm:Int):∀x∈Z6 P R s fm,x.path.length≤1000:=by
 intro x hx;unfold Z6 at hx;split at hx
 ·rcases QXk.1 hx with rfl;exact QVr _
 split at hx
 ·rcases QXk.1 hx with rfl;exact QVr _
 ·rename_i hn;obtain⟨a,ea,ha⟩:=JU (P:=P) (s:=s) (by omega);obtain⟨b,eb,hb⟩:=JU (P:=R) (s:=s) (by omega);rw[ea,eb,QWH,QWH]at hx;have hq:=(Ws (fm:=fm) hP hR ha hb 128).1;have hl:=KG lP lR hq;unfold WU at hx;obtain⟨p,hp,hx⟩:=QV1.1 hx;obtain⟨i,hi⟩:=QVu.1 hp;have h1:=hq.pth i p hi;have h2:=(QVk.1 hi).1;rw[As hx];omega
theorem Cb {P R:PL}(hP:Own P)(hR:Own R)(lP:P.progs.length≤8)(lR:R.progs.length≤8)(s:List UInt8)(md fs b f:Int):(XO P R s md fs b f).length≤32768∧∀x∈XO P R s md fs b f,x.path.length≤1000:=by
 unfold XO;split
 ·exact⟨Wd hP hR lP lR s f,NA hP hR lP lR s f⟩
 ·exact⟨QVr _,fun x hx=>by cases hx⟩
theorem QcS {P R:PL}(hP:Own P)(hR:Own R)(lP:P.progs.length≤8)(lR:R.progs.length≤8)(s:List UInt8)(md fs:Int):(D4 P R s md fs).length≤1000000∧∀x∈D4 P R s md fs,x.path.length≤1000:=by
 have A:=fun f=>Cb hP hR lP lR s md fs 1 f
 have B:=fun f=>Cb hR hP lR lP s md fs 2 f
 constructor
 ·have a1:=(A 1).1;have a2:=(A 2).1;have a3:=(A 4).1;have b1:=(B 1).1;have b2:=(B 2).1;have b3:=(B 4).1;simp only[D4,JA,QWK,List.flatMap_nil,QVU,QWp];omega
 ·intro x hx;unfold D4 at hx;rcases QWw.1 hx with hx|hx
  ·obtain⟨f,_,hx⟩:=QV1.1 hx;exact(A f).2 x hx
  ·obtain⟨f,_,hx⟩:=QV1.1 hx;exact(B f).2 x hx

def D7 (S:SC):Bool:=decide ((S.msgs.length:Int)≤8)&&decide ((S.enums.length:Int)≤8)&&decide ((S.servs.length:Int)≤8)&&XR S
theorem UM {S:SC}(h:D7 S=true):(S.msgs.length≤8∧S.enums.length≤8∧S.servs.length≤8)∧XR S=true:=by
 unfold D7 at h;simp only[QVF,QWA]at h;exact⟨by omega,h.2⟩

section
variable {M:Nat}(hM:M≤1048576)(S:SC)(hS:S.ok M)
include hM hS
theorem w5:Qj Tryz.prog 5 [S.av] (.bool (D7 S)):=by
 unfold D7;refine k5.fn (by simp) ?_;simp only[SC.av,QWE,eE,seval];cases h1:decide ((S.msgs.length:Int)≤8)
 ·simp only[QWL,Qa,seval]
 cases h2:decide ((S.enums.length:Int)≤8)
 ·simp only[h2,QWE,QWY,QWL,eE,seval]
 cases h3:decide ((S.servs.length:Int)≤8)
 ·simp only[h2,h3,QWE,QWY,QWL,eE,seval]
 simp only[QWA]at h1 h2 h3;have hv:=u16 hM S hS (by omega);simp only[SC.av]at hv;have d1:=QXb h1;have d2:=QXb h2;have d3:=QXb h3;simp only[d2,d3,QWE,QWY,eE,seval];refine aC hv ?_;simp only[Qa,seval]
end

section
variable {M:Nat}(hM:M≤1048576)(S T:SC)(hS:S.ok M)(hT:T.ok M)(s:List UInt8)
include hM hS hT

theorem c3 (fm:Int):Qj Tryz.prog 3 [S.av,T.av,.str s,.int .i64 fm] (.bool true):=by
 have uS:=w5 hM S hS;have uT:=w5 hM T hT;simp only[SC.av]at uS uT;refine k3.fn (by simp) ?_;simp only[SC.av,eE,seval];refine aC uS ?_;cases hU:D7 S
 ·simp only[QWl,cond_true,cond_false,Qa,seval];refine aC Ev.KH ?_;simp only[Qa,seval]
 simp only[QWZ,cond_true,cond_false,eE,seval];refine aC uT ?_;cases hV:D7 T
 ·simp only[QWl,cond_true,cond_false,Qa,seval];refine aC Ev.KH ?_;simp only[Qa,seval]
 simp only[QWZ,cond_true,cond_false,eE,seval];obtain⟨S8,vS⟩:=UM hU;obtain⟨T8,vT⟩:=UM hV;have l8P:(QE S).progs.length≤8:=by have:=S8.1;unfold QE;simp only[QWE];omega
 have l8R:(QE T).progs.length≤8:=by have:=T8.1;unfold QE;simp only[QWE];omega
 have hP:=ZF (ZL vS);have hR:=ZF (ZL vT);have eS:=GG vS;have eT:=GG vT;have c1:=w7 hM S T hS hT S8 T8 vS vT s fm;have c2:=u8 hM S T hS hT S8 T8 vS vT eS eT s fm;have c3:=w10 hM S T hS hT S8 T8 vS vT s fm;have c4:=S0 hM S T hS hT S8 T8 vS vT eS eT s fm;have c5:=w12 hM S T hS hT S8 T8 vS vT s fm;have c6:=u13 hM S T hS hT S8 T8 vS vT eS eT s fm;have hl:=Wd hP hR l8P l8R s fm;have hp:=NA hP hR l8P l8R s fm;generalize Z6 (QE S) (QE T) s fm=l at *;have s1:=u9 l (by omega) hp;have hx:(l.head?.getD ⟨[],0,0,[]⟩).path.length≤1000:=by
  cases l with
  |nil=>exact QVr _
  |cons x t=>exact hp x (by simp)
 unfold V8 at c1 c2;generalize l.head?.getD ⟨[],0,0,[]⟩=x at *;have s2:=u9 [x] (by simp) (fun y hy=>by rcases QXk.1 hy with rfl;exact hx);simp only[SC.av,JF]at c1 c2 c3 c4 c5 c6;simp only[JF,QVP,QWe]at s2;refine aC c1 ?_;simp only[eE,seval];refine aC c2 ?_;simp only[eE,seval];refine aC c3 ?_;simp only[eE,seval];refine aC c4 ?_;refine aC s1 ?_;simp only[beq_self_eq_true,eE,seval];refine QM rfl rfl (by decide) rfl rfl ?_;simp only[nn0,QVP,QWe,eE,seval];refine QM rfl rfl (by decide) rfl rfl ?_;simp only[nn0,QVP,QWe,Qa,seval];refine aC s2 ?_;simp only[eE,seval];refine aC c5 ?_;simp only[eE,seval];refine aC c6 ?_;simp only[beq_self_eq_true,Qa,seval];refine aC Ev.KH ?_;simp only[Qa,seval]

theorem c4 (md fs:Int):Qj Tryz.prog 4 [S.av,T.av,.str s,.int .i64 md,.int .i64 fs] (.bool true):=by
 have uS:=w5 hM S hS;have uT:=w5 hM T hT;simp only[SC.av]at uS uT;refine k4.fn (by simp) ?_;simp only[SC.av,eE,seval];refine aC uS ?_;cases hU:D7 S
 ·simp only[QWl,cond_true,cond_false,Qa,seval];refine aC Ev.KH ?_;simp only[Qa,seval]
 simp only[QWZ,cond_true,cond_false,eE,seval];refine aC uT ?_;cases hV:D7 T
 ·simp only[QWl,cond_true,cond_false,Qa,seval];refine aC Ev.KH ?_;simp only[Qa,seval]
 simp only[QWZ,cond_true,cond_false,eE,seval];obtain⟨S8,vS⟩:=UM hU;obtain⟨T8,vT⟩:=UM hV;have l8P:(QE S).progs.length≤8:=by have:=S8.1;unfold QE;simp only[QWE];omega
 have l8R:(QE T).progs.length≤8:=by have:=T8.1;unfold QE;simp only[QWE];omega
 have hP:=ZF (ZL vS);have hR:=ZF (ZL vT);have c3:=w14 hM S T hS hT S8 T8 vS vT s md fs;have c4:=u15 hM S T hS hT S8 T8 vS vT (GG vS) (GG vT) s md fs;obtain⟨hl,hp⟩:=QcS hP hR l8P l8R s md fs;have s1:=u9 _ hl hp;simp only[SC.av]at c3 c4;refine aC c3 ?_;simp only[eE,seval];refine aC c4 ?_;refine aC s1 ?_;simp only[Qa,seval];refine aC Ev.KH ?_;simp only[Qa,seval]
end

end Go.Proofs.YtjjmjopabpakoaaGreatDoor.Va

namespace Go.Proofs.YtjjmjopabpakoaaGreatDoor.Br
open Go Am

theorem Yd (l:List SN):(l.map SN.cells).map Q1=l.map fun n=>.agg n.cells:=by
 rw[QWW];exact QWV fun x _=>WX (by rw[SN.cells,QVx,V.cells_length];omega)
theorem QAe (l:List SF):(l.map SF.cells).map Q1=l.map fun n=>.agg n.cells:=by
 rw[QWW];exact QWV fun x _=>WX (by simp only[SF.cells,QVU,QVx,QWp,V.cells_length];omega)

theorem Ye {M:Nat}(hM:M=reachBytes∨M≤1048576){k:Nat}{cs:List AV}(h:Q9 Tryz.prog M k 143 cs):∃x:SN,x.ok M∧cs=x.cells:=by
 obtain⟨k,h⟩:=XW Tryz.underlying143 h;simp only[Q9.HasL]at h;obtain⟨_,_,rfl,h0,a1,_,rfl,h1,rfl⟩:=h;obtain⟨a0,rfl,w0⟩:=Zd Tryz.underlying9 h0;obtain⟨v,hv,rfl⟩:=AD hM h1;exact⟨⟨a0,v⟩,⟨w0,hv⟩,by simp[SN.cells]⟩

theorem Au {M k:Nat}{cs:List AV}(h:Q9 Tryz.prog M k 69 cs):∃(a:Int) (s:List UInt8),(Lit.int .i64 a).wf=true∧s.length≤M∧cs=[.int .i64 a,.str s]:=by
 obtain⟨k,h⟩:=XW Tryz.underlying69 h;simp only[Q9.HasL]at h;obtain⟨_,_,rfl,h0,_,_,rfl,h1,rfl⟩:=h;obtain⟨a0,rfl,w0⟩:=Zc Tryz.underlying3 h0;obtain⟨a1,rfl,w1⟩:=Zd Tryz.underlying9 h1;exact⟨a0,a1,w0,w1,rfl⟩

theorem S2 {M:Nat}(hM:M=reachBytes∨M≤1048576){k:Nat}{cs:List AV}(h:Q9 Tryz.prog M k 79 cs):∃x:SF,x.ok M∧cs=x.cells:=by
 obtain⟨k,h⟩:=XW Tryz.underlying79 h;simp only[Q9.HasL]at h;obtain⟨_,_,rfl,h0,_,_,rfl,h1,_,_,rfl,h2,_,_,rfl,h3,_,_,rfl,h4,_,_,rfl,h5,_,_,rfl,h6,_,_,rfl,h7,_,_,rfl,h8,rfl⟩:=h;obtain⟨a0,rfl,w0⟩:=Zc Tryz.underlying3 h0;obtain⟨a1,rfl,w1⟩:=Zd Tryz.underlying9 h1;obtain⟨a2,rfl,w2⟩:=Zc Tryz.underlying3 h2;obtain⟨a3,rfl,w3⟩:=Zc Tryz.underlying3 h3;obtain⟨a4,s4,w4,u4,rfl⟩:=Au h4;obtain⟨a5,rfl,w5⟩:=Zd Tryz.underlying9 h5;obtain⟨a6,rfl⟩:=FV Tryz.underlying4 h6;obtain⟨v7,w7,rfl⟩:=AD hM h7;obtain⟨k8,l8,rfl,w8,hl8⟩:=Xf Tryz.underlying77 h8;obtain⟨x8,rfl,o8⟩:=Xs (f:=SN.cells) (ok:=SN.ok M) fun c hc=>Ye hM (hl8 c hc)
 refine⟨⟨a0,a1,a2,a3,a4,s4,a5,a6,v7,x8⟩,⟨w0,w1,w2,w3,w4,u4,w5,w7,by simpa using w8,o8⟩,?_⟩;simp only[SF.cells,Yd]
 try simp only[QVD,QVE]
 try rfl

theorem Av {M:Nat}(hM:M=reachBytes∨M≤1048576){k:Nat}{cs:List AV}(h:Q9 Tryz.prog M k 84 cs):∃x:SM,x.ok M∧cs=x.cells:=by
 obtain⟨k,h⟩:=XW Tryz.underlying84 h;simp only[Q9.HasL]at h;obtain⟨_,_,rfl,h0,_,_,rfl,h1,_,_,rfl,h2,_,_,rfl,h3,_,_,rfl,h4,rfl⟩:=h;obtain⟨a0,rfl,w0⟩:=Zd Tryz.underlying9 h0;obtain⟨k1,l1,rfl,w1,hl1⟩:=Xf Tryz.underlying80 h1;obtain⟨k2,l2,rfl,w2,hl2⟩:=Xf Tryz.underlying81 h2;obtain⟨k3,l3,rfl,w3,hl3⟩:=Xf Tryz.underlying82 h3;obtain⟨k4,l4,rfl,w4,hl4⟩:=Xf Tryz.underlying77 h4;obtain⟨x1,rfl,o1⟩:=Xs (f:=SF.cells) (ok:=SF.ok M) fun c hc=>S2 hM (hl1 c hc)
 obtain⟨x2,rfl,o2⟩:=Xs (f:=PS.cells) (ok:=PS.ok) fun c hc=>FW (hl2 c hc)
 obtain⟨x3,rfl,o3⟩:=Xs (f:=fun s:List UInt8=>[AV.str s]) (ok:=fun s=>s.length≤M) fun c hc=>(Zd Tryz.underlying9 (hl3 c hc)).elim fun s h=>⟨s,h.2,h.1⟩
 obtain⟨x4,rfl,o4⟩:=Xs (f:=SN.cells) (ok:=SN.ok M) fun c hc=>Ye hM (hl4 c hc)
 refine⟨⟨a0,x1,x2,x3,x4⟩,⟨w0,by simpa using w1,o1,by simpa using w2,o2,by simpa using w3,o3,by simpa using w4,o4⟩,?_⟩;simp only[SM.cells,Yd,QAe]
 try simp only[QWW,QVD,QVE]
 try rfl

theorem S3 {M:Nat}(hM:M=reachBytes∨M≤1048576){k:Nat}{cs:List AV}(h:Q9 Tryz.prog M k 106 cs):∃x:SI,x.ok M∧cs=x.cells:=by
 obtain⟨k,h⟩:=XW Tryz.underlying106 h;simp only[Q9.HasL]at h;obtain⟨_,_,rfl,h0,_,_,rfl,h1,_,_,rfl,h2,rfl⟩:=h;obtain⟨a0,rfl,w0⟩:=Zd Tryz.underlying9 h0;obtain⟨a1,rfl,w1⟩:=Zc Tryz.underlying3 h1;obtain⟨k2,l2,rfl,w2,hl2⟩:=Xf Tryz.underlying77 h2;obtain⟨x2,rfl,o2⟩:=Xs (f:=SN.cells) (ok:=SN.ok M) fun c hc=>Ye hM (hl2 c hc)
 refine⟨⟨a0,a1,x2⟩,⟨w0,w1,by simpa using w2,o2⟩,?_⟩;simp only[SI.cells,Yd]
 try simp only[QVD,QVE]
 try rfl

theorem S4 {M:Nat}(hM:M=reachBytes∨M≤1048576){k:Nat}{cs:List AV}(h:Q9 Tryz.prog M k 104 cs):∃x:SE,x.ok M∧cs=x.cells:=by
 obtain⟨k,h⟩:=XW Tryz.underlying104 h;simp only[Q9.HasL]at h;obtain⟨_,_,rfl,h0,_,_,rfl,h1,_,_,rfl,h2,_,_,rfl,h3,_,_,rfl,h4,rfl⟩:=h;obtain⟨a0,rfl,w0⟩:=Zd Tryz.underlying9 h0;obtain⟨a1,rfl⟩:=FV Tryz.underlying4 h1;obtain⟨k2,l2,rfl,w2,hl2⟩:=Xf Tryz.underlying102 h2;obtain⟨k3,l3,rfl,w3,hl3⟩:=Xf Tryz.underlying81 h3;obtain⟨k4,l4,rfl,w4,hl4⟩:=Xf Tryz.underlying77 h4;obtain⟨x2,rfl,o2⟩:=Xs (f:=SI.cells) (ok:=SI.ok M) fun c hc=>S3 hM (hl2 c hc)
 obtain⟨x3,rfl,o3⟩:=Xs (f:=PS.cells) (ok:=PS.ok) fun c hc=>FW (hl3 c hc)
 obtain⟨x4,rfl,o4⟩:=Xs (f:=SN.cells) (ok:=SN.ok M) fun c hc=>Ye hM (hl4 c hc)
 refine⟨⟨a0,a1,x2,x3,x4⟩,⟨w0,by simpa using w2,o2,by simpa using w3,o3,by simpa using w4,o4⟩,?_⟩;simp only[SE.cells,Yd]
 try simp only[QWW,QVD,QVE]
 try rfl

theorem Aw {M:Nat}(hM:M=reachBytes∨M≤1048576){k:Nat}{cs:List AV}(h:Q9 Tryz.prog M k 164 cs):∃x:SO,x.ok M∧cs=x.cells:=by
 obtain⟨k,h⟩:=XW Tryz.underlying164 h;simp only[Q9.HasL]at h;obtain⟨_,_,rfl,h0,_,_,rfl,h1,_,_,rfl,h2,_,_,rfl,h3,_,_,rfl,h4,rfl⟩:=h;obtain⟨a0,rfl,w0⟩:=Zd Tryz.underlying9 h0;obtain⟨a1,rfl,w1⟩:=Zd Tryz.underlying9 h1;obtain⟨a2,rfl,w2⟩:=Zd Tryz.underlying9 h2;obtain⟨a3,rfl,w3⟩:=Zc Tryz.underlying3 h3;obtain⟨k4,l4,rfl,w4,hl4⟩:=Xf Tryz.underlying77 h4;obtain⟨x4,rfl,o4⟩:=Xs (f:=SN.cells) (ok:=SN.ok M) fun c hc=>Ye hM (hl4 c hc)
 refine⟨⟨a0,a1,a2,a3,x4⟩,⟨w0,w1,w2,w3,by simpa using w4,o4⟩,?_⟩;simp only[SO.cells,Yd]
 try simp only[QVD,QVE]
 try rfl

theorem Ax {M:Nat}(hM:M=reachBytes∨M≤1048576){k:Nat}{cs:List AV}(h:Q9 Tryz.prog M k 127 cs):∃x:SQ,x.ok M∧cs=x.cells:=by
 obtain⟨k,h⟩:=XW Tryz.underlying127 h;simp only[Q9.HasL]at h;obtain⟨_,_,rfl,h0,_,_,rfl,h1,_,_,rfl,h2,rfl⟩:=h;obtain⟨a0,rfl,w0⟩:=Zd Tryz.underlying9 h0;obtain⟨k1,l1,rfl,w1,hl1⟩:=Xf Tryz.underlying125 h1;obtain⟨k2,l2,rfl,w2,hl2⟩:=Xf Tryz.underlying77 h2;obtain⟨x1,rfl,o1⟩:=Xs (f:=SO.cells) (ok:=SO.ok M) fun c hc=>Aw hM (hl1 c hc)
 obtain⟨x2,rfl,o2⟩:=Xs (f:=SN.cells) (ok:=SN.ok M) fun c hc=>Ye hM (hl2 c hc)
 refine⟨⟨a0,x1,x2⟩,⟨w0,by simpa using w1,o1,by simpa using w2,o2⟩,?_⟩;simp only[SQ.cells,Yd]
 try simp only[QWW,QVD,QVE]
 try rfl

theorem Wa {M:Nat}(hM:M=reachBytes∨M≤1048576){k:Nat}{cs:List AV}(h:Q9 Tryz.prog M k 26 cs):∃x:SC,x.ok M∧.agg cs=x.av:=by
 obtain⟨k,h⟩:=XW Tryz.underlying26 h;simp only[Q9.HasL]at h;obtain⟨_,_,rfl,h0,_,_,rfl,h1,_,_,rfl,h2,rfl⟩:=h;obtain⟨k2,l2,rfl,w2,hl2⟩:=Xf Tryz.underlying22 h0;obtain⟨k3,l3,rfl,w3,hl3⟩:=Xf Tryz.underlying23 h1;obtain⟨k4,l4,rfl,w4,hl4⟩:=Xf Tryz.underlying24 h2;obtain⟨x2,rfl,o2⟩:=Xs (f:=SM.cells) (ok:=SM.ok M) fun c hc=>Av hM (hl2 c hc)
 obtain⟨x3,rfl,o3⟩:=Xs (f:=SE.cells) (ok:=SE.ok M) fun c hc=>S4 hM (hl3 c hc)
 obtain⟨x4,rfl,o4⟩:=Xs (f:=SQ.cells) (ok:=SQ.ok M) fun c hc=>Ax hM (hl4 c hc)
 refine⟨⟨x2,x3,x4⟩,⟨by simpa using w2,o2,by simpa using w3,o3,by simpa using w4,o4⟩,?_⟩;simp only[SC.av,QWW,QVD,QVE];rfl

end Go.Proofs.YtjjmjopabpakoaaGreatDoor.Br

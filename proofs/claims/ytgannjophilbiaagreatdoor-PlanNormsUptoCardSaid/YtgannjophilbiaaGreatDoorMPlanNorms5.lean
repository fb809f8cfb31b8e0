/- Parts of the proof, in order. -/
import Derived.Test.YtgannjophilbiaaGreatDoorMPlanNorms4

set_option linter.unusedSimpArgs false
namespace Go.Proofs.YtgannjophilbiaaGreatDoor.Va
open Go Am Rc Bt Br Up So

theorem cntL_mem {x : V} : ∀ {l : List V},x ∈ l → x.cnt ≤ cntL l
 | y :: l,h => by
  rw [cntL]
  rcases List.mem_cons.1 h with rfl | h
  ·omega
  ·have:=cntL_mem h
   omega
theorem cntP_mem {x : V × V} : ∀ {l : List (V × V)},x ∈ l → x.1.cnt + x.2.cnt ≤ cntP l
 | (a,b) :: l,h => by
  rw [cntP]
  rcases List.mem_cons.1 h with rfl | h
  ·dsimp only; omega
  ·have:=cntP_mem h
   omega
theorem cntS_mem {x : Int × V} : ∀ {l : List (Int × V)},x ∈ l → x.2.cnt ≤ cntS l
 | (a,b) :: l,h => by
  rw [cntS]
  rcases List.mem_cons.1 h with rfl | h
  ·dsimp only; omega
  ·have:=cntS_mem h
   omega
theorem cnt_pos (v : V) : 1 ≤ v.cnt:=by rw [cnt_eq]; omega
theorem cntL_len : ∀ l : List V,l.length ≤ cntL l
 | [] => Nat.le_refl _
 | x :: l => by
  have:=cnt_pos x
  have:=cntL_len l
  simp only [cntL,List.length_cons]; omega
theorem cntP_len : ∀ l : List (V × V),2 * l.length ≤ cntP l
 | [] => Nat.le_refl _
 | (a,b) :: l => by
  have:=cnt_pos a
  have:=cnt_pos b
  have:=cntP_len l
  simp only [cntP,List.length_cons]; omega
theorem cntS_len : ∀ l : List (Int × V),l.length ≤ cntS l
 | [] => Nat.le_refl _
 | (a,b) :: l => by
  have:=cnt_pos b
  have:=cntS_len l
  simp only [cntS,List.length_cons]; omega
theorem cnt_list {v x : V} (h : x ∈ v.list) : x.cnt ≤ v.cnt:=by have:=cntL_mem h; rw [cnt_eq v]; omega
theorem cnt_key {v : V} {x : V × V} (h : x ∈ v.pairs) : x.1.cnt ≤ v.cnt:=by have:=cntP_mem h; rw [cnt_eq v]; omega
theorem cnt_val {v : V} {x : V × V} (h : x ∈ v.pairs) : x.2.cnt ≤ v.cnt:=by have:=cntP_mem h; rw [cnt_eq v]; omega
theorem cnt_slot {v : V} {x : Int × V} (h : x ∈ v.slots) : x.2.cnt ≤ v.cnt:=by have:=cntS_mem h; rw [cnt_eq v]; omega
theorem len_list (v : V) : v.list.length ≤ v.cnt:=by have:=cntL_len v.list; rw [cnt_eq v]; omega
theorem len_pairs (v : V) : v.pairs.length ≤ v.cnt:=by have:=cntP_len v.pairs; rw [cnt_eq v]; omega
theorem len_slots (v : V) : v.slots.length ≤ v.cnt:=by have:=cntS_len v.slots; rw [cnt_eq v]; omega
theorem len_raws (v : V) : v.raws.length ≤ v.cnt:=by rw [cnt_eq v]; omega

section
variable {M : Nat} {P : PL} {m : PG → V → Int} {nm : PG → V → V} (o : PO) (ho : UO P o)

include ho in
theorem v49 (hm : ∀ (t : Int) (g : PG),P.progs[t.toNat]? = some g → 0 ≤ t → ∀ v : V,v.ok M → v.cnt ≤ 1048576 → m g v = 0 → Fn1 Tryz.prog 7 [P.av,.int .i64 t,v.av] (nm g v).av) (v : V) (hv : v.ok M) (hc : v.cnt ≤ 1048576) (he : elemF m P o v = 0) :
  Fn1 Tryz.prog 49 [P.av,oav o,v.av] (nel nm P o v).av:=by
 have e0 : P.av = .agg [.list (P.progs.map gav),.list (P.enums.map eav)]:=rfl
 unfold nel
 by_cases hk : o.kind = 10
 ·have b : (o.kind == 10) = true:=by simp [hk]
  unfold elemF at he
  rw [if_pos hk] at he
  rw [if_pos hk]
  obtain ⟨t0,t1⟩:=ho.tgt hk
  obtain ⟨g,hg⟩ : ∃ g,P.progs[o.target.toNat]? = some g:=⟨P.progs[o.target.toNat]'(by omega),List.getElem?_eq_getElem (by omega)⟩
  have hq : gat P o.target = g:=by unfold gat; rw [hg]; rfl
  rw [hq] at he ⊢
  have h2:=hm o.target g hg t0 v hv hc he
  generalize nm g v = z at h2 ⊢
  rw [e0,av7,av7] at h2
  rw [av7,av7]
  refine k49.fn (by simp) ?_
  simp only [e0,oav,PO.cells,b,eES,eEX,seval]
  refine aops_call h2 rfl rfl rfl (.inl rfl) ?_
  simp only [splice,List.take_succ_cons,List.take_zero,List.drop_succ_cons,List.drop_zero,List.drop_nil,List.append_nil,List.nil_append,List.length_cons,List.length_nil,List.all_cons,List.all_nil,AV.leaf,eES,eEX,seval]
 ·have b : (o.kind == 10) = false:=by simp [hk]
  rw [if_neg hk]
  have h1:=v51 v (bits_lt hv)
  generalize v.nsc = z at h1 ⊢
  rw [av7,av7] at h1
  rw [av7,av7]
  refine k49.fn (by simp) ?_
  simp only [e0,oav,PO.cells,b,eES,eEX,seval]
  refine aops_call h1 rfl rfl rfl (.inl rfl) ?_
  simp only [splice,List.take_succ_cons,List.take_zero,List.drop_succ_cons,List.drop_zero,List.drop_nil,List.append_nil,List.nil_append,List.length_cons,List.length_nil,List.all_cons,List.all_nil,AV.leaf,eES,eEX,seval]

def NlI (P : PL) (o : PO) (l : List V) (F : V → V) (k : Nat) (st : St) : Prop :=
 ∃ f fr i g,st = ⟨f,[fr],[]⟩ ∧ k = l.length - i ∧ i ≤ l.length ∧ f 3 = .ptr 0 3 0 ∧ f 4 = .ptr 0 4 0 ∧ f 6 = .ptr 0 6 0 ∧ f 7 = .ptr 0 7 0 ∧ f 19 = .list (l.map V.av) ∧ f 20 = .int .i64 (l.length : Nat) ∧ f 21 = .int .i64 (i : Nat) ∧ fr 3 = .cells [.list (P.progs.map gav),.list (P.enums.map eav)] ∧ fr 4 = .cells o.cells ∧ fr 6 = .cells [.int .i64 0,.int .u64 0,.str [],.nils,.nils,.nils,.nils] ∧ fr 7 = .cells [.int .i64 11,.int .u64 0,.str [],.vec 0 1100 g 0 i false,.nils,.nils,.nils] ∧ fr 1100 = .vec g 7 ((l.take i).map fun x => (F x).av) ∧ ∀ s ∈ [9],(fr s).isRow = false

def NpI (P : PL) (o : PO) (T : List (V × V)) (F : V × V → V × V) (k : Nat) (st : St) : Prop :=
 ∃ f fr i g,st = ⟨f,[fr],[]⟩ ∧ k = T.length - i ∧ i ≤ T.length ∧ f 3 = .ptr 0 3 0 ∧ f 4 = .ptr 0 4 0 ∧ f 6 = .ptr 0 6 0 ∧ f 10 = .ptr 0 10 0 ∧ f 41 = .list (T.map V.pav) ∧ f 42 = .int .i64 (T.length : Nat) ∧ f 43 = .int .i64 (i : Nat) ∧ fr 3 = .cells [.list (P.progs.map gav),.list (P.enums.map eav)] ∧ fr 4 = .cells o.cells ∧ fr 6 = .cells [.int .i64 0,.int .u64 0,.str [],.nils,.nils,.nils,.nils] ∧ fr 10 = .cells [.int .i64 12,.int .u64 0,.str [],.nils,.vec 0 1101 g 0 i false,.nils,.nils] ∧ fr 1101 = .vec g 14 ((T.take i).map fun x => V.pav (F x)) ∧ ∀ s ∈ [12],(fr s).isRow = false

theorem mapAv (l : List V) (F : V → V) : (l.map fun x => (F x).av) = (l.map F).map V.av:=by rw [List.map_map]; rfl
theorem mapPav (l : List (V × V)) (F : V × V → V × V) : (l.map fun x => V.pav (F x)) = (l.map F).map V.pav:=by rw [List.map_map]; rfl

set_option maxHeartbeats 1000000 in
include ho in
theorem v18 (hel : ∀ v : V,v.ok M → v.cnt ≤ 1048576 → elemF m P o v = 0 → Fn1 Tryz.prog 49 [P.av,oav o,v.av] (nel nm P o v).av) (v : V) (hv : v.ok M) (hc : v.cnt ≤ 1048576) (he : fieldF m P o v = 0) :
  Fn1 Tryz.prog 18 [P.av,oav o,v.av] (nfl nm P o v).av:=by
 have e0 : P.av = .agg [.list (P.progs.map gav),.list (P.enums.map eav)]:=rfl
 unfold nfl
 unfold fieldF at he
 by_cases h4 : o.card = 4
 ·have b4 : (o.card == 4) = true:=by simp [h4]
  rw [if_neg (by omega),if_pos h4] at he
  rw [if_pos h4]
  split at he
  ·omega
  have hL:=lok_iff.1 he
  have hlen:=len_list v
  rw [av7 v]
  generalize hF : nel nm P o = F at hel ⊢
  rw [show (V.mk 11 0 [] (v.list.map F) [] [] []).av = .agg [.int .i64 11,.int .u64 0,.str [],.list ((v.list.map F).map V.av),.list [],.list [],.list []] from av7 _]
  refine k18.fn (by simp) ?_
  simp only [e0,oav,PO.cells,b4,splice,List.take_zero,List.drop_succ_cons,List.drop_zero,List.drop_nil,List.append_nil,List.cons_append,List.nil_append,List.length_cons,List.length_nil,List.all_cons,List.all_nil,AV.leaf,eES,eEX,seval]
  refine awp_vecc (by simp only [eES,seval] <;> rfl) rfl (by simp only [eES,seval] <;> rfl) rfl ?_
  simp only [List.set,List.length_map,eES,eEX,seval]
  refine awp_loop (NlI P o v.list F) _ ⟨_,_,0,_,rfl,rfl,Nat.zero_le _,(by rfl),(by rfl),(by rfl),(by rfl),(by rfl),(by rfl),(by rfl),(by rfl),(by rfl),(by rfl),(by rfl),(by rfl),by simp <;> rfl⟩ ?_
  rintro _ st ⟨f0,fr0,i,g,rfl,rfl,hil,h30,h40,h60,h70,h190,h200,h210,m30,m40,m60,m70,mR0,r9⟩
  refine awp_drops (a:=_) [9] r9 ?_
  intro f fr hf hm hn9
  have h3 : f 3 = .ptr 0 3 0:=by rw [hf,h30] <;> rfl
  have h4 : f 4 = .ptr 0 4 0:=by rw [hf,h40] <;> rfl
  have h6 : f 6 = .ptr 0 6 0:=by rw [hf,h60] <;> rfl
  have h7 : f 7 = .ptr 0 7 0:=by rw [hf,h70] <;> rfl
  have h19 : f 19 = .list (v.list.map V.av):=by rw [hf,h190] <;> rfl
  have h20 : f 20 = .int .i64 (v.list.length : Nat):=by rw [hf,h200] <;> rfl
  have h21 : f 21 = .int .i64 (i : Nat):=by rw [hf,h210] <;> rfl
  have m3 : fr 3 = .cells [.list (P.progs.map gav),.list (P.enums.map eav)]:=by rw [hm 3 (by decide),m30] <;> rfl
  have m4 : fr 4 = .cells o.cells:=by rw [hm 4 (by decide),m40] <;> rfl
  have m6 : fr 6 = .cells [.int .i64 0,.int .u64 0,.str [],.nils,.nils,.nils,.nils]:=by rw [hm 6 (by decide),m60] <;> rfl
  have m7 : fr 7 = .cells [.int .i64 11,.int .u64 0,.str [],.vec 0 1100 g 0 i false,.nils,.nils,.nils]:=by rw [hm 7 (by decide),m70] <;> rfl
  have mR : fr 1100 = .vec g 7 ((v.list.take i).map fun x => (F x).av):=by rw [hm 1100 (by decide),mR0] <;> rfl
  have n9:=hn9 9 (by decide)
  clear hf hm hn9 h30 h40 h60 h70 h190 h200 h210 m30 m40 m60 m70 mR0 r9
  have m4':=m4
  simp only [PO.cells] at m4
  simp only [h20,h21,eES,seval]
  by_cases hlt : i < v.list.length
  ·obtain ⟨x,hi⟩ : ∃ x,v.list[i]? = some x:=⟨v.list[i],List.getElem?_eq_getElem hlt⟩
   have hx:=List.mem_of_getElem? hi
   have hg:=getV hi
   have e1:=wi64_s i _ hlt (by simp only [maxLen]; omega)
   have c1:=hel x (hv.list x hx) (Nat.le_trans (cnt_list hx) hc) (hL x hx)
   have hti : ((v.list.take i).map fun x => (F x).av).length = i:=by rw [List.length_map,List.length_take]; omega
   have hts : (v.list.take (i + 1)).map (fun x => (F x).av) = (v.list.take i).map (fun x => (F x).av) ++ [(F x).av]:=by rw [List.take_add_one,hi]; simp
   generalize F x = z at c1 hts
   rw [e0,av7,av7 z] at c1
   simp only [oav,PO.cells] at c1
   simp only [lt_t hlt,nneg,Int.toNat_natCast,aiaddr,hg,n9,splice,List.take_succ_cons,List.take_zero,List.drop_succ_cons,List.drop_zero,List.drop_nil,List.append_nil,List.nil_append,List.length_cons,List.length_nil,h3,h4,h7,h19,h21,m3,m4,m7,eES,eEX,seval]
   refine aops_call c1 rfl rfl rfl (.inl rfl) ?_
   refine aops_bslB (l:=[z.av]) rfl rfl rfl (by rw [av7]; rfl) ?_
   refine aops_app (site:=1100) (g:=g) (n:=i) (xs:=(v.list.take i).map fun x => (F x).av) (ys:=[z.av]) (by rfl) (by exact mR) rfl hti.symm rfl (all7 [z]) (by simp only [List.length_cons,List.length_nil,maxLen]; omega) (by simp only [List.length_cons,List.length_nil]; omega) ?_
   simp only [splice,List.take_succ_cons,List.take_zero,List.drop_succ_cons,List.drop_zero,List.cons_append,List.nil_append,List.length_cons,List.length_nil,h7,h21,m7,e1,eES,eEX,seval]
   exact ⟨v.list.length - (i + 1),by omega,_,_,i + 1,g + 1,rfl,rfl,by omega,(by exact h3),(by exact h4),(by exact h6),(by exact h7),(by exact h19),(by exact h20),(by rfl),(by exact m3),(by exact m4'),(by exact m6),(by rfl),(by rw [hts]; exact (by rfl)),by simp <;> rfl⟩
  ·have e : i = v.list.length:=by omega
   subst e
   rw [List.take_length,mapAv] at mR
   simp only [lt_f hlt,splice,List.take_succ_cons,List.take_zero,List.drop_succ_cons,List.drop_zero,List.drop_nil,List.append_nil,List.nil_append,List.length_cons,List.length_nil,List.all_cons,List.all_nil,AV.leaf,h6,h7,m6,m7,eES,eEX,seval]
   simp [AV.un,AV.unL,isV,vget,mR,List.take_of_length_le]
 ·have b4 : (o.card == 4) = false:=by simp [h4]
  rw [if_neg h4]
  by_cases h5 : o.card = 5
  ·have b5 : (o.card == 5) = true:=by simp [h5]
   rw [if_pos h5] at he
   rw [if_pos h5]
   split at he
   ·omega
   have hE:=eok_iff.1 he
   have hlen:=len_pairs v
   have hk:=ho.key h5
   have hkn:=srtP_keys ho.key h5 hE
   have cp:=v50 hk v.pairs (by omega) (fun p hp => (hE.1 p hp).1) (fun p hp => bits_lt (hv.keys p hp)) hE.2
   have hperm : (srtP o.key v.pairs).Perm v.pairs:=isort_perm _
   have hTl : (srtP o.key v.pairs).length = v.pairs.length:=hperm.length_eq
   have hTm : ∀ p ∈ srtP o.key v.pairs,p ∈ v.pairs:=fun p h => hperm.mem_iff.1 h
   generalize srtP o.key v.pairs = T at *
   rw [av7 v]
   generalize hF : (fun p : V × V => (p.1.nsc,nel nm P o p.2)) = F
   rw [show (V.mk 12 0 [] [] (T.map F) [] []).av = .agg [.int .i64 12,.int .u64 0,.str [],.list [],.list ((T.map F).map V.pav),.list [],.list []] from av7 _]
   refine k18.fn (by simp) ?_
   simp only [e0,oav,PO.cells,b4,b5,splice,List.take_zero,List.drop_succ_cons,List.drop_zero,List.drop_nil,List.append_nil,List.cons_append,List.nil_append,List.length_cons,List.length_nil,List.all_cons,List.all_nil,AV.leaf,eES,eEX,seval]
   refine awp_vecc (by simp only [eES,seval] <;> rfl) rfl (by simp only [eES,seval] <;> rfl) rfl ?_
   simp only [List.set,eES,eEX,seval]
   refine aops_call cp rfl rfl rfl (.inl rfl) ?_
   simp only [List.length_map,eES,seval]
   refine awp_loop (NpI P o T F) _ ⟨_,_,0,_,rfl,rfl,Nat.zero_le _,(by rfl),(by rfl),(by rfl),(by rfl),(by rfl),(by rfl),(by rfl),(by rfl),(by rfl),(by rfl),(by rfl),(by rfl),by simp <;> rfl⟩ ?_
   rintro _ st ⟨f0,fr0,i,g,rfl,rfl,hil,h30,h40,h60,h100,h410,h420,h430,m30,m40,m60,m100,mR0,r12⟩
   refine awp_drops (a:=_) [12] r12 ?_
   intro f fr hf hm hn12
   have h3 : f 3 = .ptr 0 3 0:=by rw [hf,h30] <;> rfl
   have h4 : f 4 = .ptr 0 4 0:=by rw [hf,h40] <;> rfl
   have h6 : f 6 = .ptr 0 6 0:=by rw [hf,h60] <;> rfl
   have h10 : f 10 = .ptr 0 10 0:=by rw [hf,h100] <;> rfl
   have h41 : f 41 = .list (T.map V.pav):=by rw [hf,h410] <;> rfl
   have h42 : f 42 = .int .i64 (T.length : Nat):=by rw [hf,h420] <;> rfl
   have h43 : f 43 = .int .i64 (i : Nat):=by rw [hf,h430] <;> rfl
   have m3 : fr 3 = .cells [.list (P.progs.map gav),.list (P.enums.map eav)]:=by rw [hm 3 (by decide),m30] <;> rfl
   have m4 : fr 4 = .cells o.cells:=by rw [hm 4 (by decide),m40] <;> rfl
   have m6 : fr 6 = .cells [.int .i64 0,.int .u64 0,.str [],.nils,.nils,.nils,.nils]:=by rw [hm 6 (by decide),m60] <;> rfl
   have m10 : fr 10 = .cells [.int .i64 12,.int .u64 0,.str [],.nils,.vec 0 1101 g 0 i false,.nils,.nils]:=by rw [hm 10 (by decide),m100] <;> rfl
   have mR : fr 1101 = .vec g 14 ((T.take i).map fun x => V.pav (F x)):=by rw [hm 1101 (by decide),mR0] <;> rfl
   have n12:=hn12 12 (by decide)
   clear hf hm hn12 h30 h40 h60 h100 h410 h420 h430 m30 m40 m60 m100 mR0 r12
   have m4':=m4
   simp only [PO.cells] at m4
   simp only [h42,h43,eES,seval]
   by_cases hlt : i < T.length
   ·obtain ⟨x,hi⟩ : ∃ x,T[i]? = some x:=⟨T[i],List.getElem?_eq_getElem hlt⟩
    have hx:=hTm x (List.mem_of_getElem? hi)
    have hg:=getP hi
    have e1:=wi64_s i _ hlt (by simp only [maxLen]; omega)
    have c0:=v51 x.1 (bits_lt (hv.keys x hx))
    have c1:=hel x.2 (hv.vals x hx) (Nat.le_trans (cnt_val hx) hc) (hE.1 x hx).2
    have hti : ((T.take i).map fun x => V.pav (F x)).length = i:=by rw [List.length_map,List.length_take]; omega
    have hFx : F x = (x.1.nsc,nel nm P o x.2):=by rw [← hF]
    have hts : (T.take (i + 1)).map (fun x => V.pav (F x)) = (T.take i).map (fun x => V.pav (F x)) ++ [V.pav (x.1.nsc,nel nm P o x.2)]:=by rw [List.take_add_one,hi,← hFx]; simp
    generalize x.1.nsc = y at c0 hts
    generalize nel nm P o x.2 = z at c1 hts
    rw [av7,av7 y] at c0
    rw [e0,av7,av7 z] at c1
    simp only [oav,PO.cells] at c1
    simp only [lt_t hlt,nneg,Int.toNat_natCast,aiaddr,hg,n12,splice,List.take_succ_cons,List.take_zero,List.drop_succ_cons,List.drop_zero,List.drop_nil,List.append_nil,List.nil_append,List.length_cons,List.length_nil,h10,h41,h43,m10,eES,eEX,seval]
    refine aops_call c0 rfl rfl rfl (.inl rfl) ?_
    simp only [List.take_succ_cons,List.drop_succ_cons,List.drop_zero,h3,h4,m3,m4,eES,eEX,seval]
    refine aops_call c1 rfl rfl rfl (.inl rfl) ?_
    simp only [splice,List.take_succ_cons,List.take_zero,List.drop_succ_cons,List.drop_zero,List.drop_nil,List.append_nil,List.cons_append,List.nil_append,List.length_cons,List.length_nil,List.all_cons,List.all_nil,AV.leaf,eES,eEX,seval]
    refine aops_bslB (l:=[V.pav (y,z)]) rfl rfl rfl (by rw [pav14]; rfl) ?_
    refine aops_app (site:=1101) (g:=g) (n:=i) (xs:=(T.take i).map fun x => V.pav (F x)) (ys:=[V.pav (y,z)]) (by rfl) (by exact mR) rfl hti.symm rfl (all14 [(y,z)]) (by simp only [List.length_cons,List.length_nil,maxLen]; omega) (by simp only [List.length_cons,List.length_nil]; omega) ?_
    simp only [splice,List.take_succ_cons,List.take_zero,List.drop_succ_cons,List.drop_zero,List.cons_append,List.nil_append,List.length_cons,List.length_nil,h10,h43,m10,e1,eES,eEX,seval]
    exact ⟨T.length - (i + 1),by omega,_,_,i + 1,g + 1,rfl,rfl,by omega,(by exact h3),(by exact h4),(by exact h6),(by exact h10),(by exact h41),(by exact h42),(by rfl),(by exact m3),(by exact m4'),(by exact m6),(by rfl),(by rw [hts]; exact (by rfl)),by simp <;> rfl⟩
   ·have e : i = T.length:=by omega
    subst e
    rw [List.take_length,mapPav] at mR
    simp only [lt_f hlt,splice,List.take_succ_cons,List.take_zero,List.drop_succ_cons,List.drop_zero,List.drop_nil,List.append_nil,List.nil_append,List.length_cons,List.length_nil,List.all_cons,List.all_nil,AV.leaf,h6,h10,m6,m10,eES,eEX,seval]
    simp [AV.un,AV.unL,isV,vget,mR,List.take_of_length_le]
  ·have b5 : (o.card == 5) = false:=by simp [h5]
   rw [if_neg h5,if_neg h4] at he
   rw [if_neg h5]
   have c1:=hel v hv hc he
   generalize nel nm P o v = z at c1 ⊢
   rw [e0,av7 v,av7 z] at c1
   simp only [oav,PO.cells] at c1
   rw [av7 v,av7 z]
   refine k18.fn (by simp) ?_
   simp only [e0,oav,PO.cells,b4,b5,eES,eEX,seval]
   refine aops_call c1 rfl rfl rfl (.inl rfl) ?_
   simp only [splice,List.take_succ_cons,List.take_zero,List.drop_succ_cons,List.drop_zero,List.drop_nil,List.append_nil,List.nil_append,List.length_cons,List.length_nil,List.all_cons,List.all_nil,AV.leaf,eES,eEX,seval]

end

theorem v91 (n : Int) : Fn1 Tryz.prog 91 [.int .i64 n,.int .i64 n] (.int .i64 0):=by
 have d1 : decide (n < n) = false:=by simp
 have d2 : decide (n > n) = false:=by simp
 refine k91.fn (by simp) ?_
 simp only [d1,eES,seval]

theorem v137 (x : R) : Fn1 Tryz.prog 137 [x.av,x.av] (.int .i64 0):=by
 have d1 : decide ((x.bits : Int) < (x.bits : Int)) = false:=by simp
 have d2 : decide ((x.bits : Int) > (x.bits : Int)) = false:=by simp
 have s1 : astr .lss x.data x.data = some (.bool false):=by simp [astr,bless_self]
 have s2 : astr .gtr x.data x.data = some (.bool false):=by simp [astr,bless_self]
 refine k137.fn (by simp) ?_
 simp only [R.av,bne_self_eq_false,d1,s1,s2,eES,eEX,seval]

def RqI (l : List R) (k : Nat) (st : St) : Prop :=
 ∃ f i,st = ⟨f,[noObs],[]⟩ ∧ k = l.length - i ∧ f 0 = .list (l.map R.av) ∧ f 1 = .list (l.map R.av) ∧ f 5 = .int .i64 (i : Nat)
theorem v95 (l : List R) (hn : l.length ≤ maxLen) : Fn1 Tryz.prog 95 [.list (l.map R.av),.list (l.map R.av)] (.int .i64 0):=by
 refine k95.fn (by simp) ?_
 simp only [eES,seval]
 refine awp_loop (RqI l) _ ⟨_,0,rfl,rfl,(by rfl),(by rfl),(by rfl)⟩ ?_
 rintro _ st ⟨f,i,rfl,rfl,h0,h1,h5⟩
 simp only [List.length_map,h0,h5,eES,seval]
 by_cases hlt : i < l.length
 ·obtain ⟨x,hi⟩ : ∃ x,l[i]? = some x:=⟨l[i],List.getElem?_eq_getElem hlt⟩
  have hg:=getR hi
  have e1:=wi64_s i _ hlt hn
  have d0 : ((0 : Int) != 0) = false:=rfl
  have c1:=v137 x
  simp only [R.av] at c1
  simp only [lt_t hlt,nneg,Int.toNat_natCast,aiaddr,hg,List.length_map,h0,h1,h5,eES,eEX,seval]
  refine aops_call c1 rfl rfl rfl (.inl rfl) ?_
  simp only [d0,h5,e1,eES,seval]
  exact ⟨l.length - (i + 1),by omega,_,i + 1,rfl,rfl,(by exact h0),(by exact h1),(by rfl)⟩
 ·simp only [lt_f hlt,List.length_map,h0,h1,eES,seval]
  refine aops_call (v91 _) rfl rfl rfl (.inl rfl) ?_
  simp only [eES,seval]

def rkG (k : Int) (b : Nat) : Int :=
 if (k == 2 || k == 3) = true then IntKind.u64.wrap ((b : Int) + 9223372036854775808) else if (k != 6) = true then (b : Int) else if cls b = 0 then 18446744073709551615
 else if decide ((b : Int) ≥ 9223372036854775808) = true then IntKind.u64.wrap (18446744073709551615 - (b : Int)) else IntKind.u64.wrap ((b : Int) + 9223372036854775808)

theorem rank_any (v : V) : Fn1 Tryz.prog 139 [v.av] (.int .u64 (rkG v.kd v.bits)):=by
 have zeq : ((0 : Int) == 0) = true:=rfl
 rw [av7]
 refine k139.fn (by simp) ?_
 simp only [eES,eEX,seval]
 refine aops_call (v168 v.kd) rfl rfl rfl (.inl rfl) ?_
 unfold rkG
 cases h1 : (v.kd == 2 || v.kd == 3)
 ·cases h2 : (v.kd != 6)
  ·simp only [h2,Bool.false_eq_true,eES,eEX,seval]
   refine aops_call (w97 v.bits) rfl rfl rfl (.inl rfl) ?_
   by_cases h3 : cls v.bits = 0
   ·have zc : ((cls v.bits : Int) == 0) = true:=by rw [cls0]; exact decide_eq_true h3
    rw [if_pos h3]
    simp only [zc,eES,seval]
   ·have zc : ((cls v.bits : Int) == 0) = false:=by rw [cls0]; exact decide_eq_false h3
    rw [if_neg h3]
    cases h4 : decide ((v.bits : Int) ≥ 9223372036854775808) <;> simp only [zc,h4,Bool.false_eq_true,eES,eEX,seval]
  ·simp only [h2,Bool.false_eq_true,eES,eEX,seval]
 ·simp only [eES,eEX,seval]

theorem cmp04_self (v : V) : Fn1 Tryz.prog 96 [v.av,v.av] (.int .i64 0):=by
 have d1 : decide (v.kd < v.kd) = false:=by simp
 have d2 : decide (v.kd > v.kd) = false:=by simp
 have s1 : astr .lss v.text v.text = some (.bool false):=by simp [astr,bless_self]
 have s2 : astr .gtr v.text v.text = some (.bool false):=by simp [astr,bless_self]
 have r1 : decide (rkG v.kd v.bits < rkG v.kd v.bits) = false:=by simp
 have r2 : decide (rkG v.kd v.bits > rkG v.kd v.bits) = false:=by simp
 have hr:=rank_any v
 rw [av7] at hr
 rw [av7]
 refine k96.fn (by simp) ?_
 simp only [d1,eES,eEX,seval]
 refine aops_call (x98 v.kd) rfl rfl rfl (.inl rfl) ?_
 cases h1 : isk v.kd
 ·simp only [eES,seval]
 simp only [eES,eEX,seval]
 refine aops_call (x138 v.kd) rfl rfl rfl (.inl rfl) ?_
 cases h2 : txk v.kd
 ·simp only [eES,eEX,seval]
  refine aops_call (x138 v.kd) rfl rfl rfl (.inl rfl) ?_
  simp only [h2,eES,eEX,seval]
  refine aops_call (x138 v.kd) rfl rfl rfl (.inl rfl) ?_
  simp only [h2,eES,eEX,seval]
  refine aops_call hr rfl rfl rfl (.inl rfl) ?_
  simp only [eES,eEX,seval]
  refine aops_call hr rfl rfl rfl (.inl rfl) ?_
  simp only [r1,eES,eEX,seval]
  refine aops_call hr rfl rfl rfl (.inl rfl) ?_
  simp only [eES,eEX,seval]
  refine aops_call hr rfl rfl rfl (.inl rfl) ?_
  simp only [r2,eES,seval]
 ·simp only [s1,eES,eEX,seval]
  refine aops_call (x138 v.kd) rfl rfl rfl (.inl rfl) ?_
  simp only [h2,s2,eES,eEX,seval]
  refine aops_call (x138 v.kd) rfl rfl rfl (.inl rfl) ?_
  simp only [h2,eES,seval]

def LqI (l : List V) (k : Nat) (st : St) : Prop :=
 ∃ f i,st = ⟨f,[noObs],[]⟩ ∧ k = l.length - i ∧ f 0 = .list (l.map V.av) ∧ f 1 = .list (l.map V.av) ∧ f 5 = .int .i64 (i : Nat)
theorem lists_self (l : List V) (hn : l.length ≤ maxLen) (h : ∀ x ∈ l,Fn1 Tryz.prog 55 [x.av,x.av] (.int .i64 0)) : Fn1 Tryz.prog 92 [.list (l.map V.av),.list (l.map V.av)] (.int .i64 0):=by
 refine k92.fn (by simp) ?_
 simp only [eES,seval]
 refine awp_loop (LqI l) _ ⟨_,0,rfl,rfl,(by rfl),(by rfl),(by rfl)⟩ ?_
 rintro _ st ⟨f,i,rfl,rfl,h0,h1,h5⟩
 simp only [List.length_map,h0,h5,eES,seval]
 by_cases hlt : i < l.length
 ·obtain ⟨x,hi⟩ : ∃ x,l[i]? = some x:=⟨l[i],List.getElem?_eq_getElem hlt⟩
  have hg:=getV hi
  have e1:=wi64_s i _ hlt hn
  have d0 : ((0 : Int) != 0) = false:=rfl
  have c1:=h x (List.mem_of_getElem? hi)
  rw [av7] at c1
  simp only [lt_t hlt,nneg,Int.toNat_natCast,aiaddr,hg,List.length_map,h0,h1,h5,eES,eEX,seval]
  refine aops_call c1 rfl rfl rfl (.inl rfl) ?_
  simp only [d0,h5,e1,eES,seval]
  exact ⟨l.length - (i + 1),by omega,_,i + 1,rfl,rfl,(by exact h0),(by exact h1),(by rfl)⟩
 ·simp only [lt_f hlt,List.length_map,h0,h1,eES,seval]
  refine aops_call (v91 _) rfl rfl rfl (.inl rfl) ?_
  simp only [eES,seval]

def PqI (l : List (V × V)) (k : Nat) (st : St) : Prop :=
 ∃ f i,st = ⟨f,[noObs],[]⟩ ∧ k = l.length - i ∧ f 0 = .list (l.map V.pav) ∧ f 1 = .list (l.map V.pav) ∧ f 5 = .int .i64 (i : Nat)
theorem pairs_self (l : List (V × V)) (hn : l.length ≤ maxLen) (h : ∀ x ∈ l,Fn1 Tryz.prog 55 [x.1.av,x.1.av] (.int .i64 0) ∧ Fn1 Tryz.prog 55 [x.2.av,x.2.av] (.int .i64 0)) : Fn1 Tryz.prog 93 [.list (l.map V.pav),.list (l.map V.pav)] (.int .i64 0):=by
 refine k93.fn (by simp) ?_
 simp only [eES,seval]
 refine awp_loop (PqI l) _ ⟨_,0,rfl,rfl,(by rfl),(by rfl),(by rfl)⟩ ?_
 rintro _ st ⟨f,i,rfl,rfl,h0,h1,h5⟩
 simp only [List.length_map,h0,h5,eES,seval]
 by_cases hlt : i < l.length
 ·obtain ⟨x,hi⟩ : ∃ x,l[i]? = some x:=⟨l[i],List.getElem?_eq_getElem hlt⟩
  have hg:=getP hi
  have e1:=wi64_s i _ hlt hn
  have d0 : ((0 : Int) != 0) = false:=rfl
  obtain ⟨c1,c2⟩:=h x (List.mem_of_getElem? hi)
  rw [av7] at c1 c2
  simp only [lt_t hlt,nneg,Int.toNat_natCast,aiaddr,hg,List.length_map,List.take_succ_cons,List.take_zero,List.drop_zero,h0,h1,h5,eES,eEX,seval]
  refine aops_call c1 rfl rfl rfl (.inl rfl) ?_
  simp only [d0,nneg,Int.toNat_natCast,aiaddr,hg,List.take_succ_cons,List.drop_succ_cons,List.drop_zero,h0,h1,h5,eES,eEX,seval]
  refine aops_call c2 rfl rfl rfl (.inl rfl) ?_
  simp only [d0,h5,e1,eES,seval]
  exact ⟨l.length - (i + 1),by omega,_,i + 1,rfl,rfl,(by exact h0),(by exact h1),(by rfl)⟩
 ·simp only [lt_f hlt,List.length_map,h0,h1,eES,seval]
  refine aops_call (v91 _) rfl rfl rfl (.inl rfl) ?_
  simp only [eES,seval]

def SqI (l : List (Int × V)) (k : Nat) (st : St) : Prop :=
 ∃ f i,st = ⟨f,[noObs],[]⟩ ∧ k = l.length - i ∧ f 0 = .list (l.map V.sav) ∧ f 1 = .list (l.map V.sav) ∧ f 5 = .int .i64 (i : Nat)
theorem slots_self (l : List (Int × V)) (hn : l.length ≤ maxLen) (h : ∀ x ∈ l,Fn1 Tryz.prog 55 [x.2.av,x.2.av] (.int .i64 0)) : Fn1 Tryz.prog 94 [.list (l.map V.sav),.list (l.map V.sav)] (.int .i64 0):=by
 refine k94.fn (by simp) ?_
 simp only [eES,seval]
 refine awp_loop (SqI l) _ ⟨_,0,rfl,rfl,(by rfl),(by rfl),(by rfl)⟩ ?_
 rintro _ st ⟨f,i,rfl,rfl,h0,h1,h5⟩
 simp only [List.length_map,h0,h5,eES,seval]
 by_cases hlt : i < l.length
 ·obtain ⟨x,hi⟩ : ∃ x,l[i]? = some x:=⟨l[i],List.getElem?_eq_getElem hlt⟩
  have hg:=getS hi
  have e1:=wi64_s i _ hlt hn
  have d0 : ((0 : Int) != 0) = false:=rfl
  have c2:=h x (List.mem_of_getElem? hi)
  rw [av7] at c2
  simp only [lt_t hlt,nneg,Int.toNat_natCast,aiaddr,hg,List.length_map,List.drop_zero,h0,h1,h5,eES,eEX,seval]
  refine aops_call (v91 x.1) rfl rfl rfl (.inl rfl) ?_
  simp only [d0,nneg,Int.toNat_natCast,aiaddr,hg,List.take_succ_cons,List.drop_succ_cons,List.drop_zero,h0,h1,h5,eES,eEX,seval]
  refine aops_call c2 rfl rfl rfl (.inl rfl) ?_
  simp only [d0,h5,e1,eES,seval]
  exact ⟨l.length - (i + 1),by omega,_,i + 1,rfl,rfl,(by exact h0),(by exact h1),(by rfl)⟩
 ·simp only [lt_f hlt,List.length_map,h0,h1,eES,seval]
  refine aops_call (v91 _) rfl rfl rfl (.inl rfl) ?_
  simp only [eES,seval]

theorem cmp_self (v : V) (hc : v.cnt ≤ 1048576) : Fn1 Tryz.prog 55 [v.av,v.av] (.int .i64 0):=by
 revert hc
 refine V.ind (P:=fun v => v.cnt ≤ 1048576 → Fn1 Tryz.prog 55 [v.av,v.av] (.int .i64 0)) ?_ v
 clear v
 intro v hl hp hs hc
 have l1:=len_list v
 have l2:=len_pairs v
 have l3:=len_slots v
 have l4:=len_raws v
 have c1:=lists_self v.list (by simp only [maxLen]; omega) fun x hx => hl x hx (Nat.le_trans (cnt_list hx) hc)
 have c2:=pairs_self v.pairs (by simp only [maxLen]; omega) fun x hx => ⟨(hp x hx).1 (Nat.le_trans (cnt_key hx) hc),(hp x hx).2 (Nat.le_trans (cnt_val hx) hc)⟩
 have c3:=slots_self v.slots (by simp only [maxLen]; omega) fun x hx => hs x hx (Nat.le_trans (cnt_slot hx) hc)
 have c4:=v95 v.raws (by simp only [maxLen]; omega)
 have c5:=cmp04_self v
 have d0 : ((0 : Int) != 0) = false:=rfl
 rw [av7] at c5
 rw [av7]
 refine k55.fn (by simp) ?_
 simp only [bne_self_eq_false,eES,eEX,seval]
 cases b1 : (v.kd == 11)
 ·cases b2 : (v.kd == 12)
  ·cases b3 : (v.kd == 10)
   ·simp only [b2,b3,eES,eEX,seval]
    refine aops_call c5 rfl rfl rfl (.inl rfl) ?_
    simp only [eES,seval]
   ·simp only [b2,b3,eES,eEX,seval]
    refine aops_call c3 rfl rfl rfl (.inl rfl) ?_
    simp only [d0,eES,eEX,seval]
    refine aops_call c4 rfl rfl rfl (.inl rfl) ?_
    simp only [eES,seval]
  ·simp only [b2,eES,eEX,seval]
   refine aops_call c2 rfl rfl rfl (.inl rfl) ?_
   simp only [eES,seval]
 ·simp only [eES,eEX,seval]
  refine aops_call c1 rfl rfl rfl (.inl rfl) ?_
  simp only [eES,seval]

theorem same_self (v : V) (hc : v.cnt ≤ 1048576) : Fn1 Tryz.prog 8 [v.av,v.av] (.bool true):=by
 have c1:=cmp_self v hc
 have d0 : ((0 : Int) == 0) = true:=rfl
 have c2 : Fn1 Tryz.prog 23 [v.av,v.av] (.bool true):=by
  rw [av7] at c1 ⊢
  refine k23.fn (by simp) ?_
  simp only [eES,eEX,seval]
  refine aops_call c1 rfl rfl rfl (.inl rfl) ?_
  simp only [d0,eES,seval]
 rw [av7] at c2 ⊢
 refine k8.fn (by simp) ?_
 simp only [g8_0,g8_1,r8,o8,eES,eEX,seval]
 refine aops_call c2 rfl rfl rfl (.inl rfl) ?_
 simp only [eES,seval]


theorem adj_pw {ops : List PO} (h : adj ops (ordn PO.num) = true) : ops.Pairwise fun a b => a.num < b.num:=by
 have hs : ∀ i (hi : i + 1 < ops.length),ops[i].num < ops[i + 1].num:=by
  intro i hi
  unfold adj at h
  have:=allU_iff.1 h (i + 1) hi
  rw [two_at (List.getElem?_eq_getElem (by omega : i < ops.length)) (List.getElem?_eq_getElem hi)] at this
  unfold ordn at this
  simpa using this
 rw [List.pairwise_iff_getElem]
 intro i j hi hj hij
 obtain ⟨d,rfl⟩ : ∃ d,j = i + 1 + d:=⟨j - (i + 1),by omega⟩
 clear hij
 induction d with
 | zero => exact hs i (by omega)
 | succ d ih =>
  have a:=ih (by omega)
  have b:=hs (i + 1 + d) (by omega)
  exact Int.lt_trans a b

theorem ck_parts {P : PL} (h : ck P = 0) : ord P = true ∧ args P = true:=by
 unfold ck at h
 split at h
 ·omega
 split at h
 ·omega
 split at h
 ·omega
 rename_i ho
 split at h
 ·omega
 split at h
 ·omega
 split at h
 ·omega
 rename_i ha
 exact ⟨by simpa using ho,by simpa using ha⟩
theorem rises_of {P : PL} (h : ck P = 0) : Rises P:=by
 have ho:=(ck_parts h).1
 unfold ord at ho
 simp only [Bool.and_eq_true,List.all_eq_true] at ho
 intro g hg
 exact adj_pw (ho.1.2 g hg)
def Cards (P : PL) : Prop:=∀ g ∈ P.progs,∀ o ∈ g.ops,1 ≤ o.card ∧ o.card ≤ 5
theorem cards_of {P : PL} (h : ck P = 0) : Cards P:=by
 have ha:=(ck_parts h).2
 intro g hg o ho
 unfold args at ha
 simp only [Bool.and_eq_true,List.all_eq_true] at ha
 have h1:=ha.1 g hg
 unfold argG at h1
 simp only [Bool.and_eq_true,List.all_eq_true] at h1
 have h2:=(h1.2 o ho).1
 unfold arg1 at h2
 simp only [Bool.and_eq_true,decide_eq_true_eq] at h2
 exact ⟨h2.1.1.1.2,h2.1.1.2⟩

theorem row3 {fr : Nat → Ob} {a b c : Nat} (h1 : (fr a).isRow = false) (h2 : (fr b).isRow = false) (h3 : (fr c).isRow = false) : ∀ s ∈ [a,b,c],(fr s).isRow = false:=by
 intro s hs
 simp only [List.mem_cons,List.not_mem_nil,or_false] at hs
 rcases hs with rfl | rfl | rfl
 ·exact h1
 ·exact h2
 ·exact h3

section
variable (k : Int) (b : Nat) (t : List UInt8) (l p s r : List AV)

theorem w59 : Fn1 Tryz.prog 59 [vo k b t l p s r] (.bool (zer k b t l p s r)):=by
 have hl:=y99 k b t l p s r
 simp only [vo] at hl
 refine k59.fn (by simp) ?_
 simp only [vo,zer,eES,eEX,seval]
 refine aops_call (x98 k) rfl rfl rfl (.inl rfl) ?_
 cases isk k
 ·simp only [Bool.false_and,eES,seval]
 ·simp only [Bool.true_and,eES,eEX,seval]
  cases h1 : ((b : Int) == 0)
  ·simp only [Bool.and_false,Bool.false_and,eES,seval]
  ·cases h2 : (t == [])
   ·simp only [h2,Bool.and_false,astr,eES,eEX,seval]
   ·simp only [h2,Bool.and_true,astr,eES,eEX,seval]
    refine aops_call hl rfl rfl rfl (.inl rfl) ?_
    simp only [eES,seval]

theorem w52 (hl : l.length ≤ 140737488351232) (hp : p.length ≤ 140737488351232) (hs : s.length ≤ 140737488351232) (hr : r.length ≤ 140737488351232) :
  Fn1 Tryz.prog 52 [vo k b t l p s r] (.bool (zer k b t l p s r)):=by
 have hle:=y88 k b t l p s r hl hp hs hr
 simp only [vo] at hle
 refine k52.fn (by simp) ?_
 simp only [vo,zer,eES,eEX,seval]
 refine aops_call (x87 k) rfl rfl rfl (.inl rfl) ?_
 cases isk k
 ·simp only [Bool.false_and,eES,seval]
 ·simp only [Bool.true_and,eES,eEX,seval]
  refine aops_call hle rfl rfl rfl (.inl rfl) ?_
  cases lon l p s r
  ·simp only [Bool.false_and,eES,seval]
  ·cases h1 : ((b : Int) == 0) <;> cases h2 : (t == []) <;> cases h3 : txk k <;> simp only [h1,h2,Bool.and_true,Bool.and_false,Bool.false_eq_true,astr,eES,eEX,seval]

theorem w26 : Fn1 Tryz.prog 26 [vo k b t l p s r] (.bool (emp k b t l p s r)):=by
 have hz:=w59 k b t l p s r
 simp only [vo] at hz
 refine k26.fn (by simp) ?_
 simp only [vo,emp,eES,eEX,seval]
 by_cases h1 : k = 11
 ·subst h1
  have e : zer 11 b t l p s r = false:=rfl
  have e1 : ((11 : Int) == 11) = true:=rfl
  have e2 : ((11 : Int) == 12) = false:=rfl
  simp only [e,e1,e2,Bool.true_and,Bool.false_and,Bool.or_false,eES,eEX,seval]
 ·have e1 : (k == 11) = false:=by simp [h1]
  by_cases h2 : k = 12
  ·subst h2
   have e : zer 12 b t l p s r = false:=rfl
   have e2 : ((12 : Int) == 12) = true:=rfl
   simp only [e,e1,e2,Bool.true_and,Bool.false_and,Bool.or_false,Bool.false_or,eES,eEX,seval]
  ·have e2 : (k == 12) = false:=by simp [h2]
   simp only [e1,e2,Bool.false_and,Bool.false_or,eES,eEX,seval]
   refine aops_call hz rfl rfl rfl (.inl rfl) ?_
   simp only [eES,seval]

theorem w19 (hl : l.length ≤ 140737488351232) (hp : p.length ≤ 140737488351232) (hs : s.length ≤ 140737488351232) (hr : r.length ≤ 140737488351232) : Fn1 Tryz.prog 19 [vo k b t l p s r] (.bool (emp k b t l p s r)):=by
 have hz:=w52 k b t l p s r hl hp hs hr
 simp only [vo] at hz
 refine k19.fn (by simp) ?_
 simp only [vo,emp,eES,eEX,seval]
 cases h1 : (k == 11) <;> cases h2 : ((l.length : Int) == 0) <;> cases h3 : (k == 12) <;> cases h4 : ((p.length : Int) == 0) <;> simp only [h2,h3,h4,Bool.true_and,Bool.false_and,Bool.true_or,Bool.false_or,Bool.or_false,eES,eEX,seval]
 all_goals (refine aops_call hz rfl rfl rfl (.inl rfl) ?_; simp only [eES,seval])

end
theorem emp_i (v : V) (hc : v.cnt ≤ 1048576) : Fn1 Tryz.prog 19 [v.av] (.bool v.emp):=by
 have h1:=len_list v
 have h2:=len_pairs v
 have h3:=len_slots v
 have h4:=len_raws v
 rw [vo_av]
 exact w19 _ _ _ _ _ _ _ (by simp; omega) (by simp; omega) (by simp; omega) (by simp; omega)
theorem emp_r (v : V) : Fn1 Tryz.prog 26 [v.av] (.bool v.emp):=by
 rw [vo_av]
 exact w26 _ _ _ _ _ _ _

def NgI (P : PL) (K : Nat → List (Int × V)) (T : List (Int × V)) (t : Nat) (rw' : List R) (k : Nat) (st : St) : Prop :=
 ∃ f fr i g h,st = ⟨f,[fr],[]⟩ ∧ k = T.length - i ∧ i ≤ T.length ∧ f 1 = .int .i64 (t : Nat) ∧ f 3 = .ptr 0 3 0 ∧ f 6 = .ptr 0 6 0 ∧ f 7 = .ptr 0 7 0 ∧ f 30 = .list (T.map V.sav) ∧ f 31 = .int .i64 (T.length : Nat) ∧ f 32 = .int .i64 (i : Nat) ∧ fr 3 = .cells [.list (P.progs.map gav),.list (P.enums.map eav)] ∧ fr 6 = .cells [.int .i64 0,.int .u64 0,.str [],.nils,.nils,.nils,.nils] ∧ fr 7 = .cells [.int .i64 10,.int .u64 0,.str [],.nils,.nils,.vec 0 1100 g 0 (K i).length false,.vec 0 1000 h 0 rw'.length false] ∧ fr 1100 = .vec g 8 ((K i).map V.sav) ∧ fr 1000 = .vec h 4 (rw'.map R.av) ∧ ∀ s ∈ [13,10,9],(fr s).isRow = false

section
variable {M : Nat} {P : PL} (hP : P.ok M)

set_option maxHeartbeats 2000000 in
include hP in
theorem v7 (hU : Use P) (hr : Rises P) (hcd : Cards P) : ∀ (n : Nat) (t : Int) (g : PG),P.progs[t.toNat]? = some g → 0 ≤ t → ∀ v : V,v.ok M → v.cnt ≤ 1048576 → msgF P n g v = 0 → Fn1 Tryz.prog 7 [P.av,.int .i64 t,v.av] (nrm P n g v).av:=by
 have e0 : P.av = .agg [.list (P.progs.map gav),.list (P.enums.map eav)]:=rfl
 intro n
 induction n with
 | zero =>
  intro t g _ _ v _ _ h
  unfold msgF at h
  split at h <;> omega
 | succ n ih =>
  intro t g hgt t0 v hv hc h
  have hgm:=List.mem_of_getElem? hgt
  have hg:=hP.progs g hgm
  have hu:=hU g hgm
  have hd:=hr g hgm
  obtain ⟨_,⟨s1,s2,s3⟩,_,_⟩:=msg_iff.1 h
  have hnel:=fun (o : PO) (ho : o ∈ g.ops) (x : V) (hx : x.ok M) (hxc : x.cnt ≤ 1048576) (he : elemF (msgF P n) P o x = 0) => v49 o (hu o ho) (fun t g a b v c d e => ih t g a b v c d e) x hx hxc he
  have hnfl:=fun (o : PO) (ho : o ∈ g.ops) (x : V) (hx : x.ok M) (hxc : x.cnt ≤ 1048576) (he : fieldF (msgF P n) P o x = 0) => v18 o (hu o ho) (hnel o ho) x hx hxc he
  have hcn : ∀ (o : PO) (x : V),(nfl (nrm P n) P o x).cnt ≤ x.cnt:=fun o x => cnt_nfl (fun t v => cnt_nrm hr n _ (gat_rises hr t) v) o x
  have lS:=len_slots v
  have lR:=len_raws v
  have clR:=fun fr hr => v15 (v.raws.map R.av) fr [] (all4 v.raws) (by rw [List.length_map]; omega) hr
  have csR:=fun g (m : Mem) (hl : Am.look m 0 1000 = .vec g 4 (v.raws.map R.av)) => Tz.c_ss Tg.csRaw (by decide) cp_R 0 1000 g (v.raws.map R.av) m hl (ezR v.raws) (by rw [List.length_map]; omega)
  simp only [srtR_map,List.length_map] at csR
  have csl:=v16 v.slots (by omega) s2
  have hTp : (srtS v.slots).Perm v.slots:=isort_perm _
  have hTl : (srtS v.slots).length = v.slots.length:=hTp.length_eq
  have hTm : ∀ s ∈ srtS v.slots,s ∈ v.slots:=fun s h => hTp.mem_iff.1 h
  have hfin:=slots_eq (nrm P n) P hd s2
  have hrl : (srtR v.raws).length = v.raws.length:=(isort_perm v.raws).length_eq
  generalize srtS v.slots = T at *
  obtain ⟨ti,hti⟩:=Int.eq_ofNat_of_zero_le t0
  subst hti
  rw [Int.toNat_natCast] at hgt
  have hga : (P.progs.map gav)[ti]? = some (.agg g.cells):=by simp [hgt,gav]
  simp only [PG.cells] at hga
  have htl : ti < P.progs.length:=(List.getElem?_eq_some_iff.1 hgt).1
  have d0 : decide ((ti : Int) < 0) = false:=decide_eq_false (by omega)
  have d1 : decide ((ti : Int) ≥ (P.progs.length : Int)) = false:=decide_eq_false (by omega)
  have co:=fun n => y17 g hg.len n
  simp only [opr_opq] at co
  simp only [gav,PG.cells] at co
  show Fn1 _ _ _ (V.mk 10 0 [] [] [] (g.ops.flatMap (nslot (nrm P n) P v.slots)) (srtR v.raws)).av
  rw [← hfin,av7 v]
  generalize hK : (fun i => (T.take i).flatMap (keepS (nrm P n) P g)) = K
  have hK0 : K 0 = []:=by rw [← hK]; simp
  have hKn : T.flatMap (keepS (nrm P n) P g) = K T.length:=by rw [← hK]; simp
  have hKl : ∀ i,i ≤ T.length → (K i).length ≤ i:=by
   intro i hi
   rw [← hK]
   show ((T.take i).flatMap _).length ≤ i
   have : ∀ l : List (Int × V),(l.flatMap (keepS (nrm P n) P g)).length ≤ l.length:=by
    intro l
    induction l with
    | nil => exact Nat.le_refl _
    | cons s l ih =>
     have : (keepS (nrm P n) P g s).length ≤ 1:=by
      unfold keepS
      split
      ·simp
      ·unfold keepO
       split <;> simp
     rw [List.flatMap_cons,List.length_append,List.length_cons]
     omega
   exact Nat.le_trans (this _) (by rw [List.length_take]; omega)
  rw [hKn,show (V.mk 10 0 [] [] [] (K T.length) (srtR v.raws)).av = .agg [.int .i64 10,.int .u64 0,.str [],.list [],.list [],.list ((K T.length).map V.sav),.list ((srtR v.raws).map R.av)] from av7 _]
  refine k7.fn (by simp) ?_
  simp only [g7_0,g7_1,g7_2,g7_3,g7_4,g7_13,g7_14,r7,o7,e0,eES,eEX,seval]
  refine aops_callF (clR _ rfl) (by simp only [List.map_cons,List.map_nil,eES,seval]) ?_
  simp only [List.length_map,splice,List.take_succ_cons,List.take_zero,List.drop_succ_cons,List.drop_zero,List.drop_nil,List.append_nil,List.cons_append,List.nil_append,List.length_cons,List.length_nil,List.all_cons,List.all_nil,AV.leaf,eES,eEX,seval]
  refine awp_vecc (by simp only [eES,seval] <;> rfl) rfl (by simp only [eES,seval] <;> rfl) rfl ?_
  simp only [List.set,d0,d1,List.length_map,eES,eEX,seval]
  refine aops_call csl rfl rfl rfl (.inl rfl) ?_
  simp only [List.length_map,eES,seval]
  refine awp_loop (NgI P K T ti v.raws) _ ⟨_,_,0,_,_,rfl,rfl,Nat.zero_le _,(by rfl),(by rfl),(by rfl),(by rfl),(by rfl),(by rfl),(by rfl),(by rfl),(by rfl),(by rw [hK0]; exact (by rfl)),(by rw [hK0]; exact (by rfl)),(by rfl),row3 rfl rfl rfl⟩ ?_
  rintro _ st ⟨f0,fr0,i,gs,hs,rfl,rfl,hil,h10,h30,h60,h70,h300,h310,h320,m30,m60,m70,mS0,mR0,r13⟩
  refine awp_drops (a:=_) [13,10,9] r13 ?_
  intro f fr hf hm hn13
  have h1 : f 1 = .int .i64 (ti : Nat):=by rw [hf,h10] <;> rfl
  have h3 : f 3 = .ptr 0 3 0:=by rw [hf,h30] <;> rfl
  have h6 : f 6 = .ptr 0 6 0:=by rw [hf,h60] <;> rfl
  have h7 : f 7 = .ptr 0 7 0:=by rw [hf,h70] <;> rfl
  have h30' : f 30 = .list (T.map V.sav):=by rw [hf,h300] <;> rfl
  have h31 : f 31 = .int .i64 (T.length : Nat):=by rw [hf,h310] <;> rfl
  have h32 : f 32 = .int .i64 (i : Nat):=by rw [hf,h320] <;> rfl
  have m3 : fr 3 = .cells [.list (P.progs.map gav),.list (P.enums.map eav)]:=by rw [hm 3 (by decide),m30] <;> rfl
  have m6 : fr 6 = .cells [.int .i64 0,.int .u64 0,.str [],.nils,.nils,.nils,.nils]:=by rw [hm 6 (by decide),m60] <;> rfl
  have m7 : fr 7 = .cells [.int .i64 10,.int .u64 0,.str [],.nils,.nils,.vec 0 1100 gs 0 (K i).length false,.vec 0 1000 hs 0 v.raws.length false]:=by rw [hm 7 (by decide),m70] <;> rfl
  have mS : fr 1100 = .vec gs 8 ((K i).map V.sav):=by rw [hm 1100 (by decide),mS0] <;> rfl
  have mR : fr 1000 = .vec hs 4 (v.raws.map R.av):=by rw [hm 1000 (by decide),mR0] <;> rfl
  have n13:=hn13 13 (by decide)
  have n10:=hn13 10 (by decide)
  have n9:=hn13 9 (by decide)
  clear hf hm hn13 h10 h30 h60 h70 h300 h310 h320 m30 m60 m70 mS0 mR0 r13
  simp only [g7_5,g7_6,g7_7,g7_8,g7_9,g7_10,g7_11,g7_12,h31,h32,eES,seval]
  by_cases hlt : i < T.length
  ·obtain ⟨x,hi⟩ : ∃ x,T[i]? = some x:=⟨T[i],List.getElem?_eq_getElem hlt⟩
   have hx:=hTm x (List.mem_of_getElem? hi)
   have hgs:=getS hi
   have e1:=wi64_s i _ hlt (by simp only [maxLen]; omega)
   obtain ⟨o,ho,hfo⟩:=s1 x hx
   obtain ⟨hom,hon⟩:=opq_mem ho
   have hcard:=hcd g hgm o hom
   have c1:=co x.1
   rw [ho] at c1
   have hxc:=Nat.le_trans (cnt_slot hx) hc
   have c2:=hnfl o hom x.2 (hv.slots x hx) hxc hfo
   have c3:=emp_i (nfl (nrm P n) P o x.2) (Nat.le_trans (hcn o x.2) hxc)
   have hKs : K (i + 1) = K i ++ keepO (nrm P n) P o x:=by
    rw [← hK]
    show (T.take (i + 1)).flatMap _ = (T.take i).flatMap _ ++ _
    rw [List.take_add_one,hi,List.flatMap_append]
    have : keepS (nrm P n) P g x = keepO (nrm P n) P o x:=by unfold keepS; rw [ho]
    simp [this]
   have hkO : keepO (nrm P n) P o x = if (decide (o.card < 3) || !(nfl (nrm P n) P o x.2).emp) = true then [(x.1,nfl (nrm P n) P o x.2)] else []:=by
    unfold keepO
    rw [hon]
   have hKi:=hKl i (by omega)
   rw [hkO] at hKs
   clear hkO
   generalize nfl (nrm P n) P o x.2 = z at c2 c3 hKs
   rw [e0,av7 x.2,av7 z] at c2
   rw [av7 z] at c3
   simp only [oav,PO.cells] at c2
   have fin : ∀ (f' : Fr) (fr' : Nat → Ob) (gs' : Nat),f' 1 = .int .i64 (ti : Nat) → f' 3 = .ptr 0 3 0 → f' 6 = .ptr 0 6 0 → f' 7 = .ptr 0 7 0 → f' 30 = .list (T.map V.sav) → f' 31 = .int .i64 (T.length : Nat) → f' 32 = .int .i64 ((i + 1 : Nat) : Int) → fr' 3 = .cells [.list (P.progs.map gav),.list (P.enums.map eav)] → fr' 6 = .cells [.int .i64 0,.int .u64 0,.str [],.nils,.nils,.nils,.nils] → fr' 7 = .cells [.int .i64 10,.int .u64 0,.str [],.nils,.nils,.vec 0 1100 gs' 0 (K (i + 1)).length false,.vec 0 1000 hs 0 v.raws.length false] → fr' 1100 = .vec gs' 8 ((K (i + 1)).map V.sav) → fr' 1000 = .vec hs 4 (v.raws.map R.av) → (∀ s ∈ [13,10,9],(fr' s).isRow = false) → ∃ k,k < T.length - i ∧ NgI P K T ti v.raws k ⟨f',[fr'],[]⟩:=by
    intro f' fr' gs' a1 a3 a6 a7 a30 a31 a32 b3 b6 b7 bS bR br
    exact ⟨T.length - (i + 1),by omega,f',fr',i + 1,gs',hs,rfl,rfl,by omega,a1,a3,a6,a7,a30,a31,a32,b3,b6,b7,bS,bR,br⟩
   simp only [lt_t hlt,nneg,Int.toNat_natCast,aiaddr,hgs,hga,n9,splice,List.take_succ_cons,List.take_zero,List.drop_succ_cons,List.drop_zero,List.drop_nil,List.append_nil,List.nil_append,List.length_cons,List.length_nil,h1,h3,h30',h32,m3,eES,eEX,seval]
   refine aops_call c1 rfl rfl rfl (.inl rfl) ?_
   simp only [Option.getD_some,Option.isSome_some,oav,PO.cells,n10,splice,List.take_zero,List.drop_succ_cons,List.drop_nil,List.append_nil,List.nil_append,List.length_cons,List.length_nil,List.all_cons,List.all_nil,AV.leaf,eES,eEX,seval]
   rcases (by omega : o.card = 1 ∨ o.card = 2 ∨ o.card = 3 ∨ o.card = 4 ∨ o.card = 5) with cc | cc | cc | cc | cc
   ·have b3 : (o.card == 3) = false:=by simp [cc]
    have b4 : (o.card == 4) = false:=by simp [cc]
    have b5 : (o.card == 5) = false:=by simp [cc]
    rw [if_pos (by simp [cc])] at hKs
    simp only [b3,b4,b5,List.take_succ_cons,List.drop_succ_cons,List.drop_zero,h3,m3,eES,eEX,seval]
    refine aops_call c2 rfl rfl rfl (.inl rfl) ?_
    simp only [n13,splice,List.take_succ_cons,List.take_zero,List.drop_succ_cons,List.drop_zero,List.drop_nil,List.append_nil,List.cons_append,List.nil_append,List.length_cons,List.length_nil,List.all_cons,List.all_nil,AV.leaf,h7,m7,eES,eEX,seval]
    refine aops_bslB (l:=[V.sav (x.1,z)]) rfl rfl rfl (by rw [sav8]; rfl) ?_
    refine aops_app (site:=1100) (g:=gs) (n:=(K i).length) (xs:=(K i).map V.sav) (ys:=[V.sav (x.1,z)]) (by rfl) (by exact mS) rfl (by rw [List.length_map]) rfl (all8 [(x.1,z)]) (by simp only [List.length_cons,List.length_nil,maxLen]; omega) (by simp only [List.length_cons,List.length_nil]; omega) ?_
    simp only [splice,List.take_succ_cons,List.take_zero,List.drop_succ_cons,List.drop_zero,List.cons_append,List.nil_append,List.length_cons,List.length_nil,List.all_cons,List.all_nil,AV.leaf,h7,h32,m7,e1,eES,eEX,seval]
    exact fin _ _ (gs + 1) (by exact h1) (by exact h3) (by exact h6) (by exact h7) (by exact h30') (by exact h31) (by rfl) (by exact m3) (by exact m6) (by rw [hKs,List.length_append]; exact (by rfl)) (by rw [hKs,List.map_append]; exact (by rfl)) (by exact mR) (row3 rfl rfl rfl)

   ·have b3 : (o.card == 3) = false:=by simp [cc]
    have b4 : (o.card == 4) = false:=by simp [cc]
    have b5 : (o.card == 5) = false:=by simp [cc]
    rw [if_pos (by simp [cc])] at hKs
    simp only [b3,b4,b5,List.take_succ_cons,List.drop_succ_cons,List.drop_zero,h3,m3,eES,eEX,seval]
    refine aops_call c2 rfl rfl rfl (.inl rfl) ?_
    simp only [n13,splice,List.take_succ_cons,List.take_zero,List.drop_succ_cons,List.drop_zero,List.drop_nil,List.append_nil,List.cons_append,List.nil_append,List.length_cons,List.length_nil,List.all_cons,List.all_nil,AV.leaf,h7,m7,eES,eEX,seval]
    refine aops_bslB (l:=[V.sav (x.1,z)]) rfl rfl rfl (by rw [sav8]; rfl) ?_
    refine aops_app (site:=1100) (g:=gs) (n:=(K i).length) (xs:=(K i).map V.sav) (ys:=[V.sav (x.1,z)]) (by rfl) (by exact mS) rfl (by rw [List.length_map]) rfl (all8 [(x.1,z)]) (by simp only [List.length_cons,List.length_nil,maxLen]; omega) (by simp only [List.length_cons,List.length_nil]; omega) ?_
    simp only [splice,List.take_succ_cons,List.take_zero,List.drop_succ_cons,List.drop_zero,List.cons_append,List.nil_append,List.length_cons,List.length_nil,List.all_cons,List.all_nil,AV.leaf,h7,h32,m7,e1,eES,eEX,seval]
    exact fin _ _ (gs + 1) (by exact h1) (by exact h3) (by exact h6) (by exact h7) (by exact h30') (by exact h31) (by rfl) (by exact m3) (by exact m6) (by rw [hKs,List.length_append]; exact (by rfl)) (by rw [hKs,List.map_append]; exact (by rfl)) (by exact mR) (row3 rfl rfl rfl)
   ·have b3 : (o.card == 3) = true:=by simp [cc]
    have b4 : (o.card == 4) = false:=by simp [cc]
    have b5 : (o.card == 5) = false:=by simp [cc]
    have l3 : decide (o.card < 3) = false:=by simp [cc]
    rw [l3,Bool.false_or] at hKs
    simp only [b3,List.take_succ_cons,List.drop_succ_cons,List.drop_zero,h3,m3,eES,eEX,seval]
    refine aops_call c2 rfl rfl rfl (.inl rfl) ?_
    simp only [n13,splice,List.take_succ_cons,List.take_zero,List.drop_succ_cons,List.drop_zero,List.drop_nil,List.append_nil,List.nil_append,List.length_cons,List.length_nil,List.all_cons,List.all_nil,AV.leaf,eES,eEX,seval]
    refine aops_call c3 rfl rfl rfl (.inl rfl) ?_
    cases hz : z.emp
    ·rw [hz,if_pos (show (!false) = true from rfl)] at hKs
     simp only [splice,List.take_succ_cons,List.take_zero,List.drop_succ_cons,List.drop_zero,List.drop_nil,List.append_nil,List.cons_append,List.nil_append,List.length_cons,List.length_nil,List.all_cons,List.all_nil,AV.leaf,h7,m7,eES,eEX,seval]
     refine aops_bslB (l:=[V.sav (x.1,z)]) rfl rfl rfl (by rw [sav8]; rfl) ?_
     refine aops_app (site:=1100) (g:=gs) (n:=(K i).length) (xs:=(K i).map V.sav) (ys:=[V.sav (x.1,z)]) (by rfl) (by exact mS) rfl (by rw [List.length_map]) rfl (all8 [(x.1,z)]) (by simp only [List.length_cons,List.length_nil,maxLen]; omega) (by simp only [List.length_cons,List.length_nil]; omega) ?_
     simp only [splice,List.take_succ_cons,List.take_zero,List.drop_succ_cons,List.drop_zero,List.cons_append,List.nil_append,List.length_cons,List.length_nil,List.all_cons,List.all_nil,AV.leaf,h7,h32,m7,e1,eES,eEX,seval]
     exact fin _ _ (gs + 1) (by exact h1) (by exact h3) (by exact h6) (by exact h7) (by exact h30') (by exact h31) (by rfl) (by exact m3) (by exact m6) (by rw [hKs,List.length_append]; exact (by rfl)) (by rw [hKs,List.map_append]; exact (by rfl)) (by exact mR) (row3 rfl rfl rfl)
    ·rw [hz,if_neg (by simp),List.append_nil] at hKs
     simp only [h32,e1,eES,seval]
     exact fin _ _ gs (by exact h1) (by exact h3) (by exact h6) (by exact h7) (by exact h30') (by exact h31) (by rfl) (by exact m3) (by exact m6) (by rw [hKs]; exact (by exact m7)) (by rw [hKs]; exact (by exact mS)) (by exact mR) (row3 rfl rfl rfl)

   ·have b3 : (o.card == 3) = false:=by simp [cc]
    have b4 : (o.card == 4) = true:=by simp [cc]
    have b5 : (o.card == 5) = false:=by simp [cc]
    have l3 : decide (o.card < 3) = false:=by simp [cc]
    rw [l3,Bool.false_or] at hKs
    simp only [b3,b4,List.take_succ_cons,List.drop_succ_cons,List.drop_zero,h3,m3,eES,eEX,seval]
    refine aops_call c2 rfl rfl rfl (.inl rfl) ?_
    simp only [n13,splice,List.take_succ_cons,List.take_zero,List.drop_succ_cons,List.drop_zero,List.drop_nil,List.append_nil,List.nil_append,List.length_cons,List.length_nil,List.all_cons,List.all_nil,AV.leaf,eES,eEX,seval]
    refine aops_call c3 rfl rfl rfl (.inl rfl) ?_
    cases hz : z.emp
    ·rw [hz,if_pos (show (!false) = true from rfl)] at hKs
     simp only [splice,List.take_succ_cons,List.take_zero,List.drop_succ_cons,List.drop_zero,List.drop_nil,List.append_nil,List.cons_append,List.nil_append,List.length_cons,List.length_nil,List.all_cons,List.all_nil,AV.leaf,h7,m7,eES,eEX,seval]
     refine aops_bslB (l:=[V.sav (x.1,z)]) rfl rfl rfl (by rw [sav8]; rfl) ?_
     refine aops_app (site:=1100) (g:=gs) (n:=(K i).length) (xs:=(K i).map V.sav) (ys:=[V.sav (x.1,z)]) (by rfl) (by exact mS) rfl (by rw [List.length_map]) rfl (all8 [(x.1,z)]) (by simp only [List.length_cons,List.length_nil,maxLen]; omega) (by simp only [List.length_cons,List.length_nil]; omega) ?_
     simp only [splice,List.take_succ_cons,List.take_zero,List.drop_succ_cons,List.drop_zero,List.cons_append,List.nil_append,List.length_cons,List.length_nil,List.all_cons,List.all_nil,AV.leaf,h7,h32,m7,e1,eES,eEX,seval]
     exact fin _ _ (gs + 1) (by exact h1) (by exact h3) (by exact h6) (by exact h7) (by exact h30') (by exact h31) (by rfl) (by exact m3) (by exact m6) (by rw [hKs,List.length_append]; exact (by rfl)) (by rw [hKs,List.map_append]; exact (by rfl)) (by exact mR) (row3 rfl rfl rfl)
    ·rw [hz,if_neg (by simp),List.append_nil] at hKs
     simp only [h32,e1,eES,seval]
     exact fin _ _ gs (by exact h1) (by exact h3) (by exact h6) (by exact h7) (by exact h30') (by exact h31) (by rfl) (by exact m3) (by exact m6) (by rw [hKs]; exact (by exact m7)) (by rw [hKs]; exact (by exact mS)) (by exact mR) (row3 rfl rfl rfl)

   ·have b3 : (o.card == 3) = false:=by simp [cc]
    have b4 : (o.card == 4) = false:=by simp [cc]
    have b5 : (o.card == 5) = true:=by simp [cc]
    have l3 : decide (o.card < 3) = false:=by simp [cc]
    rw [l3,Bool.false_or] at hKs
    simp only [b3,b4,b5,List.take_succ_cons,List.drop_succ_cons,List.drop_zero,h3,m3,eES,eEX,seval]
    refine aops_call c2 rfl rfl rfl (.inl rfl) ?_
    simp only [n13,splice,List.take_succ_cons,List.take_zero,List.drop_succ_cons,List.drop_zero,List.drop_nil,List.append_nil,List.nil_append,List.length_cons,List.length_nil,List.all_cons,List.all_nil,AV.leaf,eES,eEX,seval]
    refine aops_call c3 rfl rfl rfl (.inl rfl) ?_
    cases hz : z.emp
    ·rw [hz,if_pos (show (!false) = true from rfl)] at hKs
     simp only [splice,List.take_succ_cons,List.take_zero,List.drop_succ_cons,List.drop_zero,List.drop_nil,List.append_nil,List.cons_append,List.nil_append,List.length_cons,List.length_nil,List.all_cons,List.all_nil,AV.leaf,h7,m7,eES,eEX,seval]
     refine aops_bslB (l:=[V.sav (x.1,z)]) rfl rfl rfl (by rw [sav8]; rfl) ?_
     refine aops_app (site:=1100) (g:=gs) (n:=(K i).length) (xs:=(K i).map V.sav) (ys:=[V.sav (x.1,z)]) (by rfl) (by exact mS) rfl (by rw [List.length_map]) rfl (all8 [(x.1,z)]) (by simp only [List.length_cons,List.length_nil,maxLen]; omega) (by simp only [List.length_cons,List.length_nil]; omega) ?_
     simp only [splice,List.take_succ_cons,List.take_zero,List.drop_succ_cons,List.drop_zero,List.cons_append,List.nil_append,List.length_cons,List.length_nil,List.all_cons,List.all_nil,AV.leaf,h7,h32,m7,e1,eES,eEX,seval]
     exact fin _ _ (gs + 1) (by exact h1) (by exact h3) (by exact h6) (by exact h7) (by exact h30') (by exact h31) (by rfl) (by exact m3) (by exact m6) (by rw [hKs,List.length_append]; exact (by rfl)) (by rw [hKs,List.map_append]; exact (by rfl)) (by exact mR) (row3 rfl rfl rfl)
    ·rw [hz,if_neg (by simp),List.append_nil] at hKs
     simp only [h32,e1,eES,seval]
     exact fin _ _ gs (by exact h1) (by exact h3) (by exact h6) (by exact h7) (by exact h30') (by exact h31) (by rfl) (by exact m3) (by exact m6) (by rw [hKs]; exact (by exact m7)) (by rw [hKs]; exact (by exact mS)) (by exact mR) (row3 rfl rfl rfl)
  ·have e : i = T.length:=by omega
   subst e
   simp only [lt_f hlt,h7,m7,eES,eEX,seval]
   refine aops_callF (csR _ _ (by simp only [mR,eEX,seval] <;> rfl)) (by simp only [List.map_cons,List.map_nil,eES,seval]) ?_
   simp only [splice,List.take_succ_cons,List.take_zero,List.drop_succ_cons,List.drop_zero,List.drop_nil,List.append_nil,List.nil_append,List.length_cons,List.length_nil,List.all_cons,List.all_nil,AV.leaf,h6,h7,m6,m7,eES,eEX,seval]
   simp [AV.un,AV.unL,isV,vget,mS,List.take_of_length_le,hrl]

end

theorem aops_appR {P : Program} {K : St → Prop} {its : List Am.Item} {f : Fr} {m : Mem} {ds : List DF} {d : Nat} {sz bytes el : Nat} {s r : RA} {site g n site' g' n' : Nat} {fr : Nat → Ob} {xs ys : List AV} (hs : s.ev f = .vec 0 site g 0 n false) (hl : fr site = .vec g sz xs) (ht : tyOk site el = true) (hn : n = xs.length)
  (hr : r.ev f = .vec 0 site' g' 0 n' false) (hr2 : fr site' = .vec g' sz ys) (hn' : n' = ys.length) (hz : ys.all (fun e => e.cells.length == sz) = true) (hm : n + ys.length ≤ maxLen) (hb : (n + ys.length) * bytes ≤ 140737488355328)
  (h : aops P its ⟨upd f d (.vec 0 site (g + 1) 0 (n + ys.length) false),upd fr site (.vec (g + 1) sz (xs ++ ys)) :: m,ds⟩ K) : aops P (⟨some d,.app sz bytes el s r,none⟩ :: its) ⟨f,fr :: m,ds⟩ K:=by
 refine ⟨0,site,g,n,xs,ys,hs,hl,ht,by omega,?_,hz,hm,hb,?_⟩
 ·show elemsOf (fr :: m) (r.ev f) = some ys
  rw [hr]
  exact elems_own hr2 hn'
 ·subst hn
  rw [List.take_length]
  exact h

theorem raws_in (l O : List R) (i : Nat) (x : R) (hx : l[i]? = some x) (hO : O.length ≤ maxLen) (hs : Srt (fun x y : R => decide (x.num < y.num)) O) (fr : Nat → Ob) (f : Fr) (h0 : f 0 = .list (l.map R.av)) (h3 : f 3 = .list (O.map R.av)) (h4 : f 4 = .int .i64 (i : Nat)) (h5 : f 5 = .int .i64 (O.length : Nat)) (Q : Exit → St → Prop)
  (q : ∀ (t : Nat) (f : Fr),t ≤ O.length → (∀ j u,t ≤ j → O[j]? = some u → decide (x.num < u.num) = true) → (∀ j u,j < t → O[j]? = some u → decide (x.num < u.num) = false) → f 0 = .list (l.map R.av) → f 3 = .list (O.map R.av) → f 4 = .int .i64 (i : Nat) → f 5 = .int .i64 (t : Nat) → Q (.exit 2) (⟨f,[fr],[]⟩ : St)) :
  awp Tryz.prog (.loop l24_0) ⟨f,[fr],[]⟩ Q:=by
 let I : Nat → St → Prop:=fun k st => ∃ f t,st = ⟨f,[fr],[]⟩ ∧ k = t ∧ t ≤ O.length ∧ (∀ j u,t ≤ j → O[j]? = some u → decide (x.num < u.num) = true) ∧ f 0 = .list (l.map R.av) ∧ f 3 = .list (O.map R.av) ∧ f 4 = .int .i64 (i : Nat) ∧ f 5 = .int .i64 (t : Nat)
 refine awp_loop I _ ⟨f,O.length,rfl,rfl,Nat.le_refl _,(by intro j u hj hu; rw [List.getElem?_eq_none hj] at hu; cases hu),h0,h3,h4,h5⟩ ?_
 clear h0 h3 h4 h5
 rintro t st ⟨f,_,rfl,rfl,ht,hv,h0,h3,h4,h5⟩
 have hxa:=getR hx
 simp only [h5,eES,seval]
 cases t with
 | zero =>
  have d1 : decide (((0 : Nat) : Int) > 0) = false:=by simp
  simp only [eES,seval]
  exact q 0 _ (Nat.zero_le _) hv (fun j u hj => by omega) (by exact h0) (by exact h3) (by exact h4) (by exact h5)
 | succ r =>
  obtain ⟨u,hu⟩ : ∃ u,O[r]? = some u:=⟨O[r]'(by omega),List.getElem?_eq_getElem (by omega)⟩
  have hua:=getR hu
  have d1 : decide (((r + 1 : Nat) : Int) > 0) = true:=by simp only [decide_eq_true_eq]; omega
  have e2 : IntKind.i64.wrap (((r + 1 : Nat) : Int) - 1) = ((r : Nat) : Int):=by
   simp only [maxLen] at hO
   rw [wi64]; omega
  simp only [d1,e2,nneg,Int.toNat_natCast,aiaddr,hxa,hua,h0,h3,h4,h5,eES,eEX,seval]
  cases hcx : decide (u.num > x.num)
  ·simp only [eES,seval]
   refine q (r + 1) _ ht hv (fun j u' hj hu' => ?_) (by exact h0) (by exact h3) (by exact h4) (by exact h5)
   have:=srt_le hs sw_R (show j ≤ r by omega) hu' hu
   exact sw_R.nt x u u' hcx this
  ·simp only [e2,h5,eES,seval]
   exact ⟨r,by omega,_,r,rfl,rfl,by omega,(by
    intro j v hj hv'
    rcases Nat.lt_or_eq_of_le hj with h | h
    ·exact hv j v h hv'
    ·subst h; rw [hu] at hv'; cases hv'; exact hcx),(by exact h0),(by exact h3),(by exact h4),(by rfl)⟩

def RwI (l : List R) (k : Nat) (st : St) : Prop :=
 ∃ f fr i,st = ⟨f,[fr],[]⟩ ∧ k = l.length - i ∧ i ≤ l.length ∧ f 0 = .list (l.map R.av) ∧ f 3 = .list ((srtR (l.take i)).map R.av) ∧ f 4 = .int .i64 (i : Nat) ∧ rowOrNone (fr 37) = true ∧ rowOrNone (fr 42) = true

set_option maxHeartbeats 1000000 in
theorem v24 (l : List R) (hn : l.length ≤ 1048576) : Fn1 Tryz.prog 24 [.list (l.map R.av)] (.list ((srtR l).map R.av)):=by
 refine k24.fn (by simp) ?_
 simp only [eES,seval]
 refine awp_lst0 (by simp only [eES,seval]) ?_
 simp only [eES,seval]
 refine awp_loop (RwI l) _ ⟨_,_,0,rfl,rfl,Nat.zero_le _,(by rfl),rfl,(by rfl),rfl,rfl⟩ ?_
 rintro _ st ⟨f,fr,i,rfl,rfl,hil,h0,h3,h4,r37,r42⟩
 simp only [List.length_map,h0,h4,eES,seval]
 by_cases hlt : i < l.length
 ·obtain ⟨x,hi⟩ : ∃ x,l[i]? = some x:=⟨l[i],List.getElem?_eq_getElem hlt⟩
  have hxa:=getR hi
  have e1:=wi64_s i _ hlt (by simp only [maxLen]; omega)
  have hp : (srtR (l.take i)).Perm (l.take i):=isort_perm _
  have hO : (srtR (l.take i)).length = i:=by rw [hp.length_eq,List.length_take]; omega
  clear hp
  have hstep : srtR (l.take (i + 1)) = mg (fun x y : R => decide (x.num < y.num)) (srtR (l.take i)) [x]:=by
   rw [List.take_add_one,hi,Option.toList_some]
   exact (mg_isort sw_R (l.take i) [x]).symm
  have hsrt : Srt (fun x y : R => decide (x.num < y.num)) (srtR (l.take i)):=srt_isort sw_R _
  generalize srtR (l.take i) = O at *
  simp only [lt_t hlt,List.length_map,h3,eES,seval]
  refine raws_in l O i x hi (by simp only [maxLen]; omega) hsrt fr _ (by exact h0) (by exact h3) (by exact h4) (by rfl) _ (fun t f ht hv hlow h0 h3 h4 h5 => ?_)
  have hfin : (O.take t).map R.av ++ ([x.av] ++ (O.drop t).map R.av) = (srtR (l.take (i + 1))).map R.av:=by
   have:=mg_right (lt:=fun x y : R => decide (x.num < y.num)) (y:=x) (X1:=O.take t) (X2:=O.drop t) (fun u hu => by
    obtain ⟨j,hj⟩:=List.getElem?_of_mem hu
    rw [List.getElem?_take] at hj
    split at hj
    ·rename_i hjt; exact hlow j u hjt hj
    ·cases hj) (fun u hu => by
    obtain ⟨j,hj⟩:=List.getElem?_of_mem hu
    rw [List.getElem?_drop] at hj
    exact hv _ u (by omega) hj)
   rw [List.take_append_drop] at this
   rw [hstep,this]
   simp
  have hle : (t ≤ O.length) = True:=eq_true ht
  have hdt : ∀ l' : List AV,l'.length = O.length → (l'.drop t).take (O.length - t) = l'.drop t:=fun l' h => List.take_of_length_le (by rw [List.length_drop]; omega)
  have hd1 : ((O.drop t).map R.av).length = i - t:=by rw [List.length_map,List.length_drop]; omega
  have hd2 : ((O.take t).map R.av).length = t:=by rw [List.length_map,List.length_take]; omega
  have hT : ∀ j,i + 1 ≤ j → List.take j ((O.take t).map R.av ++ ([x.av] ++ (O.drop t).map R.av)) = (srtR (l.take (i + 1))).map R.av:=fun j hj => by
   rw [List.take_of_length_le (by simp only [List.length_append,List.length_cons,List.length_nil,hd1,hd2]; omega),hfin]
  simp only [nneg,Int.toNat_natCast,aiaddr,hxa,h0,h4,eES,eEX,seval]
  refine aops_bslvA (l:=[.int .i64 x.num,.int .i64 x.wire,.int .u64 (x.bits : Nat),.str x.data]) rfl rfl (by decide) rfl rfl r37 ?_
  simp only [nn0,List.map_cons,List.map_nil,List.length_map,bnd,aslice,Option.getD_none,nneg,Int.toNat_natCast,hle,Nat.le_refl,or_true,all4,hdt _ (List.length_map ..),h3,h5,eES,seval]
  refine aops_app (site:=37) (g:=ngen (fr 37)) (n:=1) (xs:=[x.av]) (ys:=(O.drop t).map R.av) (by simp only [eES,seval]) (by simp only [R.av,eES,seval]) rfl rfl (by simp only [List.map_drop,eES,seval]) (all4 _) (by rw [hd1]; simp only [maxLen]; omega) (by rw [hd1]; omega) ?_
  simp only [eES,seval]
  refine aops_bsl0 (by simp only [eES,seval]; exact r42) ?_
  simp only [List.length_map,bnd,lenA,aslice,Option.getD_none,nneg,Int.toNat_natCast,Nat.zero_le,Nat.le_refl,hle,true_or,Nat.sub_zero,List.drop_zero,← List.map_take,h3,h5,eES,seval]
  refine aops_app (site:=42) (g:=_) (n:=0) (xs:=[]) (ys:=(O.take t).map R.av) (by simp only [eES,seval] <;> rfl) (by simp only [eES,seval]) rfl rfl (by simp only [eES,seval]) (all4 _) (by rw [hd2]; simp only [maxLen]; omega) (by rw [hd2]; omega) ?_
  simp only [eES,seval]
  refine aops_appR (site:=42) (g:=_) (n:=0 + ((O.take t).map R.av).length) (xs:=(O.take t).map R.av) (ys:=[x.av] ++ (O.drop t).map R.av) (by simp only [eES,seval] <;> rfl) (by simp only [eES,seval]) rfl (by omega) (by simp only [eES,seval] <;> rfl) (by simp only [eES,seval]) (by simp only [List.length_append,List.length_cons,List.length_nil,List.length_map] <;> omega) (all4 (x :: O.drop t)) (by simp only [List.length_append,List.length_cons,List.length_nil,hd1,hd2,maxLen]; omega) (by simp only [List.length_append,List.length_cons,List.length_nil,hd1,hd2]; omega) ?_
  simp only [eES,seval]
  refine awp_pub (site:=42) (g:=_) (sz:=4) (n:=_) (xs:=(O.take t).map R.av ++ ([x.av] ++ (O.drop t).map R.av)) (by simp only [eES,seval] <;> rfl) (by simp only [eES,seval]) (by simp only [List.length_append,List.length_cons,List.length_nil,hd1,hd2]; omega) ?_
  rw [hT]
  rotate_left
  ·simp only [hd1,hd2]; omega
  simp only [e1,h4,eES,seval]
  exact ⟨l.length - (i + 1),by omega,_,_,i + 1,rfl,rfl,by omega,(by exact h0),(by rfl),(by rfl),rfl,rfl⟩
 ·have hli : l.take i = l:=List.take_of_length_le (by omega)
  rw [hli] at h3
  simp only [lt_f hlt,h3,eES,seval]


theorem cmr_lt (k : Int) (a b : V) (_ha : a.bits < 18446744073709551616) (_hb : b.bits < 18446744073709551616) : decide (cmr k a.bits a.text b.bits b.text < 0) = kl k a b:=by
 unfold cmr kl
 split
 ·exact cS_lt _ _
 ·rw [cN_lt]
  unfold rkk
  split
  ·rw [decide_eq_decide,wu64,wu64,wi64,wi64]; omega
  ·rfl

section
variable {P : PL} {k : Int} (hk : keyk k) (ps : List (V × V)) (hn : ps.length ≤ 1048576) (h1 : ∀ p ∈ ps,p.1.one P k (-1) = 0) (hb : ∀ p ∈ ps,p.1.bits < 18446744073709551616)

include hk in
theorem cmp_keys {p q : V × V} (hp : p.1.one P k (-1) = 0) (hq : q.1.one P k (-1) = 0) : Fn1 Tryz.prog 55 [p.1.av,q.1.av] (.int .i64 (cmr k p.1.bits p.1.text q.1.bits q.1.text)):=by
 have h:=v55 k hk p.1.bits q.1.bits p.1.text q.1.text
 rw [← (kv_of hp).1,← (kv_of hq).1] at h
 exact h

theorem last_loop (hk : keyk k) (hn : ps.length ≤ 1048576) (h1 : ∀ p ∈ ps,p.1.one P k (-1) = 0) (hb : ∀ p ∈ ps,p.1.bits < 18446744073709551616) (hu : ps.Pairwise fun q p => keq q.1 p.1 = false) (O : List (V × V)) (i : Nat) (x : V × V) (hx : ps[i]? = some x) (fr : Nat → Ob) (f : Fr) (h0 : f 0 = .list (ps.map V.pav)) (h3 : f 3 = .list (O.map V.pav)) (h4 : f 4 = .int .i64 (i : Nat)) (h5 : f 5 = .bool true) (h6 : f 6 = .int .i64 ((i + 1 : Nat) : Int)) (Q : Exit → St → Prop)
  (q : ∀ f : Fr,f 0 = .list (ps.map V.pav) → f 3 = .list (O.map V.pav) → f 4 = .int .i64 (i : Nat) → f 5 = .bool true → Q (.exit 2) (⟨f,[fr],[]⟩ : St)) :
  awp Tryz.prog (.loop l57_0) ⟨f,[fr],[]⟩ Q:=by
 let I : Nat → St → Prop:=fun n st => ∃ f j,st = ⟨f,[fr],[]⟩ ∧ n = ps.length - j ∧ i < j ∧ f 0 = .list (ps.map V.pav) ∧ f 3 = .list (O.map V.pav) ∧ f 4 = .int .i64 (i : Nat) ∧ f 5 = .bool true ∧ f 6 = .int .i64 (j : Nat)
 refine awp_loop I _ ⟨f,i + 1,rfl,rfl,by omega,h0,h3,h4,h5,h6⟩ ?_
 clear h0 h3 h4 h5 h6
 rintro _ st ⟨f,j,rfl,rfl,hij,h0,h3,h4,h5,h6⟩
 simp only [List.length_map,h0,h6,eES,seval]
 by_cases hlt : j < ps.length
 ·obtain ⟨y,hj⟩ : ∃ y,ps[j]? = some y:=⟨ps[j],List.getElem?_eq_getElem hlt⟩
  have hgx:=getP hx
  have hgy:=getP hj
  have e1:=wi64_s j _ hlt (by simp only [maxLen]; omega)
  have hxm:=List.mem_of_getElem? hx
  have hym:=List.mem_of_getElem? hj
  have c1:=cmp_keys hk (h1 x hxm) (h1 y hym)
  have hne : cmr k x.1.bits x.1.text y.1.bits y.1.text ≠ 0:=by
   have h:=cmr_keq hk (h1 x hxm) (h1 y hym) (hb x hxm) (hb y hym)
   rw [List.pairwise_iff_getElem] at hu
   have:=hu i j (List.getElem?_eq_some_iff.1 hx).1 hlt hij
   rw [(List.getElem?_eq_some_iff.1 hx).2,(List.getElem?_eq_some_iff.1 hj).2] at this
   rw [this] at h
   simpa using h
  have d1 : (cmr k x.1.bits x.1.text y.1.bits y.1.text != 0) = true:=by simp [hne]
  rw [av7,av7] at c1
  simp only [lt_t hlt,nneg,Int.toNat_natCast,aiaddr,hgx,hgy,List.take_succ_cons,List.take_zero,List.drop_zero,h0,h4,h5,h6,eES,eEX,seval]
  refine aops_call c1 rfl rfl rfl (.inl rfl) ?_
  simp only [d1,h6,e1,eES,seval]
  exact ⟨ps.length - (j + 1),by omega,_,j + 1,rfl,rfl,by omega,(by exact h0),(by exact h3),(by exact h4),(by rfl),(by rfl)⟩
 ·simp only [lt_f hlt,eES,seval]
  exact q _ (by exact h0) (by exact h3) (by exact h4) (by exact h5)

theorem place_loop (hk : keyk k) (O : List (V × V)) (hO : O.length ≤ 1048576) (hO1 : ∀ p ∈ O,p.1.one P k (-1) = 0) (hOb : ∀ p ∈ O,p.1.bits < 18446744073709551616) (i : Nat) (x : V × V) (hx : ps[i]? = some x) (hx1 : x.1.one P k (-1) = 0) (hxb : x.1.bits < 18446744073709551616) (fr : Nat → Ob) (f : Fr) (h0 : f 0 = .list (ps.map V.pav)) (h3 : f 3 = .list (O.map V.pav)) (h4 : f 4 = .int .i64 (i : Nat)) (h7 : f 7 = .int .i64 0) (Q : Exit → St → Prop)
  (q : ∀ (t : Nat) (f : Fr),t ≤ O.length → (∀ j u,j < t → O[j]? = some u → kl k u.1 x.1 = true) → (∀ u,O[t]? = some u → kl k u.1 x.1 = false) → f 0 = .list (ps.map V.pav) → f 3 = .list (O.map V.pav) → f 4 = .int .i64 (i : Nat) → f 7 = .int .i64 (t : Nat) → Q (.exit 4) (⟨f,[fr],[]⟩ : St)) :
  awp Tryz.prog (.loop l57_1) ⟨f,[fr],[]⟩ Q:=by
 let I : Nat → St → Prop:=fun n st => ∃ f t,st = ⟨f,[fr],[]⟩ ∧ n = O.length - t ∧ t ≤ O.length ∧ (∀ j u,j < t → O[j]? = some u → kl k u.1 x.1 = true) ∧ f 0 = .list (ps.map V.pav) ∧ f 3 = .list (O.map V.pav) ∧ f 4 = .int .i64 (i : Nat) ∧ f 7 = .int .i64 (t : Nat)
 refine awp_loop I _ ⟨f,0,rfl,rfl,Nat.zero_le _,(by intro j u hj; omega),h0,h3,h4,h7⟩ ?_
 clear h0 h3 h4 h7
 rintro _ st ⟨f,t,rfl,rfl,ht,hv,h0,h3,h4,h7⟩
 simp only [List.length_map,h3,h7,eES,seval]
 by_cases hlt : t < O.length
 ·obtain ⟨u,hu⟩ : ∃ u,O[t]? = some u:=⟨O[t],List.getElem?_eq_getElem hlt⟩
  have hgx:=getP hx
  have hgu:=getP hu
  have hum:=List.mem_of_getElem? hu
  have e1:=wi64_s t _ hlt (by simp only [maxLen]; omega)
  have c1:=cmp_keys hk (hO1 u hum) hx1
  have hc:=cmr_lt k u.1 x.1 (hOb u hum) hxb
  rw [av7,av7] at c1
  simp only [lt_t hlt,nneg,Int.toNat_natCast,aiaddr,hgx,hgu,List.take_succ_cons,List.take_zero,List.drop_zero,h0,h3,h4,h7,eES,eEX,seval]
  refine aops_call c1 rfl rfl rfl (.inl rfl) ?_
  cases hl : kl k u.1 x.1
  ·rw [hl] at hc
   simp only [hc,eES,seval]
   exact q t _ (by omega) hv (fun u' hu' => by rw [hu] at hu'; cases hu'; exact hl) (by exact h0) (by exact h3) (by exact h4) (by exact h7)
  ·rw [hl] at hc
   simp only [hc,h7,e1,eES,seval]
   exact ⟨O.length - (t + 1),by omega,_,t + 1,rfl,rfl,by omega,(by
    intro j u' hj hu'
    rcases Nat.lt_or_eq_of_le (show j ≤ t by omega) with h | h
    ·exact hv j u' h hu'
    ·subst h; rw [hu] at hu'; cases hu'; exact hl),(by exact h0),(by exact h3),(by exact h4),(by rfl)⟩
 ·simp only [lt_f hlt,eES,seval]
  exact q t _ ht hv (fun u hu => by rw [List.getElem?_eq_none (by omega)] at hu; cases hu) (by exact h0) (by exact h3) (by exact h4) (by exact h7)

end

theorem kl_tot {k : Int} {P : PL} {a b : V} (ha : a.one P k (-1) = 0) (hb : b.one P k (-1) = 0) (ba : a.bits < 18446744073709551616) (bb : b.bits < 18446744073709551616) (h1 : kl k a b = false) (h2 : keq a b = false) : kl k b a = true:=by
 obtain ⟨_,a1,a2⟩:=kv_of ha
 obtain ⟨_,b1,b2⟩:=kv_of hb
 cases hc : kl k b a with
 | true => rfl
 | false =>
  exfalso
  unfold kl at h1 hc
  unfold keq at h2
  split at h1
  ·rename_i ht
   rw [if_pos ht] at hc
   have e:=bless_tot h1 hc
   have e1:=a1 ht
   have e2:=b1 ht
   rw [e,show a.bits = b.bits by omega] at h2
   simp at h2
  ·rename_i ht
   rw [if_neg ht] at hc
   have ht : txk k = false:=by simpa using ht
   rw [a2 ht,b2 ht] at h2
   split at h1
   ·rename_i hs
    rw [if_pos hs] at hc
    simp only [decide_eq_false_iff_not] at h1 hc
    rw [wi64,wi64] at h1 hc
    rw [show a.bits = b.bits by omega] at h2
    simp at h2
   ·rename_i hs
    rw [if_neg hs] at hc
    simp only [decide_eq_false_iff_not] at h1 hc
    rw [show a.bits = b.bits by omega] at h2
    simp at h2

def PwI (k : Int) (ps : List (V × V)) (n : Nat) (st : St) : Prop :=
 ∃ f fr i,st = ⟨f,[fr],[]⟩ ∧ n = ps.length - i ∧ i ≤ ps.length ∧ f 0 = .list (ps.map V.pav) ∧ f 3 = .list ((srtP k (ps.take i)).map V.pav) ∧ f 4 = .int .i64 (i : Nat) ∧ rowOrNone (fr 63) = true ∧ rowOrNone (fr 68) = true

set_option maxHeartbeats 1000000 in
theorem v57 {P : PL} {k : Int} (hk : keyk k) (ps : List (V × V)) (hn : ps.length ≤ 1048576) (h1 : ∀ p ∈ ps,p.1.one P k (-1) = 0) (hb : ∀ p ∈ ps,p.1.bits < 18446744073709551616) (hu : ps.Pairwise fun q p => keq q.1 p.1 = false) : Fn1 Tryz.prog 57 [.list (ps.map V.pav)] (.list ((srtP k ps).map V.pav)):=by
 refine k57.fn (by simp) ?_
 simp only [eES,seval]
 refine awp_lst0 (by simp only [eES,seval]) ?_
 simp only [eES,seval]
 refine awp_loop (PwI k ps) _ ⟨_,_,0,rfl,rfl,Nat.zero_le _,(by rfl),rfl,(by rfl),rfl,rfl⟩ ?_
 rintro _ st ⟨f,fr,i,rfl,rfl,hil,h0,h3,h4,r63,r68⟩
 simp only [List.length_map,h0,h4,eES,seval]
 by_cases hlt : i < ps.length
 ·obtain ⟨x,hi⟩ : ∃ x,ps[i]? = some x:=⟨ps[i],List.getElem?_eq_getElem hlt⟩
  have hxm:=List.mem_of_getElem? hi
  have hxa:=getP hi
  have e1:=wi64_s i _ hlt (by simp only [maxLen]; omega)
  have hperm : (srtP k (ps.take i)).Perm (ps.take i):=isort_perm _
  have hO : (srtP k (ps.take i)).length = i:=by rw [hperm.length_eq,List.length_take]; omega
  have hstep : srtP k (ps.take (i + 1)) = mg (fun x y : V × V => kl k x.1 y.1) (srtP k (ps.take i)) [x]:=by
   rw [List.take_add_one,hi,Option.toList_some]
   exact (mg_isort (sw_kl k) (ps.take i) [x]).symm
  have hsrt : Srt (fun x y : V × V => kl k x.1 y.1) (srtP k (ps.take i)):=srt_isort (sw_kl k) _
  have hOm : ∀ p ∈ srtP k (ps.take i),p ∈ ps:=fun p hp => List.mem_of_mem_take (hperm.mem_iff.1 hp)
  have hOk : ∀ p ∈ srtP k (ps.take i),keq p.1 x.1 = false:=by
   intro p hp
   obtain ⟨j,hj⟩:=List.mem_iff_getElem?.1 (hperm.mem_iff.1 hp)
   have hjl:=(List.getElem?_eq_some_iff.1 hj).1
   rw [List.length_take] at hjl
   rw [List.getElem?_take,if_pos (by omega)] at hj
   rw [List.pairwise_iff_getElem] at hu
   have:=hu j i (by omega) hlt (by omega)
   rw [(List.getElem?_eq_some_iff.1 hj).2,(List.getElem?_eq_some_iff.1 hi).2] at this
   exact this
  generalize srtP k (ps.take i) = O at *
  simp only [lt_t hlt,e1,h4,eES,seval]
  refine last_loop ps hk hn h1 hb hu O i x hi fr _ (by exact h0) (by exact h3) (by exact h4) (by rfl) (by rfl) _ (fun f h0 h3 h4 h5 => ?_)
  simp only [h5,eES,seval]
  refine place_loop (P:=P) ps hk O (by omega) (fun p hp => h1 p (hOm p hp)) (fun p hp => hb p (hOm p hp)) i x hi (h1 x hxm) (hb x hxm) fr _ (by exact h0) (by exact h3) (by exact h4) (by rfl) _ (fun t f ht hlow hup h0 h3 h4 h7 => ?_)
  have hfin : (O.take t).map V.pav ++ ([V.pav x] ++ (O.drop t).map V.pav) = (srtP k (ps.take (i + 1))).map V.pav:=by
   have:=mg_right (lt:=fun x y : V × V => kl k x.1 y.1) (y:=x) (X1:=O.take t) (X2:=O.drop t) (fun u hu => by
    obtain ⟨j,hj⟩:=List.getElem?_of_mem hu
    rw [List.getElem?_take] at hj
    split at hj
    ·rename_i hjt; exact (sw_kl k).as (hlow j u hjt hj)
    ·cases hj) (fun u hu' => by
    obtain ⟨j,hj⟩:=List.getElem?_of_mem hu'
    rw [List.getElem?_drop] at hj
    have hum:=List.mem_of_getElem? hj
    refine kl_tot (h1 u (hOm u hum)) (h1 x hxm) (hb u (hOm u hum)) (hb x hxm) ?_ (hOk u hum)
    obtain ⟨w,hw⟩ : ∃ w,O[t]? = some w:=⟨O[t]'(by have:=(List.getElem?_eq_some_iff.1 hj).1; omega),List.getElem?_eq_getElem _⟩
    have h2:=srt_le hsrt (sw_kl k) (Nat.le_add_right t j) hw hj
    exact (sw_kl k).nt u w x h2 (hup w hw))
   rw [List.take_append_drop] at this
   rw [hstep,this]
   simp
  have hle : (t ≤ O.length) = True:=eq_true ht
  have hdt : ∀ l' : List AV,l'.length = O.length → (l'.drop t).take (O.length - t) = l'.drop t:=fun l' h => List.take_of_length_le (by rw [List.length_drop]; omega)
  have hd1 : ((O.drop t).map V.pav).length = i - t:=by rw [List.length_map,List.length_drop]; omega
  have hd2 : ((O.take t).map V.pav).length = t:=by rw [List.length_map,List.length_take]; omega
  have hT : ∀ j,i + 1 ≤ j → List.take j ((O.take t).map V.pav ++ ([V.pav x] ++ (O.drop t).map V.pav)) = (srtP k (ps.take (i + 1))).map V.pav:=fun j hj => by
   rw [List.take_of_length_le (by simp only [List.length_append,List.length_cons,List.length_nil,hd1,hd2]; omega),hfin]
  simp only [nneg,Int.toNat_natCast,aiaddr,hxa,List.take_succ_cons,List.drop_zero,h0,h4,eES,eEX,seval]
  refine aops_bslvA (l:=[.int .i64 x.1.kd,.int .u64 (x.1.bits : Nat),.str x.1.text,.list (x.1.list.map V.av),.list (x.1.pairs.map V.pav),.list (x.1.slots.map V.sav),.list (x.1.raws.map R.av),.int .i64 x.2.kd,.int .u64 (x.2.bits : Nat),.str x.2.text,.list (x.2.list.map V.av),.list (x.2.pairs.map V.pav),.list (x.2.slots.map V.sav),.list (x.2.raws.map R.av)]) rfl rfl (by decide) rfl rfl r63 ?_
  simp only [nn0,List.map_cons,List.map_nil,List.length_map,bnd,aslice,Option.getD_none,nneg,Int.toNat_natCast,hle,Nat.le_refl,or_true,all14,hdt _ (List.length_map ..),h3,h7,eES,seval]
  refine aops_app (site:=63) (g:=ngen (fr 63)) (n:=1) (xs:=[V.pav x]) (ys:=(O.drop t).map V.pav) (by simp only [eES,seval]) (by simp only [pav14,eES,seval]) rfl rfl (by simp only [List.map_drop,eES,seval]) (all14 _) (by rw [hd1]; simp only [maxLen]; omega) (by rw [hd1]; omega) ?_
  simp only [eES,seval]
  refine aops_bsl0 (by simp only [eES,seval]; exact r68) ?_
  simp only [List.length_map,bnd,lenA,aslice,Option.getD_none,nneg,Int.toNat_natCast,Nat.zero_le,Nat.le_refl,hle,true_or,Nat.sub_zero,List.drop_zero,← List.map_take,h3,h7,eES,seval]
  refine aops_app (site:=68) (g:=_) (n:=0) (xs:=[]) (ys:=(O.take t).map V.pav) (by simp only [eES,seval] <;> rfl) (by simp only [eES,seval]) rfl rfl (by simp only [eES,seval]) (all14 _) (by rw [hd2]; simp only [maxLen]; omega) (by rw [hd2]; omega) ?_
  simp only [eES,seval]
  refine aops_appR (site:=68) (g:=_) (n:=0 + ((O.take t).map V.pav).length) (xs:=(O.take t).map V.pav) (ys:=[V.pav x] ++ (O.drop t).map V.pav) (by simp only [eES,seval] <;> rfl) (by simp only [eES,seval]) rfl (by omega) (by simp only [eES,seval] <;> rfl) (by simp only [eES,seval]) (by simp only [List.length_append,List.length_cons,List.length_nil,List.length_map] <;> omega) (all14 (x :: O.drop t)) (by simp only [List.length_append,List.length_cons,List.length_nil,hd1,hd2,maxLen]; omega) (by simp only [List.length_append,List.length_cons,List.length_nil,hd1,hd2]; omega) ?_
  simp only [eES,seval]
  refine awp_pub (site:=68) (g:=_) (sz:=14) (n:=_) (xs:=(O.take t).map V.pav ++ ([V.pav x] ++ (O.drop t).map V.pav)) (by simp only [eES,seval] <;> rfl) (by simp only [eES,seval]) (by simp only [List.length_append,List.length_cons,List.length_nil,hd1,hd2]; omega) ?_
  rw [hT]
  rotate_left
  ·simp only [hd1,hd2]; omega
  simp only [e1,h4,eES,seval]
  exact ⟨ps.length - (i + 1),by omega,_,_,i + 1,rfl,rfl,by omega,(by exact h0),(by rfl),(by rfl),rfl,rfl⟩
 ·have hli : ps.take i = ps:=List.take_of_length_le (by omega)
  rw [hli] at h3
  simp only [lt_f hlt,h3,eES,seval]


section
variable {M : Nat} {P : PL} {m : PG → V → Int} {nm : PG → V → V} (o : PO) (ho : UO P o)

include ho in
theorem v56 (hm : ∀ (t : Int) (g : PG),P.progs[t.toNat]? = some g → 0 ≤ t → ∀ v : V,v.ok M → v.cnt ≤ 1048576 → m g v = 0 → Fn1 Tryz.prog 9 [P.av,.int .i64 t,v.av] (nm g v).av) (v : V) (hv : v.ok M) (hc : v.cnt ≤ 1048576) (he : elemF m P o v = 0) :
  Fn1 Tryz.prog 56 [P.av,oav o,v.av] (nel nm P o v).av:=by
 have e0 : P.av = .agg [.list (P.progs.map gav),.list (P.enums.map eav)]:=rfl
 unfold nel
 by_cases hk : o.kind = 10
 ·have b : (o.kind == 10) = true:=by simp [hk]
  unfold elemF at he
  rw [if_pos hk] at he
  rw [if_pos hk]
  obtain ⟨t0,t1⟩:=ho.tgt hk
  obtain ⟨g,hg⟩ : ∃ g,P.progs[o.target.toNat]? = some g:=⟨P.progs[o.target.toNat]'(by omega),List.getElem?_eq_getElem (by omega)⟩
  have hq : gat P o.target = g:=by unfold gat; rw [hg]; rfl
  rw [hq] at he ⊢
  have h2:=hm o.target g hg t0 v hv hc he
  generalize nm g v = z at h2 ⊢
  rw [e0,av7,av7] at h2
  rw [av7,av7]
  refine k56.fn (by simp) ?_
  simp only [e0,oav,PO.cells,b,eES,eEX,seval]
  refine aops_call h2 rfl rfl rfl (.inl rfl) ?_
  simp only [splice,List.take_succ_cons,List.take_zero,List.drop_succ_cons,List.drop_zero,List.drop_nil,List.append_nil,List.nil_append,List.length_cons,List.length_nil,List.all_cons,List.all_nil,AV.leaf,eES,eEX,seval]
 ·have b : (o.kind == 10) = false:=by simp [hk]
  rw [if_neg hk]
  have h1:=v58 v (bits_lt hv)
  generalize v.nsc = z at h1 ⊢
  rw [av7,av7] at h1
  rw [av7,av7]
  refine k56.fn (by simp) ?_
  simp only [e0,oav,PO.cells,b,eES,eEX,seval]
  refine aops_call h1 rfl rfl rfl (.inl rfl) ?_
  simp only [splice,List.take_succ_cons,List.take_zero,List.drop_succ_cons,List.drop_zero,List.drop_nil,List.append_nil,List.nil_append,List.length_cons,List.length_nil,List.all_cons,List.all_nil,AV.leaf,eES,eEX,seval]

def WlI (P : PL) (o : PO) (v : V) (F : V → V) (k : Nat) (st : St) : Prop :=
 ∃ f fr i g,st = ⟨f,[fr],[]⟩ ∧ k = v.list.length - i ∧ i ≤ v.list.length ∧ f 3 = .ptr 0 3 0 ∧ f 4 = .ptr 0 4 0 ∧ f 5 = .ptr 0 5 0 ∧ f 6 = .ptr 0 6 0 ∧ f 7 = .ptr 0 7 0 ∧ f 8 = .int .i64 (i : Nat) ∧ fr 3 = .cells [.list (P.progs.map gav),.list (P.enums.map eav)] ∧ fr 4 = .cells o.cells ∧ fr 5 = .cells [.int .i64 v.kd,.int .u64 (v.bits : Nat),.str v.text,.list (v.list.map V.av),.list (v.pairs.map V.pav),.list (v.slots.map V.sav),.list (v.raws.map R.av)] ∧ fr 6 = .cells [.int .i64 0,.int .u64 0,.str [],.nils,.nils,.nils,.nils] ∧ fr 7 = .cells [.int .i64 11,.int .u64 0,.str [],.vec 0 1100 g 0 i false,.nils,.nils,.nils] ∧ fr 1100 = .vec g 7 ((v.list.take i).map fun x => (F x).av)

def WpI (P : PL) (o : PO) (T : List (V × V)) (F : V × V → V × V) (k : Nat) (st : St) : Prop :=
 ∃ f fr i g,st = ⟨f,[fr],[]⟩ ∧ k = T.length - i ∧ i ≤ T.length ∧ f 3 = .ptr 0 3 0 ∧ f 4 = .ptr 0 4 0 ∧ f 6 = .ptr 0 6 0 ∧ f 9 = .ptr 0 9 0 ∧ f 10 = .list (T.map V.pav) ∧ f 11 = .int .i64 (i : Nat) ∧ fr 3 = .cells [.list (P.progs.map gav),.list (P.enums.map eav)] ∧ fr 4 = .cells o.cells ∧ fr 6 = .cells [.int .i64 0,.int .u64 0,.str [],.nils,.nils,.nils,.nils] ∧ fr 9 = .cells [.int .i64 12,.int .u64 0,.str [],.nils,.vec 0 1101 g 0 i false,.nils,.nils] ∧ fr 1101 = .vec g 14 ((T.take i).map fun x => V.pav (F x))

set_option maxHeartbeats 1000000 in
include ho in
theorem v25 (hel : ∀ v : V,v.ok M → v.cnt ≤ 1048576 → elemF m P o v = 0 → Fn1 Tryz.prog 56 [P.av,oav o,v.av] (nel nm P o v).av) (v : V) (hv : v.ok M) (hc : v.cnt ≤ 1048576) (he : fieldF m P o v = 0) :
  Fn1 Tryz.prog 25 [P.av,oav o,v.av] (nfl nm P o v).av:=by
 have e0 : P.av = .agg [.list (P.progs.map gav),.list (P.enums.map eav)]:=rfl
 unfold nfl
 unfold fieldF at he
 by_cases h4 : o.card = 4
 ·have b4 : (o.card == 4) = true:=by simp [h4]
  rw [if_neg (by omega),if_pos h4] at he
  rw [if_pos h4]
  split at he
  ·omega
  have hL:=lok_iff.1 he
  have hlen:=len_list v
  rw [av7 v]
  generalize hF : nel nm P o = F at hel ⊢
  rw [show (V.mk 11 0 [] (v.list.map F) [] [] []).av = .agg [.int .i64 11,.int .u64 0,.str [],.list ((v.list.map F).map V.av),.list [],.list [],.list []] from av7 _]
  refine k25.fn (by simp) ?_
  simp only [e0,oav,PO.cells,b4,splice,List.take_zero,List.drop_succ_cons,List.drop_zero,List.drop_nil,List.append_nil,List.cons_append,List.nil_append,List.length_cons,List.length_nil,List.all_cons,List.all_nil,AV.leaf,eES,eEX,seval]
  refine awp_vecc (by simp only [eES,seval] <;> rfl) rfl (by simp only [eES,seval] <;> rfl) rfl ?_
  simp only [List.set,eES,seval]
  refine awp_loop (WlI P o v F) _ ⟨_,_,0,_,rfl,rfl,Nat.zero_le _,(by rfl),(by rfl),(by rfl),(by rfl),(by rfl),(by rfl),(by rfl),(by rfl),(by rfl),(by rfl),(by rfl),(by rfl)⟩ ?_
  rintro _ st ⟨f,fr,i,g,rfl,rfl,hil,h3,h4,h5,h6,h7,h8,m3,m4,m5,m6,m7,mR⟩
  have m4':=m4
  simp only [PO.cells] at m4
  simp only [List.length_map,h5,h8,m5,eES,eEX,seval]
  by_cases hlt : i < v.list.length
  ·obtain ⟨x,hi⟩ : ∃ x,v.list[i]? = some x:=⟨v.list[i],List.getElem?_eq_getElem hlt⟩
   have hx:=List.mem_of_getElem? hi
   have hg:=getV hi
   have e1:=wi64_s i _ hlt (by simp only [maxLen]; omega)
   have c1:=hel x (hv.list x hx) (Nat.le_trans (cnt_list hx) hc) (hL x hx)
   have hti : ((v.list.take i).map fun x => (F x).av).length = i:=by rw [List.length_map,List.length_take]; omega
   have hts : (v.list.take (i + 1)).map (fun x => (F x).av) = (v.list.take i).map (fun x => (F x).av) ++ [(F x).av]:=by rw [List.take_add_one,hi]; simp
   generalize F x = z at c1 hts
   rw [e0,av7 x,av7 z] at c1
   simp only [oav,PO.cells] at c1
   simp only [lt_t hlt,nneg,Int.toNat_natCast,aiaddr,hg,List.take_succ_cons,List.drop_zero,List.length_cons,List.length_nil,h3,h4,h5,h7,h8,m3,m4,m5,m7,eES,eEX,seval]
   refine aops_call c1 rfl rfl rfl (.inl rfl) ?_
   refine aops_bslB (l:=[z.av]) rfl rfl rfl (by rw [av7]; rfl) ?_
   refine aops_app (site:=1100) (g:=g) (n:=i) (xs:=(v.list.take i).map fun x => (F x).av) (ys:=[z.av]) (by rfl) (by exact mR) rfl hti.symm rfl (all7 [z]) (by simp only [List.length_cons,List.length_nil,maxLen]; omega) (by simp only [List.length_cons,List.length_nil]; omega) ?_
   simp only [splice,List.take_succ_cons,List.take_zero,List.drop_succ_cons,List.drop_zero,List.cons_append,List.nil_append,List.length_cons,List.length_nil,h7,h8,m7,e1,eES,eEX,seval]
   exact ⟨v.list.length - (i + 1),by omega,_,_,i + 1,g + 1,rfl,rfl,by omega,(by exact h3),(by exact h4),(by exact h5),(by exact h6),(by exact h7),(by rfl),(by exact m3),(by exact m4'),(by exact m5),(by exact m6),(by rfl),(by rw [hts]; exact (by rfl))⟩
  ·have e : i = v.list.length:=by omega
   subst e
   rw [List.take_length,mapAv] at mR
   simp only [lt_f hlt,splice,List.take_succ_cons,List.take_zero,List.drop_succ_cons,List.drop_zero,List.drop_nil,List.append_nil,List.nil_append,List.length_cons,List.length_nil,List.all_cons,List.all_nil,AV.leaf,h6,h7,m6,m7,eES,eEX,seval]
   simp [AV.un,AV.unL,isV,vget,mR,List.take_of_length_le]
 ·have b4 : (o.card == 4) = false:=by simp [h4]
  rw [if_neg h4]
  by_cases h5 : o.card = 5
  ·have b5 : (o.card == 5) = true:=by simp [h5]
   rw [if_pos h5] at he
   rw [if_pos h5]
   split at he
   ·omega
   have hE:=eok_iff.1 he
   have hlen:=len_pairs v
   have hk:=ho.key h5
   have cp:=v57 hk v.pairs (by omega) (fun p hp => (hE.1 p hp).1) (fun p hp => bits_lt (hv.keys p hp)) hE.2
   have hperm : (srtP o.key v.pairs).Perm v.pairs:=isort_perm _
   have hTl : (srtP o.key v.pairs).length = v.pairs.length:=hperm.length_eq
   have hTm : ∀ p ∈ srtP o.key v.pairs,p ∈ v.pairs:=fun p h => hperm.mem_iff.1 h
   generalize srtP o.key v.pairs = T at *
   rw [av7 v]
   generalize hF : (fun p : V × V => (p.1.nsc,nel nm P o p.2)) = F
   rw [show (V.mk 12 0 [] [] (T.map F) [] []).av = .agg [.int .i64 12,.int .u64 0,.str [],.list [],.list ((T.map F).map V.pav),.list [],.list []] from av7 _]
   refine k25.fn (by simp) ?_
   simp only [e0,oav,PO.cells,b4,b5,splice,List.take_zero,List.drop_succ_cons,List.drop_zero,List.drop_nil,List.append_nil,List.cons_append,List.nil_append,List.length_cons,List.length_nil,List.all_cons,List.all_nil,AV.leaf,eES,eEX,seval]
   refine awp_vecc (by simp only [eES,seval] <;> rfl) rfl (by simp only [eES,seval] <;> rfl) rfl ?_
   simp only [List.set,eES,eEX,seval]
   refine aops_call cp rfl rfl rfl (.inl rfl) ?_
   simp only [eES,seval]
   refine awp_loop (WpI P o T F) _ ⟨_,_,0,_,rfl,rfl,Nat.zero_le _,(by rfl),(by rfl),(by rfl),(by rfl),(by rfl),(by rfl),(by rfl),(by rfl),(by rfl),(by rfl),(by rfl)⟩ ?_
   rintro _ st ⟨f,fr,i,g,rfl,rfl,hil,h3,h4,h6,h9,h10,h11,m3,m4,m6,m9,mR⟩
   have m4':=m4
   simp only [PO.cells] at m4
   simp only [List.length_map,h10,h11,eES,seval]
   by_cases hlt : i < T.length
   ·obtain ⟨x,hi⟩ : ∃ x,T[i]? = some x:=⟨T[i],List.getElem?_eq_getElem hlt⟩
    have hx:=hTm x (List.mem_of_getElem? hi)
    have hg:=getP hi
    have e1:=wi64_s i _ hlt (by simp only [maxLen]; omega)
    have c0:=v58 x.1 (bits_lt (hv.keys x hx))
    have c1:=hel x.2 (hv.vals x hx) (Nat.le_trans (cnt_val hx) hc) (hE.1 x hx).2
    have hti : ((T.take i).map fun x => V.pav (F x)).length = i:=by rw [List.length_map,List.length_take]; omega
    have hFx : F x = (x.1.nsc,nel nm P o x.2):=by rw [← hF]
    have hts : (T.take (i + 1)).map (fun x => V.pav (F x)) = (T.take i).map (fun x => V.pav (F x)) ++ [V.pav (x.1.nsc,nel nm P o x.2)]:=by rw [List.take_add_one,hi,← hFx]; simp
    generalize x.1.nsc = y at c0 hts
    generalize nel nm P o x.2 = z at c1 hts
    rw [av7,av7 y] at c0
    rw [e0,av7,av7 z] at c1
    simp only [oav,PO.cells] at c1
    simp only [lt_t hlt,nneg,Int.toNat_natCast,aiaddr,hg,List.take_succ_cons,List.take_zero,List.drop_zero,List.length_cons,List.length_nil,h9,h10,h11,m9,eES,eEX,seval]
    refine aops_call c0 rfl rfl rfl (.inl rfl) ?_
    simp only [nneg,Int.toNat_natCast,aiaddr,hg,List.take_succ_cons,List.drop_succ_cons,List.drop_zero,h3,h4,h10,h11,m3,m4,eES,eEX,seval]
    refine aops_call c1 rfl rfl rfl (.inl rfl) ?_
    simp only [splice,List.take_succ_cons,List.take_zero,List.drop_succ_cons,List.drop_zero,List.drop_nil,List.append_nil,List.cons_append,List.nil_append,List.length_cons,List.length_nil,List.all_cons,List.all_nil,AV.leaf,eES,eEX,seval]
    refine aops_bslB (l:=[V.pav (y,z)]) rfl rfl rfl (by rw [pav14]; rfl) ?_
    refine aops_app (site:=1101) (g:=g) (n:=i) (xs:=(T.take i).map fun x => V.pav (F x)) (ys:=[V.pav (y,z)]) (by rfl) (by exact mR) rfl hti.symm rfl (all14 [(y,z)]) (by simp only [List.length_cons,List.length_nil,maxLen]; omega) (by simp only [List.length_cons,List.length_nil]; omega) ?_
    simp only [splice,List.take_succ_cons,List.take_zero,List.drop_succ_cons,List.drop_zero,List.cons_append,List.nil_append,List.length_cons,List.length_nil,h9,h11,m9,e1,eES,eEX,seval]
    exact ⟨T.length - (i + 1),by omega,_,_,i + 1,g + 1,rfl,rfl,by omega,(by exact h3),(by exact h4),(by exact h6),(by exact h9),(by exact h10),(by rfl),(by exact m3),(by exact m4'),(by exact m6),(by rfl),(by rw [hts]; exact (by rfl))⟩
   ·have e : i = T.length:=by omega
    subst e
    rw [List.take_length,mapPav] at mR
    simp only [lt_f hlt,splice,List.take_succ_cons,List.take_zero,List.drop_succ_cons,List.drop_zero,List.drop_nil,List.append_nil,List.nil_append,List.length_cons,List.length_nil,List.all_cons,List.all_nil,AV.leaf,h6,h9,m6,m9,eES,eEX,seval]
    simp [AV.un,AV.unL,isV,vget,mR,List.take_of_length_le]
  ·have b5 : (o.card == 5) = false:=by simp [h5]
   rw [if_neg h5,if_neg h4] at he
   rw [if_neg h5]
   have c1:=hel v hv hc he
   generalize nel nm P o v = z at c1 ⊢
   rw [e0,av7 v,av7 z] at c1
   simp only [oav,PO.cells] at c1
   rw [av7 v,av7 z]
   refine k25.fn (by simp) ?_
   simp only [e0,oav,PO.cells,b4,b5,eES,eEX,seval]
   refine aops_call c1 rfl rfl rfl (.inl rfl) ?_
   simp only [splice,List.take_succ_cons,List.take_zero,List.drop_succ_cons,List.drop_zero,List.drop_nil,List.append_nil,List.nil_append,List.length_cons,List.length_nil,List.all_cons,List.all_nil,AV.leaf,eES,eEX,seval]

end

theorem noRow2 {fr : Nat → Ob} {a b : Nat} (h1 : (fr a).isRow = false) (h2 : (fr b).isRow = false) : ∀ s ∈ [a,b],(fr s).isRow = false:=by
 intro s hs
 simp only [List.mem_cons,List.not_mem_nil,or_false] at hs
 rcases hs with rfl | rfl
 ·exact h1
 ·exact h2
theorem noRow1 {fr : Nat → Ob} {a : Nat} (h1 : (fr a).isRow = false) : ∀ s ∈ [a],(fr s).isRow = false:=by
 intro s hs
 simp only [List.mem_cons,List.not_mem_nil,or_false] at hs
 subst hs
 exact h1

theorem isr {x : Ob} (h : x = .none) : x.isRow = false:=by rw [h]; rfl

def keepI (nm : PG → V → V) (P : PL) (o : PO) (s : Int × V) : List (Int × V):=if (s.1 == o.num) = true then keepO nm P o s else []
theorem keepI_len (nm : PG → V → V) (P : PL) (o : PO) : ∀ l : List (Int × V),(l.flatMap (keepI nm P o)).length ≤ l.length
 | [] => Nat.le_refl _
 | s :: l => by
  have h1 : (keepI nm P o s).length ≤ 1:=by
   unfold keepI
   split
   ·unfold keepO
    split <;> simp
   ·simp
  have:=keepI_len nm P o l
  rw [List.flatMap_cons,List.length_append,List.length_cons]
  omega

def vcs (v : V) : List AV:=[.int .i64 v.kd,.int .u64 (v.bits : Nat),.str v.text,.list (v.list.map V.av),.list (v.pairs.map V.pav),.list (v.slots.map V.sav),.list (v.raws.map R.av)]

theorem nr_inner {P : PL} {v : V} {o : PO} {n : Nat} {ti i : Nat} (K : List (Int × V)) (hK : K.length ≤ 64) (hS : v.slots.length ≤ 1048576) (rw' : List R)
  (hw : ∀ x ∈ v.slots,x.1 = o.num → Fn1 Tryz.prog 25 [P.av,oav o,x.2.av] (nfl (nrm P n) P o x.2).av)
  (fr : Nat → Ob) (f : Fr) (gs : Nat) (h1 : f 1 = .int .i64 (ti : Nat)) (h3 : f 3 = .ptr 0 3 0) (h5 : f 5 = .ptr 0 5 0) (h6 : f 6 = .ptr 0 6 0) (h7 : f 7 = .ptr 0 7 0) (h8 : f 8 = .int .i64 (i : Nat)) (h9 : f 9 = .ptr 0 9 0) (h10 : f 10 = .int .i64 0) (m3 : fr 3 = .cells [.list (P.progs.map gav),.list (P.enums.map eav)]) (m5 : fr 5 = .cells (vcs v)) (m6 : fr 6 = .cells [.int .i64 0,.int .u64 0,.str [],.nils,.nils,.nils,.nils]) (m7 : fr 7 = .cells [.int .i64 10,.int .u64 0,.str [],.nils,.nils,.vec 0 1100 gs 0 K.length false,.list (rw'.map R.av)]) (m9 : fr 9 = .cells o.cells) (mS : fr 1100 = .vec gs 8 (K.map V.sav)) (r11 : ∀ s ∈ [11],(fr s).isRow = false)
  (Q : Exit → St → Prop)
  (q : ∀ (f : Fr) (fr : Nat → Ob) (gs : Nat),f 1 = .int .i64 (ti : Nat) → f 3 = .ptr 0 3 0 → f 5 = .ptr 0 5 0 → f 6 = .ptr 0 6 0 → f 7 = .ptr 0 7 0 → f 8 = .int .i64 (i : Nat) → fr 3 = .cells [.list (P.progs.map gav),.list (P.enums.map eav)] → fr 5 = .cells (vcs v) → fr 6 = .cells [.int .i64 0,.int .u64 0,.str [],.nils,.nils,.nils,.nils] → fr 7 = .cells [.int .i64 10,.int .u64 0,.str [],.nils,.nils,.vec 0 1100 gs 0 (K ++ v.slots.flatMap (keepI (nrm P n) P o)).length false,.list (rw'.map R.av)] → fr 1100 = .vec gs 8 ((K ++ v.slots.flatMap (keepI (nrm P n) P o)).map V.sav) → (fr 9).isRow = false → (fr 11).isRow = false → Q (.exit 2) (⟨f,[fr],[]⟩ : St)) :
  awp Tryz.prog (.loop l9_0) ⟨f,[fr],[]⟩ Q:=by
 have e0 : P.av = .agg [.list (P.progs.map gav),.list (P.enums.map eav)]:=rfl
 let L : Nat → List (Int × V):=fun k => K ++ (v.slots.take k).flatMap (keepI (nrm P n) P o)
 have hL0 : L 0 = K:=by simp [L]
 have hLn : L v.slots.length = K ++ v.slots.flatMap (keepI (nrm P n) P o):=by simp [L]
 have hLl : ∀ k,k ≤ v.slots.length → (L k).length ≤ 64 + k:=by
  intro k hk
  have:=keepI_len (nrm P n) P o (v.slots.take k)
  rw [List.length_take] at this
  simp only [L,List.length_append]
  omega
 have hLs : ∀ k x,v.slots[k]? = some x → L (k + 1) = L k ++ keepI (nrm P n) P o x:=by
  intro k x hx
  simp only [L]
  rw [List.take_add_one,hx,List.flatMap_append,List.append_assoc]
  simp
 rw [← hLn] at q
 rw [← hL0] at m7 mS
 clear_value L
 clear hL0 hLn hK
 let I : Nat → St → Prop:=fun d st => ∃ f fr k gs,st = ⟨f,[fr],[]⟩ ∧ d = v.slots.length - k ∧ k ≤ v.slots.length ∧ f 1 = .int .i64 (ti : Nat) ∧ f 3 = .ptr 0 3 0 ∧ f 5 = .ptr 0 5 0 ∧ f 6 = .ptr 0 6 0 ∧ f 7 = .ptr 0 7 0 ∧ f 8 = .int .i64 (i : Nat) ∧ f 9 = .ptr 0 9 0 ∧ f 10 = .int .i64 (k : Nat) ∧ fr 3 = .cells [.list (P.progs.map gav),.list (P.enums.map eav)] ∧ fr 5 = .cells (vcs v) ∧ fr 6 = .cells [.int .i64 0,.int .u64 0,.str [],.nils,.nils,.nils,.nils] ∧ fr 7 = .cells [.int .i64 10,.int .u64 0,.str [],.nils,.nils,.vec 0 1100 gs 0 (L k).length false,.list (rw'.map R.av)] ∧ fr 9 = .cells o.cells ∧ fr 1100 = .vec gs 8 ((L k).map V.sav) ∧ ∀ s ∈ [11],(fr s).isRow = false
 refine awp_loop I _ ⟨f,fr,0,gs,rfl,rfl,Nat.zero_le _,h1,h3,h5,h6,h7,h8,h9,h10,m3,m5,m6,m7,m9,mS,r11⟩ ?_
 clear h1 h3 h5 h6 h7 h8 h9 h10 m3 m5 m6 m7 m9 mS r11
 rintro _ st ⟨f0,fr0,k,gs,rfl,rfl,hkl,h10,h30,h50,h60,h70,h80,h90,h100,m30,m50,m60,m70,m90,mS0,r11⟩
 refine awp_drops (a:=_) [11] r11 ?_
 intro f fr hf hm hn11
 have h1 : f 1 = .int .i64 (ti : Nat):=by rw [hf,h10] <;> rfl
 have h3 : f 3 = .ptr 0 3 0:=by rw [hf,h30] <;> rfl
 have h5 : f 5 = .ptr 0 5 0:=by rw [hf,h50] <;> rfl
 have h6 : f 6 = .ptr 0 6 0:=by rw [hf,h60] <;> rfl
 have h7 : f 7 = .ptr 0 7 0:=by rw [hf,h70] <;> rfl
 have h8 : f 8 = .int .i64 (i : Nat):=by rw [hf,h80] <;> rfl
 have h9 : f 9 = .ptr 0 9 0:=by rw [hf,h90] <;> rfl
 have h10' : f 10 = .int .i64 (k : Nat):=by rw [hf,h100] <;> rfl
 have m3 : fr 3 = .cells [.list (P.progs.map gav),.list (P.enums.map eav)]:=by rw [hm 3 (by decide),m30] <;> rfl
 have m5' : fr 5 = .cells (vcs v):=by rw [hm 5 (by decide),m50] <;> rfl
 have m6 : fr 6 = .cells [.int .i64 0,.int .u64 0,.str [],.nils,.nils,.nils,.nils]:=by rw [hm 6 (by decide),m60] <;> rfl
 have m7 : fr 7 = .cells [.int .i64 10,.int .u64 0,.str [],.nils,.nils,.vec 0 1100 gs 0 (L k).length false,.list (rw'.map R.av)]:=by rw [hm 7 (by decide),m70] <;> rfl
 have m9' : fr 9 = .cells o.cells:=by rw [hm 9 (by decide),m90] <;> rfl
 have mS : fr 1100 = .vec gs 8 ((L k).map V.sav):=by rw [hm 1100 (by decide),mS0] <;> rfl
 have n11:=hn11 11 (by decide)
 clear hf hm hn11 h10 h30 h50 h60 h70 h80 h90 h100 m30 m50 m60 m70 m90 mS0 r11
 have m5:=m5'
 have m9:=m9'
 simp only [vcs] at m5
 simp only [PO.cells] at m9
 simp only [List.length_map,h5,h10',m5,eES,eEX,seval]
 by_cases hlt : k < v.slots.length
 ·obtain ⟨x,hi⟩ : ∃ x,v.slots[k]? = some x:=⟨v.slots[k],List.getElem?_eq_getElem hlt⟩
  have hx:=List.mem_of_getElem? hi
  have hgs:=getS hi
  have e1:=wi64_s k _ hlt (by simp only [maxLen]; omega)
  have hKs:=hLs k x hi
  have hKi:=hLl k (by omega)
  have fin : ∀ (f' : Fr) (fr' : Nat → Ob) (gs' : Nat),f' 1 = .int .i64 (ti : Nat) → f' 3 = .ptr 0 3 0 → f' 5 = .ptr 0 5 0 → f' 6 = .ptr 0 6 0 → f' 7 = .ptr 0 7 0 → f' 8 = .int .i64 (i : Nat) → f' 9 = .ptr 0 9 0 → f' 10 = .int .i64 ((k + 1 : Nat) : Int) → fr' 3 = .cells [.list (P.progs.map gav),.list (P.enums.map eav)] → fr' 5 = .cells (vcs v) → fr' 6 = .cells [.int .i64 0,.int .u64 0,.str [],.nils,.nils,.nils,.nils] → fr' 7 = .cells [.int .i64 10,.int .u64 0,.str [],.nils,.nils,.vec 0 1100 gs' 0 (L (k + 1)).length false,.list (rw'.map R.av)] → fr' 9 = .cells o.cells → fr' 1100 = .vec gs' 8 ((L (k + 1)).map V.sav) → (∀ s ∈ [11],(fr' s).isRow = false) → ∃ d,d < v.slots.length - k ∧ I d ⟨f',[fr'],[]⟩:=by
   intro f' fr' gs' a1 a3 a5 a6 a7 a8 a9 a10 b3 b5 b6 b7 b9 bS br
   exact ⟨v.slots.length - (k + 1),by omega,f',fr',k + 1,gs',rfl,rfl,by omega,a1,a3,a5,a6,a7,a8,a9,a10,b3,b5,b6,b7,b9,bS,br⟩
  cases hne : (x.1 == o.num)
  ·have bn : (x.1 != o.num) = true:=by simp [bne,hne]
   unfold keepI at hKs
   rw [hne,if_neg (by simp),List.append_nil] at hKs
   simp only [lt_t hlt,nneg,Int.toNat_natCast,aiaddr,hgs,bn,List.drop_zero,h5,h9,h10',m5,m9,e1,eES,eEX,seval]
   exact fin _ _ gs (by exact h1) (by exact h3) (by exact h5) (by exact h6) (by exact h7) (by exact h8) (by exact h9) (by rfl) (by exact m3) (by exact m5') (by exact m6) (by rw [hKs]; exact (by exact m7)) (by exact m9') (by rw [hKs]; exact (by exact mS)) (noRow1 (isr (by exact n11)))
  ·have bn : (x.1 != o.num) = false:=by simp [bne,hne]
   unfold keepI at hKs
   rw [hne,if_pos rfl] at hKs
   unfold keepO at hKs
   have c2:=hw x hx (by simpa using hne)
   have c3:=emp_r (nfl (nrm P n) P o x.2)
   generalize nfl (nrm P n) P o x.2 = z at c2 c3 hKs
   rw [e0,av7 x.2,av7 z] at c2
   rw [av7 z] at c3
   simp only [oav,PO.cells] at c2
   simp only [lt_t hlt,nneg,Int.toNat_natCast,aiaddr,hgs,bn,List.take_succ_cons,List.drop_succ_cons,List.drop_zero,h3,h5,h9,h10',m3,m5,m9,eES,eEX,seval]
   refine aops_call c2 rfl rfl rfl (.inl rfl) ?_
   simp only [n11,splice,List.take_zero,List.drop_succ_cons,List.drop_nil,List.append_nil,List.nil_append,List.length_cons,List.length_nil,List.all_cons,List.all_nil,AV.leaf,h9,m9,eES,eEX,seval]
   cases hb : decide (o.card < 3)
   ·rw [hb,Bool.false_or] at hKs
    simp only [eES,eEX,seval]
    refine aops_call c3 rfl rfl rfl (.inl rfl) ?_
    cases hz : z.emp
    ·rw [hz,if_pos (show (!false) = true from rfl)] at hKs
     simp only [splice,List.take_succ_cons,List.take_zero,List.drop_succ_cons,List.drop_zero,List.drop_nil,List.append_nil,List.cons_append,List.nil_append,List.length_cons,List.length_nil,List.all_cons,List.all_nil,AV.leaf,h7,h9,m7,m9,eES,eEX,seval]
     refine aops_bslB (l:=[V.sav (o.num,z)]) rfl rfl rfl (by rw [sav8]; rfl) ?_
     refine aops_app (site:=1100) (g:=gs) (n:=(L k).length) (xs:=(L k).map V.sav) (ys:=[V.sav (o.num,z)]) (by rfl) (by exact mS) rfl (by rw [List.length_map]) rfl (all8 [(o.num,z)]) (by simp only [List.length_cons,List.length_nil,maxLen]; omega) (by simp only [List.length_cons,List.length_nil]; omega) ?_
     simp only [splice,List.take_succ_cons,List.take_zero,List.drop_succ_cons,List.drop_zero,List.cons_append,List.nil_append,List.length_cons,List.length_nil,List.all_cons,List.all_nil,AV.leaf,h7,h10',m7,e1,eES,eEX,seval]
     exact fin _ _ (gs + 1) (by exact h1) (by exact h3) (by exact h5) (by exact h6) (by exact h7) (by exact h8) (by exact h9) (by rfl) (by exact m3) (by exact m5') (by exact m6) (by rw [hKs,List.length_append]; exact (by rfl)) (by exact m9') (by rw [hKs,List.map_append]; exact (by rfl)) (noRow1 rfl)
    ·rw [hz,if_neg (by simp),List.append_nil] at hKs
     simp only [h10',e1,eES,seval]
     exact fin _ _ gs (by exact h1) (by exact h3) (by exact h5) (by exact h6) (by exact h7) (by exact h8) (by exact h9) (by rfl) (by exact m3) (by exact m5') (by exact m6) (by rw [hKs]; exact (by exact m7)) (by exact m9') (by rw [hKs]; exact (by exact mS)) (noRow1 rfl)
   ·rw [hb,Bool.true_or,if_pos rfl] at hKs
    simp only [splice,List.take_succ_cons,List.take_zero,List.drop_succ_cons,List.drop_zero,List.drop_nil,List.append_nil,List.cons_append,List.nil_append,List.length_cons,List.length_nil,List.all_cons,List.all_nil,AV.leaf,h7,h9,m7,m9,eES,eEX,seval]
    refine aops_bslB (l:=[V.sav (o.num,z)]) rfl rfl rfl (by rw [sav8]; rfl) ?_
    refine aops_app (site:=1100) (g:=gs) (n:=(L k).length) (xs:=(L k).map V.sav) (ys:=[V.sav (o.num,z)]) (by rfl) (by exact mS) rfl (by rw [List.length_map]) rfl (all8 [(o.num,z)]) (by simp only [List.length_cons,List.length_nil,maxLen]; omega) (by simp only [List.length_cons,List.length_nil]; omega) ?_
    simp only [splice,List.take_succ_cons,List.take_zero,List.drop_succ_cons,List.drop_zero,List.cons_append,List.nil_append,List.length_cons,List.length_nil,List.all_cons,List.all_nil,AV.leaf,h7,h10',m7,e1,eES,eEX,seval]
    exact fin _ _ (gs + 1) (by exact h1) (by exact h3) (by exact h5) (by exact h6) (by exact h7) (by exact h8) (by exact h9) (by rfl) (by exact m3) (by exact m5') (by exact m6) (by rw [hKs,List.length_append]; exact (by rfl)) (by exact m9') (by rw [hKs,List.map_append]; exact (by rfl)) (noRow1 rfl)
 ·have e : k = v.slots.length:=by omega
  subst e
  simp only [lt_f hlt,eES,seval]
  exact q _ _ gs (by exact h1) (by exact h3) (by exact h5) (by exact h6) (by exact h7) (by exact h8) (by exact m3) (by exact m5') (by exact m6) (by exact m7) (by exact mS) (by rw [m9']; rfl) (isr n11)

def NoI (P : PL) (v : V) (K : Nat → List (Int × V)) (len : Nat) (t : Nat) (rw' : List R) (d : Nat) (st : St) : Prop :=
 ∃ f fr i gs,st = ⟨f,[fr],[]⟩ ∧ d = len - i ∧ i ≤ len ∧ f 1 = .int .i64 (t : Nat) ∧ f 3 = .ptr 0 3 0 ∧ f 5 = .ptr 0 5 0 ∧ f 6 = .ptr 0 6 0 ∧ f 7 = .ptr 0 7 0 ∧ f 8 = .int .i64 (i : Nat) ∧ fr 3 = .cells [.list (P.progs.map gav),.list (P.enums.map eav)] ∧ fr 5 = .cells (vcs v) ∧ fr 6 = .cells [.int .i64 0,.int .u64 0,.str [],.nils,.nils,.nils,.nils] ∧ fr 7 = .cells [.int .i64 10,.int .u64 0,.str [],.nils,.nils,.vec 0 1100 gs 0 (K i).length false,.list (rw'.map R.av)] ∧ fr 1100 = .vec gs 8 ((K i).map V.sav) ∧ ∀ s ∈ [11,9],(fr s).isRow = false

section
variable {M : Nat} {P : PL}

set_option maxHeartbeats 2000000 in
theorem v9 (hU : Use P) (hr : Rises P) (hl : ∀ g ∈ P.progs,g.ops.length ≤ 64) : ∀ (n : Nat) (t : Int) (g : PG),P.progs[t.toNat]? = some g → 0 ≤ t → ∀ v : V,v.ok M → v.cnt ≤ 1048576 → msgF P n g v = 0 → Fn1 Tryz.prog 9 [P.av,.int .i64 t,v.av] (nrm P n g v).av:=by
 have e0 : P.av = .agg [.list (P.progs.map gav),.list (P.enums.map eav)]:=rfl
 intro n
 induction n with
 | zero =>
  intro t g _ _ v _ _ h
  unfold msgF at h
  split at h <;> omega
 | succ n ih =>
  intro t g hgt t0 v hv hc h
  have hgm:=List.mem_of_getElem? hgt
  have hu:=hU g hgm
  have hd:=hr g hgm
  have hg64:=hl g hgm
  obtain ⟨_,⟨s1,s2,_⟩,_,_⟩:=msg_iff.1 h
  have hnor:=fun (o : PO) (ho : o ∈ g.ops) (x : V) (hx : x.ok M) (hxc : x.cnt ≤ 1048576) (he : elemF (msgF P n) P o x = 0) => v56 o (hu o ho) (fun t g a b v c d e => ih t g a b v c d e) x hx hxc he
  have hwit:=fun (o : PO) (ho : o ∈ g.ops) (x : V) (hx : x.ok M) (hxc : x.cnt ≤ 1048576) (he : fieldF (msgF P n) P o x = 0) => v25 o (hu o ho) (hnor o ho) x hx hxc he
  have lS:=len_slots v
  have lR:=len_raws v
  have cR:=v24 v.raws (by omega)
  obtain ⟨ti,hti⟩:=Int.eq_ofNat_of_zero_le t0
  subst hti
  rw [Int.toNat_natCast] at hgt
  have hga : (P.progs.map gav)[ti]? = some (.agg g.cells):=by simp [hgt,gav]
  simp only [PG.cells] at hga
  have htl : ti < P.progs.length:=(List.getElem?_eq_some_iff.1 hgt).1
  have d0 : decide ((ti : Int) < 0) = false:=decide_eq_false (by omega)
  have d1 : decide ((ti : Int) ≥ (P.progs.length : Int)) = false:=decide_eq_false (by omega)
  show Fn1 _ _ _ (V.mk 10 0 [] [] [] (g.ops.flatMap (nslot (nrm P n) P v.slots)) (srtR v.raws)).av
  have hfin : g.ops.flatMap (nslot (nrm P n) P v.slots) = g.ops.flatMap fun o => v.slots.flatMap (keepI (nrm P n) P o):=by
   congr 1
   funext o
   exact (keepA_eq (nrm P n) P s2).symm
  have hone : ∀ o,(v.slots.flatMap (keepI (nrm P n) P o)).length ≤ 1:=by
   intro o
   have e : v.slots.flatMap (keepI (nrm P n) P o) = nslot (nrm P n) P v.slots o:=keepA_eq (nrm P n) P s2
   rw [e,nslot_keep]
   split
   ·simp
   ·unfold keepO
    split <;> simp
  rw [hfin]
  generalize srtR v.raws = RW at *
  rw [show v.av = .agg (vcs v) from av7 v]
  generalize hK : (fun i => (g.ops.take i).flatMap fun o => v.slots.flatMap (keepI (nrm P n) P o)) = K
  have hK0 : K 0 = []:=by rw [← hK]; simp
  have hKn : (g.ops.flatMap fun o => v.slots.flatMap (keepI (nrm P n) P o)) = K g.ops.length:=by rw [← hK]; simp
  have hKl : ∀ i,i ≤ g.ops.length → (K i).length ≤ 64:=by
   intro i hi
   rw [← hK]
   have : ∀ l : List PO,(l.flatMap fun o => v.slots.flatMap (keepI (nrm P n) P o)).length ≤ l.length:=by
    intro l
    induction l with
    | nil => exact Nat.le_refl _
    | cons o l ih =>
     have:=hone o
     rw [List.flatMap_cons,List.length_append,List.length_cons]
     omega
   have h2:=this (g.ops.take i)
   rw [List.length_take] at h2
   show ((g.ops.take i).flatMap _).length ≤ 64
   omega
  have hKs : ∀ i o,g.ops[i]? = some o → K (i + 1) = K i ++ v.slots.flatMap (keepI (nrm P n) P o):=by
   intro i o ho
   rw [← hK]
   show (g.ops.take (i + 1)).flatMap _ = (g.ops.take i).flatMap _ ++ _
   rw [List.take_add_one,ho,List.flatMap_append]
   simp
  rw [hKn,show (V.mk 10 0 [] [] [] (K g.ops.length) RW).av = .agg [.int .i64 10,.int .u64 0,.str [],.list [],.list [],.list ((K g.ops.length).map V.sav),.list (RW.map R.av)] from av7 _]
  clear hKn hfin hone
  refine k9.fn (by simp) ?_
  simp only [e0,vcs,d0,d1,List.length_map,List.all_cons,List.all_nil,AV.leaf,eES,eEX,seval]
  refine aops_call cR rfl rfl rfl (.inl rfl) ?_
  simp only [splice,List.take_succ_cons,List.take_zero,List.drop_succ_cons,List.drop_zero,List.drop_nil,List.append_nil,List.cons_append,List.nil_append,List.length_cons,List.length_nil,List.all_cons,List.all_nil,AV.leaf,eES,eEX,seval]
  refine awp_vecc (by simp only [eES,seval] <;> rfl) rfl (by simp only [eES,seval] <;> rfl) rfl ?_
  simp only [List.set,eES,seval]
  refine awp_loop (NoI P v K g.ops.length ti RW) _ ⟨_,_,0,_,rfl,rfl,Nat.zero_le _,(by rfl),(by rfl),(by rfl),(by rfl),(by rfl),(by rfl),(by rfl),(by rfl),(by rfl),(by rw [hK0]; exact (by rfl)),(by rw [hK0]; exact (by rfl)),noRow2 rfl rfl⟩ ?_
  rintro _ st ⟨f0,fr0,i,gs,rfl,rfl,hil,h10,h30,h50,h60,h70,h80,m30,m50,m60,m70,mS0,r11⟩
  refine awp_drops (a:=_) [11,9] r11 ?_
  intro f fr hf hm hn11
  have h1 : f 1 = .int .i64 (ti : Nat):=by rw [hf,h10] <;> rfl
  have h3 : f 3 = .ptr 0 3 0:=by rw [hf,h30] <;> rfl
  have h5 : f 5 = .ptr 0 5 0:=by rw [hf,h50] <;> rfl
  have h6 : f 6 = .ptr 0 6 0:=by rw [hf,h60] <;> rfl
  have h7 : f 7 = .ptr 0 7 0:=by rw [hf,h70] <;> rfl
  have h8 : f 8 = .int .i64 (i : Nat):=by rw [hf,h80] <;> rfl
  have m3 : fr 3 = .cells [.list (P.progs.map gav),.list (P.enums.map eav)]:=by rw [hm 3 (by decide),m30] <;> rfl
  have m5 : fr 5 = .cells (vcs v):=by rw [hm 5 (by decide),m50] <;> rfl
  have m6 : fr 6 = .cells [.int .i64 0,.int .u64 0,.str [],.nils,.nils,.nils,.nils]:=by rw [hm 6 (by decide),m60] <;> rfl
  have m7 : fr 7 = .cells [.int .i64 10,.int .u64 0,.str [],.nils,.nils,.vec 0 1100 gs 0 (K i).length false,.list (RW.map R.av)]:=by rw [hm 7 (by decide),m70] <;> rfl
  have mS : fr 1100 = .vec gs 8 ((K i).map V.sav):=by rw [hm 1100 (by decide),mS0] <;> rfl
  have n11:=hn11 11 (by decide)
  have n9:=hn11 9 (by decide)
  clear hf hm hn11 h10 h30 h50 h60 h70 h80 m30 m50 m60 m70 mS0 r11
  simp only [nneg,Int.toNat_natCast,aiaddr,hga,List.length_map,List.drop_succ_cons,List.drop_zero,h1,h3,h8,m3,eES,eEX,seval]
  by_cases hlt : i < g.ops.length
  ·obtain ⟨o,hi⟩ : ∃ o,g.ops[i]? = some o:=⟨g.ops[i],List.getElem?_eq_getElem hlt⟩
   have hom:=List.mem_of_getElem? hi
   have hgo : (g.ops.map fun o => AV.agg o.cells)[i]? = some (.agg o.cells):=by simp [hi]
   simp only [PO.cells] at hgo
   have e1:=wi64_s i _ hlt (by simp only [maxLen]; omega)
   have hKi:=hKl i (by omega)
   have hKs':=hKs i o hi
   simp only [lt_t hlt,nneg,Int.toNat_natCast,aiaddr,hga,PO.cells,hgo,n9,splice,List.take_succ_cons,List.take_zero,List.drop_succ_cons,List.drop_zero,List.drop_nil,List.append_nil,List.nil_append,List.length_cons,List.length_nil,List.all_cons,List.all_nil,AV.leaf,h1,h3,h8,m3,eES,eEX,seval]
   refine nr_inner (P:=P) (v:=v) (o:=o) (n:=n) (ti:=ti) (i:=i) (K i) hKi (by omega) RW (fun x hx hxn => by
    obtain ⟨o',ho',hf'⟩:=s1 x hx
    rw [hxn,opq_self hd hom] at ho'
    cases ho'
    exact hwit o hom x.2 (hv.slots x hx) (Nat.le_trans (cnt_slot hx) hc) hf') _ _ gs (by exact h1) (by exact h3) (by exact h5) (by exact h6) (by exact h7) (by exact h8) (by rfl) (by rfl) (by exact m3) (by exact m5) (by exact m6) (by exact m7) (by rfl) (by exact mS) (noRow1 (isr (by exact n11))) _ ?_
   clear h1 h3 h5 h6 h7 h8 m3 m5 m6 m7 mS n11 n9
   intro f fr gs h1 h3 h5 h6 h7 h8 m3 m5 m6 m7 mS n9 n11
   rw [← hKs'] at m7 mS
   simp only [h8,e1,eES,seval]
   exact ⟨g.ops.length - (i + 1),by omega,_,_,i + 1,gs,rfl,rfl,by omega,(by exact h1),(by exact h3),(by exact h5),(by exact h6),(by exact h7),(by rfl),m3,m5,m6,m7,mS,noRow2 n11 n9⟩
  ·have e : i = g.ops.length:=by omega
   subst e
   simp only [lt_f hlt,splice,List.take_succ_cons,List.take_zero,List.drop_succ_cons,List.drop_zero,List.drop_nil,List.append_nil,List.nil_append,List.length_cons,List.length_nil,List.all_cons,List.all_nil,AV.leaf,h6,h7,m6,m7,eES,eEX,seval]
   simp [AV.un,AV.unL,isV,vget,mS,List.take_of_length_le]

end

theorem ok_nsc {M : Nat} {v : V} (h : v.ok M) : v.nsc.ok M:=by
 refine .mk h.kd ?_ h.text h.nl h.np h.ns h.nr h.list h.keys h.vals h.nums h.slots h.raws
 show (Lit.int .u64 ((nbits v.kd v.bits : Nat) : Int)).wf = true
 unfold nbits
 split
 ·rfl
 ·exact h.bits

def Gd (g : PG) : Prop:=g.ops.length ≤ 64 ∧ ∀ o ∈ g.ops,(Lit.int .i64 o.num).wf = true

section
variable {M : Nat} {P : PL} {nm : PG → V → V} (h : ∀ t v,v.ok M → (nm (gat P t) v).ok M)
include h
theorem ok_nel (o : PO) {v : V} (hv : v.ok M) : (nel nm P o v).ok M:=by
 unfold nel
 split
 ·exact h _ v hv
 ·exact ok_nsc hv
theorem ok_nfl (o : PO) {v : V} (hv : v.ok M) : (nfl nm P o v).ok M:=by
 unfold nfl
 split
 ·refine .mk rfl rfl (Nat.zero_le _) ?_ (Nat.zero_le _) (Nat.zero_le _) (Nat.zero_le _) ?_ (fun x hx => nomatch hx) (fun x hx => nomatch hx) (fun x hx => nomatch hx) (fun x hx => nomatch hx) (fun x hx => nomatch hx)
  ·show (v.list.map _).length ≤ _
   rw [List.length_map]; exact hv.nl
  ·intro x hx
   obtain ⟨y,hy,rfl⟩:=List.mem_map.1 hx
   exact ok_nel h o (hv.list y hy)
 ·split
  ·have hp : (srtP o.key v.pairs).Perm v.pairs:=isort_perm _
   refine .mk rfl rfl (Nat.zero_le _) (Nat.zero_le _) ?_ (Nat.zero_le _) (Nat.zero_le _) (fun x hx => nomatch hx) ?_ ?_ (fun x hx => nomatch hx) (fun x hx => nomatch hx) (fun x hx => nomatch hx)
   ·show ((srtP o.key v.pairs).map _).length ≤ _
    rw [List.length_map,hp.length_eq]; exact hv.np
   ·intro x hx
    obtain ⟨y,hy,rfl⟩:=List.mem_map.1 hx
    exact ok_nsc (hv.keys y (hp.mem_iff.1 hy))
   ·intro x hx
    obtain ⟨y,hy,rfl⟩:=List.mem_map.1 hx
    exact ok_nel h o (hv.vals y (hp.mem_iff.1 hy))
  ·exact ok_nel h o hv
theorem ok_nmsg {g : PG} (hg : Gd g) {v : V} (hv : v.ok M) : (nmsg nm P g v).ok M:=by
 unfold nmsg
 have hp : (srtR v.raws).Perm v.raws:=isort_perm _
 have hs : ∀ x ∈ g.ops.flatMap (nslot nm P v.slots),(Lit.int .i64 x.1).wf = true ∧ x.2.ok M:=by
  intro x hx
  obtain ⟨o,ho,hx⟩:=List.mem_flatMap.1 hx
  obtain ⟨e1,s,hs,_,e2⟩:=mem_nslot hx
  rw [e1,e2]
  exact ⟨hg.2 o ho,ok_nfl h o (hv.slots s hs)⟩
 have hl : ∀ l : List PO,(l.flatMap (nslot nm P v.slots)).length ≤ l.length:=by
  intro l
  induction l with
  | nil => exact Nat.le_refl _
  | cons o l ih =>
   have : (nslot nm P v.slots o).length ≤ 1:=by
    unfold nslot
    split
    ·simp
    ·split <;> simp
   rw [List.flatMap_cons,List.length_append,List.length_cons]
   omega
 refine .mk rfl rfl (Nat.zero_le _) (Nat.zero_le _) (Nat.zero_le _) ?_ ?_ (fun x hx => nomatch hx) (fun x hx => nomatch hx) (fun x hx => nomatch hx) (fun x hx => (hs x hx).1) (fun x hx => (hs x hx).2) ?_
 ·show (g.ops.flatMap (nslot nm P v.slots)).length ≤ _
  have:=hl g.ops
  have:=hg.1
  omega
 ·show (srtR v.raws).length ≤ _
  rw [hp.length_eq]; exact hv.nr
 ·intro x hx
  exact hv.raws x (hp.mem_iff.1 hx)
end
theorem ok_nrm {M : Nat} {P : PL} (hg : ∀ t,Gd (gat P t)) : ∀ (n : Nat) (t : Int) (v : V),v.ok M → (nrm P n (gat P t) v).ok M
 | 0,_,_,h => h
 | n + 1,t,_,h => ok_nmsg (fun t v hv => ok_nrm hg n t v hv) (hg t) h

theorem gd_of {M : Nat} {P : PL} (hP : P.ok M) (hl : ∀ g ∈ P.progs,g.ops.length ≤ 64) (t : Int) : Gd (gat P t):=by
 unfold gat
 cases hg : P.progs[t.toNat]? with
 | none => exact ⟨Nat.zero_le _,fun o ho => nomatch ho⟩
 | some g =>
  have hm:=List.mem_of_getElem? hg
  exact ⟨hl g hm,fun o ho => ((hP.progs g hm).ops o ho).num⟩
theorem lim_of {P : PL} (h : ck P = 0) : ∀ g ∈ P.progs,g.ops.length ≤ 64:=by
 unfold ck at h
 split at h
 ·omega
 rename_i hl
 exact (lim_progs (by simpa using hl)).2.2.1

theorem fits_zero {P : PL} {t : Int} {v : V} (hc : v.cnt ≤ 1048576) : fitsF P t v = 0 ↔ (0 ≤ t ∧ t < (P.progs.length : Int)) ∧ msgF P 16 (gat P t) v = 0 ∧ v.cnt ≤ 4096:=by
 have w : IntKind.i64.wrap (v.cnt : Int) = v.cnt:=by rw [wi64]; omega
 unfold fitsF
 rw [w]
 split
 ·omega
 ·split
  ·split
   ·omega
   ·rename_i h1 h2 h3
    exact ⟨fun _ => ⟨by omega,h2,by omega⟩,fun _ => rfl⟩
  ·rename_i h1 h2
   exact ⟨fun h => absurd h h2,fun h => absurd h.2.1 h2⟩

set_option maxHeartbeats 1000000 in
theorem c3 {M : Nat} (P : PL) (hP : P.ok M) (hM : M ≤ 140737488351232) (t : Int) (v : V) (hv : v.ok M) (hb : v.cnt ≤ 1048576) : Fn1 Tryz.prog 3 [P.av,.int .i64 t,v.av] (.bool true):=by
 have e0 : P.av = .agg [.list (P.progs.map gav),.list (P.enums.map eav)]:=rfl
 have c1:=v4 P hP hM
 have c2:=v5 v hv
 have c4 : ck P = 0 → Fn1 Tryz.prog 6 [P.av,.int .i64 t,v.av] (.int .i64 (fitsF P t v)):=fun h => v6 hP hM (use_of h) t v hv
 have c5 : ck P = 0 → fitsF P t v = 0 → ∃ n : V,Fn1 Tryz.prog 7 [P.av,.int .i64 t,v.av] n.av ∧ Fn1 Tryz.prog 9 [P.av,.int .i64 t,v.av] n.av ∧ Fn1 Tryz.prog 8 [n.av,n.av] (.bool true) ∧ Fn1 Tryz.prog 10 [P.av,.int .i64 t,n.av] (.int .i64 0) ∧ Fn1 Tryz.prog 7 [P.av,.int .i64 t,n.av] n.av:=by
  intro hc hf
  obtain ⟨⟨t0,t1⟩,hm,h4⟩:=(fits_zero hb).1 hf
  have hU:=use_of hc
  have hr:=rises_of hc
  have hl:=lim_of hc
  have hgt : P.progs[t.toNat]? = some (gat P t):=by
   unfold gat
   rw [List.getElem?_eq_getElem (by omega)]
   rfl
  have hgm:=List.mem_of_getElem? hgt
  have hok:=ok_nrm (gd_of hP hl) 16 t v hv
  have hcn:=cnt_nrm hr 16 (gat P t) (gat_rises hr t) v
  have hmn:=nrm_fits hU hr 16 (gat P t) hgm v hm
  have hid:=nrm_idem hU hr 16 (gat P t) hgm v hm
  refine ⟨nrm P 16 (gat P t) v,v7 hP hU hr (cards_of hc) 16 t _ hgt t0 v hv hb hm,v9 hU hr hl 16 t _ hgt t0 v hv hb hm,same_self _ (by omega),?_,?_⟩
  ·have h:=v10 hP hU t _ hok
   rwa [(fits_zero (by omega)).2 ⟨⟨t0,t1⟩,hmn,by omega⟩] at h
  ·have h:=v7 hP hU hr (cards_of hc) 16 t _ hgt t0 _ hok (by omega) hmn
   rwa [hid] at h
 rw [av7 v,e0] at c4 c5
 rw [av7 v] at c2
 rw [e0] at c1
 rw [av7 v]
 refine k3.fn (by simp) ?_
 simp only [g3_0,g3_1,g3_2,g3_3,g3_4,r3,o3,e0,eES,eEX,seval]
 refine aops_call c1 rfl rfl rfl (.inl rfl) ?_
 cases a1 : (decide ((P.progs.length : Int) ≤ 8) && decide ((P.enums.length : Int) ≤ 8) && ck P == 0)
 ·simp only [eES,seval]
 have hc : ck P = 0:=by
  simp only [Bool.and_eq_true,beq_iff_eq] at a1
  exact a1.2
 simp only [eES,eEX,seval]
 refine aops_call c2 rfl rfl rfl (.inl rfl) ?_
 cases a2 : decide (IntKind.i64.wrap (v.cnt : Int) ≤ 5000)
 ·simp only [eES,seval]
 simp only [eES,eEX,seval]
 refine aops_call (c4 hc) rfl rfl rfl (.inl rfl) ?_
 by_cases hf : fitsF P t v = 0
 ·obtain ⟨n,d1,d2,d3,d4,d5⟩:=c5 hc hf
  have z0 : (fitsF P t v != 0) = false:=by simp [hf]
  rw [av7 n] at d1 d2 d3 d4 d5
  simp only [z0,eES,eEX,seval]
  refine aops_call d1 rfl rfl rfl (.inl rfl) ?_
  simp only [splice,List.take_succ_cons,List.take_zero,List.drop_succ_cons,List.drop_zero,List.drop_nil,List.append_nil,List.nil_append,List.length_cons,List.length_nil,List.all_cons,List.all_nil,AV.leaf,eES,eEX,seval]
  refine aops_call d2 rfl rfl rfl (.inl rfl) ?_
  refine aops_call d3 rfl rfl rfl (.inl rfl) ?_
  simp only [eES,eEX,seval]
  refine aops_call d4 rfl rfl rfl (.inl rfl) ?_
  simp only [beq_self_eq_true,eES,eEX,seval]
  refine aops_call d5 rfl rfl rfl (.inl rfl) ?_
  simp only [eES,eEX,seval]
  refine aops_call d3 rfl rfl rfl (.inl rfl) ?_
  simp only [eES,seval]
  refine aops_call Ev.awake_ok rfl rfl rfl (.inl rfl) ?_
  simp only [eES,seval]
 ·have z0 : (fitsF P t v != 0) = true:=by simp [hf]
  simp only [z0,eES,seval]

end Go.Proofs.YtgannjophilbiaaGreatDoor.Va

namespace Go.Proofs.YtgannjophilbiaaGreatDoor.Va
open Go Am Rc Bt Br Up

theorem raws_wt : ∀ r : List R,r.length ≤ wtL (r.map R.av)
 | [] => Nat.le_refl _
 | x :: r => by
  have:=raws_wt r
  simp only [List.map_cons,List.length_cons,wtL,wt,R.av]
  omega
mutual
theorem cnt_wt : ∀ v : V,v.cnt ≤ wtL v.cells
 | .mk k b t l p s r => by
  have h1:=cntL_wt l
  have h2:=cntP_wt p
  have h3:=cntS_wt s
  have h4:=raws_wt r
  rw [V.cells,V.cnt]
  simp only [wtL,wt]
  omega
theorem cntL_wt : ∀ l : List V,cntL l ≤ wtL (V.cl l)
 | [] => Nat.le_refl _
 | x :: l => by
  have h1:=cnt_wt x
  have h2:=cntL_wt l
  rw [V.cl,cntL]
  simp only [wtL,wt]
  omega
theorem cntP_wt : ∀ l : List (V × V),cntP l ≤ wtL (V.cp l)
 | [] => Nat.le_refl _
 | (a,b) :: l => by
  have h1:=cnt_wt a
  have h2:=cnt_wt b
  have h3:=cntP_wt l
  rw [V.cp,cntP]
  simp only [wtL,wt,wtL_app]
  omega
theorem cntS_wt : ∀ l : List (Int × V),cntS l ≤ wtL (V.cs l)
 | [] => Nat.le_refl _
 | (n,a) :: l => by
  have h1:=cnt_wt a
  have h3:=cntS_wt l
  rw [V.cs,cntS]
  simp only [wtL,wt]
  omega
end

end Go.Proofs.YtgannjophilbiaaGreatDoor.Va

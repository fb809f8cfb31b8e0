/- Rules: stores, appends, slice literals. -/
import Derived.Test.YtcmdlmcmefbkeaaAml
namespace Go.Proofs.Ytcmdlmcmefbkeaa.Am
open Go

/-- An element some of whose cells are written anew. -/
def newElem (e : AV) (o : Nat) (ys : List AV) : AV :=
  match e with
  | .agg l => .agg (splice l o ys)
  | _ => match ys with
    | y :: _ => y
    | [] => e

def astore (m : Mem) (p : AV) (ys : List AV) : Option Mem :=
  match p with
  | .ptr l s o => match look m l s with
    | .cells xs => if o + ys.length ≤ xs.length then match AV.unNL l ys with
        | some zs => some (Am.put m l s (.cells (splice xs o zs)))
        | none => none
      else none
    | _ => none
  | .vptr l s g i o => match look m l s with
    | .vec g' sz xs => if g = g' then match xs[i]? with
        | some e => if o + ys.length ≤ e.cells.length ∧ ys.length ≠ 0 ∧ AV.rfL ys = true then some (Am.put m l s (.vec g' sz (xs.set i (newElem e o ys)))) else none
        | none => none
      else none
    | _ => none
  | _ => none

theorem newElem_cells {e : AV} (he : e.cells.all AV.leaf = true) {o : Nat} {ys : List AV} (h : o + ys.length ≤ e.cells.length) (hl : ys.all AV.leaf = true) (h0 : ys.length ≠ 0) : (newElem e o ys).cells = splice e.cells o ys := by
  have key : ∀ x : AV, x.cells = [x] → x = e → (match ys with | y :: _ => y | [] => e).cells = splice e.cells o ys := by
    intro x hx hxe
    subst hxe
    rw [hx] at h ⊢
    simp only [List.length_cons, List.length_nil] at h
    obtain ⟨y, rfl⟩ : ∃ y, ys = [y] := by
      match ys, h0, h with
      | [y], _, _ => exact ⟨y, rfl⟩
      | [], h0, _ => exact absurd rfl h0
      | _ :: _ :: _, _, h => simp at h; omega
    have ho : o = 0 := by simp at h; omega
    subst ho
    simp only [List.all_cons, List.all_nil, Bool.and_true] at hl
    simp only [splice, List.take_zero, List.nil_append, List.length_cons, List.length_nil, List.drop_succ_cons, List.drop_nil, List.append_nil]
    cases y <;> first | rfl | (simp [AV.leaf] at hl)
  cases e with
  | agg l => rfl
  | _ => exact key _ rfl rfl

theorem flat_set {sz : Nat} : ∀ {xs : List AV} (_ : ∀ x ∈ xs, x.cells.length = sz) (i : Nat) (e : AV), e.cells.length = sz → i < xs.length → flat (xs.set i e) = (flat xs).take (i * sz) ++ e.cells ++ (flat xs).drop (i * sz + sz)
  | [], _, i, e, _, h => by simp at h
  | x :: xs, hz, i, e, he, h => by
    have hx := hz x (List.mem_cons_self ..)
    cases i with
    | zero =>
      rw [List.set_cons_zero, flat_cons, flat_cons, Nat.zero_mul, List.take_zero, List.nil_append, Nat.zero_add, List.drop_append, hx]
      simp [List.drop_of_length_le (Nat.le_of_eq hx)]
    | succ i =>
      have ih := flat_set (fun y hy => hz y (List.mem_cons_of_mem _ hy)) i e he (by simpa using h)
      rw [List.set_cons_succ, flat_cons, ih, flat_cons, Nat.add_mul, Nat.one_mul, List.take_append, List.drop_append, hx]
      rw [List.take_of_length_le (l := x.cells) (by rw [hx]; omega), List.drop_of_length_le (l := x.cells) (by rw [hx]; omega)]
      rw [show i * sz + sz - sz = i * sz by omega, show i * sz + sz + sz - sz = i * sz + sz by omega]
      simp

theorem take_splice {α : Type} (l us : List α) (k n : Nat) (h : k + us.length ≤ n) (hn : n ≤ l.length) : (l.take k ++ us ++ l.drop (k + us.length)).take n = (l.take n).take k ++ us ++ (l.take n).drop (k + us.length) := by
  have e : (l.take k ++ us).length = k + us.length := by simp; omega
  rw [List.take_append, e, List.take_of_length_le (l := l.take k ++ us) (by omega), List.take_take, Nat.min_eq_left (by omega), List.drop_take]

/-- The memory behind a store into a row of ours that stays where it is. -/
theorem MR.rowset {G : Gh} {m : Mem} {w w' : World} (h : MR G m w) {l s g sz b : Nat} {xs ys : List AV} (hx : look m l s = .vec g sz xs) (hb : G.vm l s = some b) (ht : Turned b w w') (hel : Elems sz ys) (hr : RowIs G s w' b (G.vc l s) sz ys) :
    MR G (Am.put m l s (.vec g sz ys)) w' where
  stab k o v e := by
    have hk : k ≠ b := by rintro rfl; rw [(h.vm l s k hb).2 o] at e; cases e
    rw [ht.cell hk]
    exact h.stab k o v e
  cells l' s' zs e := by
    by_cases hh : l' = l ∧ s' = s
    · obtain ⟨rfl, rfl⟩ := hh
      rw [look_put_same (look_lt (by rw [hx]; simp))] at e
      cases e
    · rw [look_put_ne (by omega)] at e
      obtain ⟨b', cs', e', hc, hr⟩ := h.cells l' s' zs e
      exact ⟨b', cs', e', hc.of (ht.heap b' (fun eb => by subst eb; exact h.inj3 _ _ _ _ _ e' hb)), hr⟩
  nm l' s' b' e := by
    obtain ⟨⟨zs, hz⟩, h2⟩ := h.nm l' s' b' e
    refine ⟨?_, h2⟩
    by_cases hh : l' = l ∧ s' = s
    · obtain ⟨rfl, rfl⟩ := hh
      rw [hx] at hz; cases hz
    · exact ⟨zs, by rw [look_put_ne (by omega)]; exact hz⟩
  vec l' s' g' sz' zs e := by
    by_cases hh : l' = l ∧ s' = s
    · obtain ⟨rfl, rfl⟩ := hh
      rw [look_put_same (look_lt (by rw [hx]; simp))] at e
      cases e
      obtain ⟨a1, a2, a3, a4⟩ := h.vec l' s' g sz xs hx
      exact ⟨a1, a2, hel, .inr ⟨b, hb, hr⟩⟩
    · rw [look_put_ne (by omega)] at e
      obtain ⟨a1, a2, a3, a4⟩ := h.vec l' s' g' sz' zs e
      refine ⟨a1, a2, a3, a4.imp id fun ⟨b', e', r⟩ => ⟨b', e', r.of (ht.heap b' ?_) fun _ h => h⟩⟩
      rintro rfl
      exact hh (h.inj2 _ _ _ _ _ e' hb)
  vm l' s' b' e := by
    obtain ⟨⟨g', sz', zs, hz⟩, h2⟩ := h.vm l' s' b' e
    refine ⟨?_, h2⟩
    by_cases hh : l' = l ∧ s' = s
    · obtain ⟨rfl, rfl⟩ := hh
      exact ⟨g, sz, ys, look_put_same (look_lt (by rw [hx]; simp))⟩
    · exact ⟨g', sz', zs, by rw [look_put_ne (by omega)]; exact hz⟩
  gone l' s' e := by
    by_cases hh : l' = l ∧ s' = s
    · obtain ⟨rfl, rfl⟩ := hh
      rw [look_put_same (look_lt (by rw [hx]; simp))] at e
      cases e
    · rw [look_put_ne (by omega)] at e
      exact h.gone l' s' e
  inj1 := h.inj1
  inj2 := h.inj2
  inj3 := h.inj3

section
variable {P : Program} {N : Nat} {st : St} {Q : St → Prop}

theorem flatMap_leaf {xs : List AV} (h : (flat xs).all AV.leaf = true) {e : AV} (he : e ∈ xs) : e.cells.all AV.leaf = true :=
  leaf_sub h fun _ hx => List.mem_flatMap.2 ⟨e, he, hx⟩

theorem run_storeAt {t : TypeId} {i : TypeInfo} (hi : P.info? t = some i) {b o : Nat} {v : Value} {w : World} (hs : v.cells.size = i.size) : (Instr.storeAt t (.pointer (some ⟨b, o, none⟩)) v).run P w = (storeCells ⟨b, o, none⟩ v.cells.toList).run P w := by
  simp only [Instr.storeAt, Instr.sureAddr, Sem.run_bind, Sem.run_pure, Result.andThen_ok, storeVar, run_sizeOf hi]
  rw [if_neg (by omega)]

theorem AOps.store {d : Option Nat} {n : Nat} {p r : RA} {its : List Item} {m' : Mem} (hn : (r.ev st.f).cells.length = n) (hl : (r.ev st.f).cells.all AV.leaf = true) (hm : astore st.m (p.ev st.f) (r.ev st.f).cells = some m')
    (h : AOps P N its { st with m := m', f := updO st.f d (.tup []) } Q) : AOps P N (⟨d, .store n p r, none⟩ :: its) st Q := by
  refine AOps.step rfl fun G B a w o hr hd hdN hc K QQ hK => ?_
  cases ho : o.op <;> rw [ho] at hc <;> simp only [chkRO, Bool.false_eq_true, Bool.and_eq_true, Option.any_eq_true, beq_iff_eq] at hc
  rename_i t q x
  obtain ⟨⟨⟨i, hi, hin⟩, hcp⟩, hcr⟩ := hc
  have rp := chkA_ok hr hcp
  have rx := (chkA_ok hr hcr).cells hl
  have hsz : (a.eval x).cells.size = i.size := by
    have := rx.length
    simp only [Array.length_toList] at this
    omega
  have h1 : ∀ u ∈ (a.eval x).cells.toList, u.oneCell' = true := rx.leaves hl
  have fin : ∀ w', (Instr.storeAt t (a.eval q) (a.eval x)).run P w = .ok () w' → (∃ G', Rel G' B N { st with m := m' } a w' ∧ Ext 1 G w G' w') → o.wp P a w K QQ := by
    intro w' hrun ⟨G', hr', he⟩
    have hexec : (execOp a.eval o).run P w = .ok .skip w' := by
      simp only [execOp, ho, Sem.run_bind, hrun, Result.andThen_ok, Sem.run_pure]
    unfold Oper.wp
    rw [hexec]
    have hd' : o.dst = d := hd
    show K (a.put o.dst undef) w'
    rw [hd']
    exact hK G' _ _ w' h (hr'.put hdN (v := undef) (.tup .nil)) he
  generalize hp : p.ev st.f = pv at rp hm
  cases pv with
  | ptr l s off =>
    simp only [astore] at hm
    split at hm
    · rename_i xs hlk
      split at hm
      · rename_i hfit
        split at hm
        · rename_i zs hzs
          cases hm
          generalize hq : a.eval q = qv at rp fin
          cases rp with
          | ptr hb =>
            obtain ⟨b, cs, hb', hsoft, hrep⟩ := hr.mr.cells l s xs hlk
            rw [hb] at hb'
            cases hb'
            have hlen := rx.length
            have hxl := hrep.length
            simp only [Array.length_toList] at hlen hxl
            obtain ⟨w', hst, hs', htn⟩ := run_storeCells_soft P _ _ off (a.eval x).cells.toList 0 w cs hsoft (by simp only [Array.length_toList]; omega) h1
            refine fin w' (by rw [run_storeAt hi hsz]; exact hst) ⟨G, ⟨?_, hr.size, hr.slots, hr.ds, hr.base, by rw [htn.size]; exact hr.top, put_ne hr.ne⟩, Ext.turned htn (.inl ⟨l, s, hb⟩)⟩
            refine hr.mr.stored hlk hb htn hs' ?_
            have := hrep.splice (rx.unNL l hzs) off
            simpa using this
        · cases hm
      · cases hm
    · cases hm
  | vptr l s g i' off =>
    simp only [astore] at hm
    split at hm
    · rename_i g' sz xs hlk
      split at hm
      · rename_i hgg
        subst hgg
        split at hm
        · rename_i e he
          split at hm
          · rename_i hfit
            obtain ⟨hfit, hne0, hrf⟩ := hfit
            cases hm
            generalize hq : a.eval q = qv at rp fin
            cases rp with
            | vptr hv hg hh =>
              obtain ⟨e1, e2, e3, e4⟩ := hr.mr.vec l s g sz xs hlk
              obtain ⟨b, hb, rfl⟩ := hh e1.symm
              rcases e4 with ⟨e4, _⟩ | ⟨b', e4, hrow⟩
              · rw [hb] at e4; cases e4
              · rw [hb] at e4; cases e4
                obtain ⟨⟨cur, hsoft, hcs, hrep⟩, hle, hmax⟩ := hrow
                have hlen := rx.length
                simp only [Array.length_toList] at hlen
                have hilt := (List.getElem?_eq_some_iff.1 he).1
                have hmem := List.mem_of_getElem? he
                have hesz := e3.size e hmem
                have hbig : i' * sz + sz ≤ xs.length * sz := by
                  have : (i' + 1) * sz ≤ xs.length * sz := Nat.mul_le_mul_right _ hilt
                  rwa [Nat.add_mul, Nat.one_mul] at this
                have hbig2 : xs.length * sz ≤ cur.size := by rw [hcs]; exact Nat.mul_le_mul_right _ hle
                obtain ⟨w', hst, hs', htn⟩ := run_storeCells_soft P _ b (i' * sz + off) (a.eval x).cells.toList 0 w cur hsoft (by simp only [Array.length_toList]; omega) h1
                have hel' : e.cells.all AV.leaf = true := flatMap_leaf e3.leaf hmem
                have hnc := newElem_cells hel' hfit hl hne0
                have hncl : (newElem e off (r.ev st.f).cells).cells.length = sz := by rw [hnc, splice_length hfit, hesz]
                have hfl := flat_set e3.size i' (newElem e off (r.ev st.f).cells) hncl hilt
                have hflx := flat_length e3.size
                have hsub : ((flat xs).drop (i' * sz)).take sz = e.cells := by
                  rw [flat_drop e3.size]
                  have h2 : xs.drop i' = e :: xs.drop (i' + 1) := by
                    rw [List.drop_eq_getElem_cons hilt]
                    congr 1
                    exact (List.getElem?_eq_some_iff.1 he).2
                  rw [h2, flat_cons, List.take_append, hesz]
                  simp [List.take_of_length_le (Nat.le_of_eq hesz)]
                have hfl2 : flat (xs.set i' (newElem e off (r.ev st.f).cells)) = splice (flat xs) (i' * sz + off) (r.ev st.f).cells := by
                  rw [hfl, hnc]
                  simp only [splice]
                  rw [← hsub]
                  simp only [List.append_assoc, List.take_take, List.drop_take, List.drop_drop]
                  rw [List.take_add (i := i' * sz) (j := off)]
                  simp only [List.append_assoc]
                  congr 1
                  rw [Nat.min_eq_left (by omega)]
                  congr 2
                  have e5 : (flat xs).drop (i' * sz + off + (r.ev st.f).cells.length) = (((flat xs).drop (i' * sz + (off + (r.ev st.f).cells.length))).take (sz - (off + (r.ev st.f).cells.length))) ++ (flat xs).drop (i' * sz + sz) := by
                    have := List.take_append_drop (sz - (off + (r.ev st.f).cells.length)) ((flat xs).drop (i' * sz + (off + (r.ev st.f).cells.length)))
                    rw [List.drop_drop] at this
                    rw [show i' * sz + (off + (r.ev st.f).cells.length) + (sz - (off + (r.ev st.f).cells.length)) = i' * sz + sz by omega] at this
                    rw [this, Nat.add_assoc]
                  rw [e5]
                have hels : Elems sz (xs.set i' (newElem e off (r.ev st.f).cells)) := by
                  refine ⟨fun y hy => ?_, ?_, ?_⟩
                  · rcases List.mem_or_eq_of_mem_set hy with hy | rfl
                    · exact e3.size y hy
                    · exact hncl
                  · rw [hfl2]
                    simp only [splice, rfL_append, Bool.and_eq_true]
                    exact ⟨⟨rfL_sub e3.rf fun y hy => List.mem_of_mem_take hy, hrf⟩, rfL_sub e3.rf fun y hy => List.mem_of_mem_drop hy⟩
                  · rw [hfl2]
                    simp only [splice, List.all_append, Bool.and_eq_true]
                    exact ⟨⟨leaf_sub e3.leaf fun y hy => List.mem_of_mem_take hy, hl⟩, leaf_sub e3.leaf fun y hy => List.mem_of_mem_drop hy⟩
                refine fin w' (by rw [run_storeAt hi hsz, e2]; exact hst) ⟨G, ⟨?_, hr.size, hr.slots, hr.ds, hr.base, by rw [htn.size]; exact hr.top, put_ne hr.ne⟩, Ext.turned htn (.inr ⟨l, s, hb⟩)⟩
                refine hr.mr.rowset hlk hb htn hels ⟨⟨_, hs', ?_, ?_⟩, by simpa using hle, hmax⟩
                · simp only [List.size_toArray, List.length_append, List.length_take, List.length_drop, Array.length_toList]
                  omega
                · rw [hfl2, List.length_set]
                  have h5 := hrep.splice rx (i' * sz + off)
                  have h6 : (cur.toList.take (i' * sz + off + 0) ++ (a.eval x).cells.toList ++ cur.toList.drop (i' * sz + off + 0 + (a.eval x).cells.toList.length)).toArray.toList.take (xs.length * sz) = (cur.toList.take (xs.length * sz)).take (i' * sz + off) ++ (a.eval x).cells.toList ++ (cur.toList.take (xs.length * sz)).drop (i' * sz + off + (a.eval x).cells.toList.length) := by
                    simp only [Nat.add_zero]
                    exact take_splice _ _ _ _ (by simp only [Array.length_toList]; omega) (by simp only [Array.length_toList]; omega)
                  rw [h6]
                  exact h5
          · cases hm
        · cases hm
      · cases hm
    · cases hm
  | _ => simp [astore] at hm

end

end Go.Proofs.Ytcmdlmcmefbkeaa.Am

/- A variable at a site where none lies; a variable that is forgotten. -/
import Derived.Test.YtcmdlmcmefbkeaaAmn
namespace Go.Proofs.Ytcmdlmcmefbkeaa.Am
open Go

/-- No object lies there. -/
def noOb (m : Mem) (s : Nat) : Bool :=
  match look m 0 s with
  | .none => true
  | _ => false

/-- A new variable at a site where none lies. -/
theorem Rel.freshN {G : Gh} {B N : Nat} {st : St} {a : Act} {w : World} (h : Rel G B N st a w) (s : Nat) (hno : noOb st.m s = true) {l : List AV} {cs : Array Value} (hl : RepL G l cs.toList) (t : TypeId) (hty : tyOk s t = true) :
    Rel (G.fresh s w.heap.size) B N { st with m := Am.put st.m 0 s (.cells l) } a (w.alloc (.cells cs t)) ∧ Ext 1 G w (G.fresh s w.heap.size) (w.alloc (.cells cs t)) := by
  have hlk : look st.m 0 s = .none := by
    unfold noOb at hno
    split at hno
    · assumption
    · cases hno
  have hnm0 : G.nm 0 s = none := by
    cases hg : G.nm 0 s with
    | none => rfl
    | some b => obtain ⟨⟨xs, hx⟩, _⟩ := h.mr.nm 0 s b hg; rw [hlk] at hx; cases hx
  have hnew : Gle G (G.fresh s w.heap.size) := by
    refine ⟨fun _ _ _ h => h, fun l' t b e => ?_, fun _ _ => Nat.le_refl _, fun _ _ _ => ⟨rfl, rfl, rfl⟩⟩
    show (if l' = 0 ∧ t = s then some w.heap.size else G.nm l' t) = some b
    rw [if_neg]
    · exact e
    · rintro ⟨rfl, rfl⟩
      rw [hnm0] at e; cases e
  have hold : ∀ k, k < w.heap.size → (w.alloc (.cells cs t)).heap[k]? = w.heap[k]? := fun k hk => RowKit.Below.heap_alloc w _ k hk
  have hnm : ∀ l' s' b', (G.fresh s w.heap.size).nm l' s' = some b' → (l' = 0 ∧ s' = s ∧ b' = w.heap.size) ∨ (¬ (l' = 0 ∧ s' = s) ∧ G.nm l' s' = some b' ∧ b' < w.heap.size) := by
    intro l' s' b' e
    simp only [Gh.fresh] at e
    split at e
    · rename_i hh; cases e; exact .inl ⟨hh.1, hh.2, rfl⟩
    · rename_i hh; exact .inr ⟨hh, e, (h.mr.mine (.inl ⟨_, _, e⟩)).1⟩
  have hvm : ∀ l' s' b', (G.fresh s w.heap.size).vm l' s' = some b' → ¬ (l' = 0 ∧ s' = s) ∧ G.vm l' s' = some b' ∧ b' < w.heap.size := by
    intro l' s' b' e
    have e : G.vm l' s' = some b' := e
    refine ⟨?_, e, (h.mr.mine (.inr ⟨_, _, e⟩)).1⟩
    rintro ⟨rfl, rfl⟩
    obtain ⟨⟨g, sz, xs, hx⟩, _⟩ := h.mr.vm 0 s' b' e
    rw [hlk] at hx; cases hx
  have hst : ∀ o, G.stab w.heap.size o = none := by
    intro o
    cases hs : G.stab w.heap.size o with
    | none => rfl
    | some v =>
      have := h.mr.stab _ _ _ hs
      have := World.block_lt_of_cell? w _ this
      simp at this
  have hlook : ∀ l' s', ¬ (l' = 0 ∧ s' = s) → look (Am.put st.m 0 s (.cells l)) l' s' = look st.m l' s' := by
    intro l' s' hh
    rw [look_put_ne (by omega)]
  have hlook0 : look (Am.put st.m 0 s (.cells l)) 0 s = .cells l := look_put_same (List.length_pos_iff.2 h.ne)
  refine ⟨⟨⟨?_, ?_, ?_, ?_, ?_, ?_, ?_, ?_, ?_⟩, h.size, fun i => (h.slots i).mono hnew, h.ds.mono hnew, ?_, ?_, put_ne h.ne⟩, ?_⟩
  · intro b o v e
    have hlt := World.block_lt_of_cell? w _ (h.mr.stab b o v e)
    rw [World.cell?_alloc_lt w _ _ hlt]
    exact h.mr.stab b o v e
  · intro l' s' zs e
    by_cases hh : l' = 0 ∧ s' = s
    · obtain ⟨rfl, rfl⟩ := hh
      rw [hlook0] at e
      cases e
      exact ⟨w.heap.size, cs, by simp [Gh.fresh], Soft.new w cs t hty, hl.mono hnew⟩
    · rw [hlook l' s' hh] at e
      obtain ⟨b', cs', e', hc, hr⟩ := h.mr.cells l' s' zs e
      exact ⟨b', cs', (if_neg (t := some w.heap.size) hh).trans e', hc.of (hold _ hc.lt), hr.mono (hnew.dn l')⟩
  · intro l' s' b' e
    rcases hnm l' s' b' e with ⟨rfl, rfl, rfl⟩ | ⟨hh, e', hlt⟩
    · exact ⟨⟨_, hlook0⟩, hst⟩
    · obtain ⟨⟨zs, hz⟩, h2⟩ := h.mr.nm l' s' b' e'
      refine ⟨?_, h2⟩
      rw [hlook l' s' hh, hz]
      exact ⟨_, rfl⟩
  · intro l' s' g sz zs e
    by_cases hh : l' = 0 ∧ s' = s
    · obtain ⟨rfl, rfl⟩ := hh
      rw [hlook0] at e
      cases e
    · rw [hlook l' s' hh] at e
      obtain ⟨a1, a2, a3, a4⟩ := h.mr.vec l' s' g sz zs e
      refine ⟨a1, a2, a3, a4.imp id fun ⟨b', e', r⟩ => ⟨b', e', r.of (hold _ ?_) fun vs hv => RepL.rfd (G := G) (G' := G.fresh s w.heap.size) (fun _ _ _ h => h) a3.rf hv⟩⟩
      exact (h.mr.mine (.inr ⟨_, _, e'⟩)).1
  · intro l' s' b' e
    obtain ⟨hh, e', hlt⟩ := hvm l' s' b' e
    obtain ⟨⟨g, sz, zs, hz⟩, h2⟩ := h.mr.vm l' s' b' e'
    refine ⟨?_, h2⟩
    rw [hlook l' s' hh, hz]
    exact ⟨_, _, _, rfl⟩
  · intro l' s' e
    by_cases hh : l' = 0 ∧ s' = s
    · obtain ⟨rfl, rfl⟩ := hh
      exact h.mr.gone 0 s' (by rw [hlk]; rfl)
    · rw [hlook l' s' hh] at e
      exact h.mr.gone l' s' e
  · intro l1 s1 l2 s2 b' e1 e2
    rcases hnm l1 s1 b' e1 with ⟨rfl, rfl, rfl⟩ | ⟨hh, e', hlt⟩ <;> rcases hnm l2 s2 _ e2 with ⟨rfl, rfl, hb⟩ | ⟨hh2, e2', hlt2⟩
    · exact ⟨rfl, rfl⟩
    · omega
    · omega
    · exact h.mr.inj1 _ _ _ _ _ e' e2'
  · intro l1 s1 l2 s2 b' e1 e2
    exact h.mr.inj2 _ _ _ _ _ (hvm _ _ _ e1).2.1 (hvm _ _ _ e2).2.1
  · intro l1 s1 l2 s2 b' e1 e2
    obtain ⟨_, e2', hlt⟩ := hvm _ _ _ e2
    rcases hnm l1 s1 b' e1 with ⟨rfl, rfl, rfl⟩ | ⟨hh, e', _⟩
    · omega
    · exact h.mr.inj3 _ _ _ _ _ e' e2'
  · intro s' b' e
    rcases e with e | e
    · rcases hnm 0 s' b' e with ⟨_, _, rfl⟩ | ⟨_, e', _⟩
      · exact h.top
      · exact h.base s' b' (.inl e')
    · exact h.base s' b' (.inr (hvm _ _ _ e).2.1)
  · have := h.top; simp; omega
  · refine ⟨rfl, rfl, rfl, by simp, fun _ _ _ h => h, fun l' s' hl' => ?_, hnew.vg, hnew.vs, fun b hb _ => ⟨hold b hb, fun _ => rfl⟩, fun b hb => ?_, fun _ _ _ h => .inl h⟩
    · simp only [Gh.fresh]; rw [if_neg (by omega)]
    · rcases hb with ⟨l', s', e⟩ | ⟨l', s', e⟩
      · rcases hnm l' s' b e with ⟨_, _, rfl⟩ | ⟨_, e', _⟩
        · exact .inr (Nat.le_refl _)
        · exact .inl (.inl ⟨_, _, e'⟩)
      · exact .inl (.inr ⟨_, _, (hvm _ _ _ e).2.1⟩)

/-- A variable of the frame is forgotten. -/
def Gh.drop (G : Gh) (s : Nat) : Gh :=
  { G with nm := fun l t => if l = 0 ∧ t = s then none else G.nm l t }

def St.drop (st : St) (s : Nat) : St :=
  { f := fun i => (st.f i).scrub s, m := Am.put (scrubM s st.m) 0 s .none, ds := st.ds.map (DF.scrub s) }

theorem Rel.drop {G : Gh} {B N : Nat} {st : St} {a : Act} {w : World} (h : Rel G B N st a w) (s : Nat) (hrow : noRow st.m s = true) :
    Rel (G.drop s) B N (st.drop s) a w ∧ Ext 1 G w (G.drop s) w := by
  have hnew : Gnew s G (G.drop s) := by
    refine ⟨fun _ _ _ h => h, fun l t b hh e => ?_, fun _ _ => Nat.le_refl _, fun _ _ _ => ⟨rfl, rfl, rfl⟩⟩
    show (if l = 0 ∧ t = s then none else G.nm l t) = some b
    rw [if_neg (fun k => hh k.1 k.2)]; exact e
  have hdn : ∀ l, Gle (G.dn (l + 1)) ((G.drop s).dn (l + 1)) := fun l => by
    refine ⟨fun _ _ _ h => h, fun i t b e => ?_, fun _ _ => Nat.le_refl _, fun _ _ _ => ⟨rfl, rfl, rfl⟩⟩
    show (if i + (l + 1) = 0 ∧ t = s then none else G.nm (i + (l + 1)) t) = some b
    rw [if_neg (by omega)]; exact e
  have hnm : ∀ l' s' b', (G.drop s).nm l' s' = some b' → ¬ (l' = 0 ∧ s' = s) ∧ G.nm l' s' = some b' := by
    intro l' s' b' e
    have e : (if l' = 0 ∧ s' = s then none else G.nm l' s') = some b' := e
    split at e
    · cases e
    · rename_i hh; exact ⟨hh, e⟩
  have hlook : ∀ l' s', ¬ (l' = 0 ∧ s' = s) → look (st.drop s).m l' s' = if l' = 0 then (look st.m l' s').scrub s else look st.m l' s' := by
    intro l' s' hh
    show look (Am.put (scrubM s st.m) 0 s _) l' s' = _
    rw [look_put_ne (by omega)]
    cases l' with
    | zero => rw [look_scrub_zero]; rfl
    | succ l' => rw [look_scrub_succ]; rfl
  have hlook0 : look (st.drop s).m 0 s = .none := by
    show look (Am.put (scrubM s st.m) 0 s _) 0 s = _
    exact look_put_same (List.length_pos_iff.2 (scrubM_ne h.ne))
  refine ⟨⟨⟨h.mr.stab, ?_, ?_, ?_, ?_, ?_, ?_, h.mr.inj2, ?_⟩, h.size, fun i => (h.slots i).scrub hnew, h.ds.scrub hnew, ?_, h.top, put_ne (scrubM_ne h.ne)⟩, ?_⟩
  · intro l' s' zs e
    by_cases hh : l' = 0 ∧ s' = s
    · obtain ⟨rfl, rfl⟩ := hh
      rw [hlook0] at e
      cases e
    · rw [hlook l' s' hh] at e
      cases l' with
      | zero =>
        rw [if_pos rfl] at e
        obtain ⟨ys, e1, rfl⟩ := Ob.scrub_cells e
        obtain ⟨b', cs', e', hc, hr⟩ := h.mr.cells 0 s' ys e1
        exact ⟨b', cs', (if_neg (t := none) hh).trans e', hc, hr.scrub hnew⟩
      | succ l' =>
        rw [if_neg (by omega)] at e
        obtain ⟨b', cs', e', hc, hr⟩ := h.mr.cells (l' + 1) s' zs e
        exact ⟨b', cs', (if_neg (t := none) hh).trans e', hc, hr.mono (hdn l')⟩
  · intro l' s' b' e
    obtain ⟨hh, e'⟩ := hnm l' s' b' e
    obtain ⟨⟨zs, hz⟩, h2⟩ := h.mr.nm l' s' b' e'
    refine ⟨?_, h2⟩
    rw [hlook l' s' hh, hz]
    cases l' with
    | zero => exact ⟨_, rfl⟩
    | succ l' => exact ⟨_, rfl⟩
  · intro l' s' g sz zs e
    by_cases hh : l' = 0 ∧ s' = s
    · obtain ⟨rfl, rfl⟩ := hh
      rw [hlook0] at e
      cases e
    · rw [hlook l' s' hh] at e
      have e1 : look st.m l' s' = .vec g sz zs := by
        cases l' with
        | zero => rw [if_pos rfl] at e; exact Ob.scrub_vec e
        | succ l' => rwa [if_neg (by omega)] at e
      obtain ⟨a1, a2, a3, a4⟩ := h.mr.vec l' s' g sz zs e1
      exact ⟨a1, a2, a3, a4.imp id fun ⟨b', e', r⟩ => ⟨b', e', r.of rfl fun vs hv => RepL.rfd (G := G) (G' := G.drop s) (fun _ _ _ h => h) a3.rf hv⟩⟩
  · intro l' s' b' e
    obtain ⟨⟨g, sz, zs, hz⟩, h2⟩ := h.mr.vm l' s' b' e
    have hh : ¬ (l' = 0 ∧ s' = s) := by
      rintro ⟨rfl, rfl⟩
      simp [noRow, hz] at hrow
    refine ⟨?_, h2⟩
    rw [hlook l' s' hh, hz]
    cases l' with
    | zero => exact ⟨_, _, _, rfl⟩
    | succ l' => exact ⟨_, _, _, rfl⟩
  · intro l' s' e
    by_cases hh : l' = 0 ∧ s' = s
    · obtain ⟨rfl, rfl⟩ := hh
      show G.vg 0 s' = 0
      refine h.mr.gone 0 s' ?_
      revert hrow
      unfold noRow
      cases look st.m 0 s' <;> intro hrow <;> first | rfl | cases hrow
    · rw [hlook l' s' hh] at e
      refine h.mr.gone l' s' ?_
      cases l' with
      | zero =>
        rw [if_pos rfl] at e
        cases hl' : look st.m 0 s' <;> rw [hl'] at e <;> first | rfl | cases e
      | succ l' => rwa [if_neg (by omega)] at e
  · intro l1 s1 l2 s2 b' e1 e2
    exact h.mr.inj1 _ _ _ _ _ (hnm _ _ _ e1).2 (hnm _ _ _ e2).2
  · intro l1 s1 l2 s2 b' e1 e2
    exact h.mr.inj3 _ _ _ _ _ (hnm _ _ _ e1).2 e2
  · intro s' b' e
    rcases e with e | e
    · exact h.base s' b' (.inl (hnm _ _ _ e).2)
    · exact h.base s' b' (.inr e)
  · refine ⟨rfl, rfl, rfl, Nat.le_refl _, fun _ _ _ h => h, fun l' s' hl' => ?_, hnew.vg, hnew.vs, fun b hb _ => ⟨rfl, fun _ => rfl⟩, fun b hb => ?_, fun _ _ _ h => .inl h⟩
    · show (if l' = 0 ∧ s' = s then none else G.nm l' s') = G.nm l' s'
      rw [if_neg (by omega)]
    · rcases hb with ⟨l', s', e⟩ | ⟨l', s', e⟩
      · exact .inl (.inl ⟨_, _, (hnm _ _ _ e).2⟩)
      · exact .inl (.inr ⟨_, _, e⟩)

section
variable {P : Program} {N : Nat} {st : St} {Q : St → Prop}

theorem AOps.allocN {d : Option Nat} {s : Nat} {z : List AV} {its : List Item} (hn : noOb st.m s = true) (h : AOps P N its { st with m := Am.put st.m 0 s (.cells z), f := updO st.f d (.ptr 0 s 0) } Q) : AOps P N (⟨d, .allocN s z, none⟩ :: its) st Q := by
  refine AOps.step rfl fun G B a w o hr hd hdN hc K QQ hK => ?_
  cases ho : o.op <;> rw [ho] at hc <;> simp only [chkRO, Bool.false_eq_true] at hc
  rename_i e
  split at hc
  · rename_i i hi
    split at hc
    · rename_i zv hz
      rw [Bool.and_eq_true] at hc
      obtain ⟨hr', he⟩ := hr.freshN s hn (l := z) (cs := zv.cells) (isCL_ok hc.1) e hc.2
      have hrun : (execOp a.eval o).run P w = .ok (.value (.pointer (some ⟨w.heap.size, 0, none⟩))) (w.alloc (.cells zv.cells e)) := by
        simp only [execOp, ho, Instr.alloc, zeroValue, typeInfo, Sem.run_bind, run_program, Result.andThen_ok, hi, Sem.run_pure, hz, newVar, newRow, run_newObj]
        rfl
      unfold Oper.wp
      rw [hrun]
      have hd' : o.dst = d := hd
      show K (a.put o.dst _) _
      rw [hd']
      refine hK _ _ _ _ h (hr'.put hdN (.ptr ?_)) he
      show (if (0 : Nat) = 0 ∧ s = s then some w.heap.size else G.nm 0 s) = some w.heap.size
      simp
    · cases hc
  · cases hc

theorem AOps.boxN {d : Option Nat} {s : Nat} {r : RA} {its : List Item} (hn : noOb st.m s = true) (hl : (r.ev st.f).cells.all AV.leaf = true) (h : AOps P N its { st with m := Am.put st.m 0 s (.cells (r.ev st.f).cells), f := updO st.f d (.ptr 0 s 0) } Q) :
    AOps P N (⟨d, .boxN s r, none⟩ :: its) st Q := by
  refine AOps.step rfl fun G B a w o hr hd hdN hc K QQ hK => ?_
  cases ho : o.op <;> rw [ho] at hc <;> simp only [chkRO, Bool.false_eq_true] at hc
  rename_i e x
  rw [Bool.and_eq_true] at hc
  obtain ⟨hr', he⟩ := hr.freshN s hn ((chkA_ok hr hc.1).cells hl) e hc.2
  have hrun : (execOp a.eval o).run P w = .ok (.value (.pointer (some ⟨w.heap.size, 0, none⟩))) (w.alloc (.cells (a.eval x).cells e)) := by
    simp only [execOp, ho, Instr.box, newVar, newRow, Sem.run_bind, run_newObj, Result.andThen_ok, Sem.run_pure]
    rfl
  unfold Oper.wp
  rw [hrun]
  have hd' : o.dst = d := hd
  show K (a.put o.dst _) _
  rw [hd']
  refine hK _ _ _ _ h (hr'.put hdN (.ptr ?_)) he
  show (if (0 : Nat) = 0 ∧ s = s then some w.heap.size else G.nm 0 s) = some w.heap.size
  simp

end

end Go.Proofs.Ytcmdlmcmefbkeaa.Am

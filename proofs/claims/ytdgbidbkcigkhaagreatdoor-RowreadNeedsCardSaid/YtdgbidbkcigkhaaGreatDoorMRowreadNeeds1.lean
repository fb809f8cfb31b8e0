/- Parts of the proof, in order. -/
import Derived.Laws.MakeOwn
import Derived.Lib.UnsafeStr
import Derived.Laws.RangeString
import Derived.Lib.Bytealg
import Derived.Deep.LoopGhost
import Derived.Scope
import Derived.Orders
import Derived.ScopeJumps
import Derived.Defers
import Derived.Below
import Derived.ChangeSame
import Derived.ProofKit
import Derived.OpenShut
import Derived.ChangeArms
import Derived.Test.YtdgbidbkcigkhaaGreatDoorMRowreadNeeds0

namespace Go.Proofs.YtdgbidbkcigkhaaGreatDoor.Am
open Go

def noOb (m : Mem) (s : Nat) : Bool :=
  match look m 0 s with
  | .none => true
  | _ => false

theorem Rel.freshO {G : Gh} {B N : Nat} {st : St} {a : Act} {w : World} (h : Rel G B N st a w) (s : Nat) (hno : noOb st.m s = true) {ob : Ob} {x : Obj} (hvar : ob.isVar = true)
    (hcells : ∀ l, ob = .cells l → ∃ cs t, x = .cells cs t ∧ tyOk s t = true ∧ RepL G l cs.toList) (hiter : ∀ t p, ob = .iter t p → x = t.obj p) :
    Rel (G.fresh s w.heap.size) B N { st with m := Am.put st.m 0 s ob } a (w.alloc x) ∧ Ext 1 G w (G.fresh s w.heap.size) (w.alloc x) := by
  have hlk : look st.m 0 s = .none := by
    unfold noOb at hno
    split at hno
    · assumption
    · cases hno
  have hnm0 : G.nm 0 s = none := by
    cases hg : G.nm 0 s with
    | none => rfl
    | some b => obtain ⟨hx, _⟩ := h.mr.nm 0 s b hg; rw [hlk] at hx; cases hx
  have hnew : Gle G (G.fresh s w.heap.size) := by
    refine ⟨fun _ _ _ h => h, fun l' t b e => ?_, fun _ _ => Nat.le_refl _, fun _ _ _ => ⟨rfl, rfl, rfl⟩⟩
    show (if l' = 0 ∧ t = s then some w.heap.size else G.nm l' t) = some b
    rw [if_neg]
    · exact e
    · rintro ⟨rfl, rfl⟩
      rw [hnm0] at e; cases e
  have hold : ∀ k, k < w.heap.size → (w.alloc x).heap[k]? = w.heap[k]? := fun k hk => RowKit.Below.heap_alloc w _ k hk
  have hnm : ∀ l' s' b', (G.fresh s w.heap.size).nm l' s' = some b' → (l' = 0 ∧ s' = s ∧ b' = w.heap.size) ∨ (¬ (l' = 0 ∧ s' = s) ∧ G.nm l' s' = some b' ∧ b' < w.heap.size) := by
    intro l' s' b' e
    simp only [Gh.fresh] at e
    split at e
    · rename_i hh; cases e; exact .inl ⟨hh.1, hh.2, rfl⟩
    · rename_i hh; exact .inr ⟨hh, e, (h.mr.mine (.inl ⟨_, _, e⟩)).1⟩
  have hvm : ∀ l' s' b', (G.fresh s w.heap.size).vm l' s' = some b' → ¬ (l' = 0 ∧ s' = s) ∧ G.vm l' s' = some b' ∧ b' < w.heap.size := by
    intro l' s' b' e
    have e : G.vm l' s' = some b' := e
    refine ⟨?_, e, (h.mr.mine (.inr ⟨_, _, e⟩)).1⟩
    rintro ⟨rfl, rfl⟩
    obtain ⟨⟨g, sz, xs, hx⟩, _⟩ := h.mr.vm 0 s' b' e
    rw [hlk] at hx; cases hx
  have hst : ∀ o, G.stab w.heap.size o = none := by
    intro o
    cases hs : G.stab w.heap.size o with
    | none => rfl
    | some v =>
      have := rd_lt (h.mr.stab _ _ _ hs)
      simp at this
  have hlook : ∀ l' s', ¬ (l' = 0 ∧ s' = s) → look (Am.put st.m 0 s ob) l' s' = look st.m l' s' := by
    intro l' s' hh
    rw [look_put_ne (by omega)]
  have hlook0 : look (Am.put st.m 0 s ob) 0 s = ob := look_put_same (List.length_pos_iff.2 h.ne)
  refine ⟨⟨⟨?_, ?_, ?_, ?_, ?_, ?_, ?_, ?_, ?_, ?_⟩, h.size, fun i => (h.slots i).mono hnew, h.ds.mono hnew, ?_, ?_, put_ne h.ne⟩, ?_⟩
  · intro b o v e
    exact rd_block (hold b (rd_lt (h.mr.stab b o v e))) (h.mr.stab b o v e)
  · intro l' s' zs e
    by_cases hh : l' = 0 ∧ s' = s
    · obtain ⟨rfl, rfl⟩ := hh
      rw [hlook0] at e
      obtain ⟨cs, t, rfl, hty, hl⟩ := hcells zs e
      exact ⟨w.heap.size, cs, by simp [Gh.fresh], Soft.new w cs t hty, hl.mono hnew⟩
    · rw [hlook l' s' hh] at e
      obtain ⟨b', cs', e', hc, hr⟩ := h.mr.cells l' s' zs e
      exact ⟨b', cs', (if_neg (t := some w.heap.size) hh).trans e', hc.of (hold _ hc.lt), hr.mono (hnew.dn l')⟩
  · intro l' s' b' e
    rcases hnm l' s' b' e with ⟨rfl, rfl, rfl⟩ | ⟨hh, e', hlt⟩
    · exact ⟨by rw [hlook0]; exact hvar, hst⟩
    · obtain ⟨hz, h2⟩ := h.mr.nm l' s' b' e'
      refine ⟨?_, h2⟩
      rw [hlook l' s' hh]
      exact hz
  · intro l' s' g sz zs e
    by_cases hh : l' = 0 ∧ s' = s
    · obtain ⟨rfl, rfl⟩ := hh
      rw [hlook0] at e
      rw [e] at hvar; cases hvar
    · rw [hlook l' s' hh] at e
      obtain ⟨a1, a2, a3, a4⟩ := h.mr.vec l' s' g sz zs e
      refine ⟨a1, a2, a3, a4.imp id fun ⟨b', e', r⟩ => ⟨b', e', r.of (hold _ ?_) fun vs hv => RepL.rfd (G := G) (G' := G.fresh s w.heap.size) (fun _ _ _ h => h) a3.rf hv⟩⟩
      exact (h.mr.mine (.inr ⟨_, _, e'⟩)).1
  · intro l' s' b' e
    obtain ⟨hh, e', hlt⟩ := hvm l' s' b' e
    obtain ⟨⟨g, sz, zs, hz⟩, h2⟩ := h.mr.vm l' s' b' e'
    refine ⟨?_, h2⟩
    rw [hlook l' s' hh, hz]
    exact ⟨_, _, _, rfl⟩
  · intro l' s' e
    by_cases hh : l' = 0 ∧ s' = s
    · obtain ⟨rfl, rfl⟩ := hh
      exact h.mr.gone 0 s' (by rw [hlk]; rfl)
    · rw [hlook l' s' hh] at e
      exact h.mr.gone l' s' e
  · intro l1 s1 l2 s2 b' e1 e2
    rcases hnm l1 s1 b' e1 with ⟨rfl, rfl, rfl⟩ | ⟨hh, e', hlt⟩ <;> rcases hnm l2 s2 _ e2 with ⟨rfl, rfl, hb⟩ | ⟨hh2, e2', hlt2⟩
    · exact ⟨rfl, rfl⟩
    · omega
    · omega
    · exact h.mr.inj1 _ _ _ _ _ e' e2'
  · intro l1 s1 l2 s2 b' e1 e2
    exact h.mr.inj2 _ _ _ _ _ (hvm _ _ _ e1).2.1 (hvm _ _ _ e2).2.1
  · intro l1 s1 l2 s2 b' e1 e2
    obtain ⟨_, e2', hlt⟩ := hvm _ _ _ e2
    rcases hnm l1 s1 b' e1 with ⟨rfl, rfl, rfl⟩ | ⟨hh, e', _⟩
    · omega
    · exact h.mr.inj3 _ _ _ _ _ e' e2'
  · intro l' s' t p e
    by_cases hh : l' = 0 ∧ s' = s
    · obtain ⟨rfl, rfl⟩ := hh
      rw [hlook0] at e
      have hx := hiter t p e
      subst hx
      exact ⟨w.heap.size, by simp [Gh.fresh], heap_alloc_new w _⟩
    · rw [hlook l' s' hh] at e
      obtain ⟨b', e', hc⟩ := h.mr.iter l' s' t p e
      exact ⟨b', (if_neg (t := some w.heap.size) hh).trans e', (hold _ (h.mr.mine (.inl ⟨_, _, e'⟩)).1).trans hc⟩
  · intro s' b' e
    rcases e with e | e
    · rcases hnm 0 s' b' e with ⟨_, _, rfl⟩ | ⟨_, e', _⟩
      · exact h.top
      · exact h.base s' b' (.inl e')
    · exact h.base s' b' (.inr (hvm _ _ _ e).2.1)
  · have := h.top; simp; omega
  · refine ⟨rfl, rfl, rfl, by simp, fun _ _ _ h => h, fun l' s' hl' => ?_, hnew.vg, hnew.vs, fun b hb _ => ⟨hold b hb, fun _ => rfl⟩, fun b hb => ?_, fun l s _ h => .inl ⟨l, s, Nat.le_refl _, h⟩⟩
    · simp only [Gh.fresh]; rw [if_neg (by omega)]
    · rcases hb with ⟨l', s', e⟩ | ⟨l', s', e⟩
      · rcases hnm l' s' b e with ⟨_, _, rfl⟩ | ⟨_, e', _⟩
        · exact .inr (Nat.le_refl _)
        · exact .inl (.inl ⟨_, _, e'⟩)
      · exact .inl (.inr ⟨_, _, (hvm _ _ _ e).2.1⟩)

theorem Rel.freshN {G : Gh} {B N : Nat} {st : St} {a : Act} {w : World} (h : Rel G B N st a w) (s : Nat) (hno : noOb st.m s = true) {l : List AV} {cs : Array Value} (hl : RepL G l cs.toList) (t : TypeId) (hty : tyOk s t = true) :
    Rel (G.fresh s w.heap.size) B N { st with m := Am.put st.m 0 s (.cells l) } a (w.alloc (.cells cs t)) ∧ Ext 1 G w (G.fresh s w.heap.size) (w.alloc (.cells cs t)) :=
  h.freshO s hno rfl (fun _ e => by cases e; exact ⟨cs, t, rfl, hty, hl⟩) (fun _ _ e => by cases e)

def Gh.drop (G : Gh) (s : Nat) : Gh :=
  { G with nm := fun l t => if l = 0 ∧ t = s then none else G.nm l t }

def St.drop (st : St) (s : Nat) : St :=
  { f := fun i => (st.f i).scrub s, m := Am.put (scrubM s st.m) 0 s .none, ds := st.ds.map (DF.scrub s) }

theorem Rel.drop {G : Gh} {B N : Nat} {st : St} {a : Act} {w : World} (h : Rel G B N st a w) (s : Nat) (hrow : noRow st.m s = true) :
    Rel (G.drop s) B N (st.drop s) a w ∧ Ext 1 G w (G.drop s) w := by
  have hnew : Gnew s G (G.drop s) := by
    refine ⟨fun _ _ _ h => h, fun l t b hh e => ?_, fun _ _ => Nat.le_refl _, fun _ _ _ => ⟨rfl, rfl, rfl⟩⟩
    show (if l = 0 ∧ t = s then none else G.nm l t) = some b
    rw [if_neg (fun k => hh k.1 k.2)]; exact e
  have hdn : ∀ l, Gle (G.dn (l + 1)) ((G.drop s).dn (l + 1)) := fun l => by
    refine ⟨fun _ _ _ h => h, fun i t b e => ?_, fun _ _ => Nat.le_refl _, fun _ _ _ => ⟨rfl, rfl, rfl⟩⟩
    show (if i + (l + 1) = 0 ∧ t = s then none else G.nm (i + (l + 1)) t) = some b
    rw [if_neg (by omega)]; exact e
  have hnm : ∀ l' s' b', (G.drop s).nm l' s' = some b' → ¬ (l' = 0 ∧ s' = s) ∧ G.nm l' s' = some b' := by
    intro l' s' b' e
    have e : (if l' = 0 ∧ s' = s then none else G.nm l' s') = some b' := e
    split at e
    · cases e
    · rename_i hh; exact ⟨hh, e⟩
  have hlook : ∀ l' s', ¬ (l' = 0 ∧ s' = s) → look (st.drop s).m l' s' = if l' = 0 then (look st.m l' s').scrub s else look st.m l' s' := by
    intro l' s' hh
    show look (Am.put (scrubM s st.m) 0 s _) l' s' = _
    rw [look_put_ne (by omega)]
    cases l' with
    | zero => rw [look_scrub_zero]; rfl
    | succ l' => rw [look_scrub_succ]; rfl
  have hlook0 : look (st.drop s).m 0 s = .none := by
    show look (Am.put (scrubM s st.m) 0 s _) 0 s = _
    exact look_put_same (List.length_pos_iff.2 (scrubM_ne h.ne))
  refine ⟨⟨⟨h.mr.stab, ?_, ?_, ?_, ?_, ?_, ?_, h.mr.inj2, ?_, ?_⟩, h.size, fun i => (h.slots i).scrub hnew, h.ds.scrub hnew, ?_, h.top, put_ne (scrubM_ne h.ne)⟩, ?_⟩
  · intro l' s' zs e
    by_cases hh : l' = 0 ∧ s' = s
    · obtain ⟨rfl, rfl⟩ := hh
      rw [hlook0] at e
      cases e
    · rw [hlook l' s' hh] at e
      cases l' with
      | zero =>
        rw [if_pos rfl] at e
        obtain ⟨ys, e1, rfl⟩ := Ob.scrub_cells e
        obtain ⟨b', cs', e', hc, hr⟩ := h.mr.cells 0 s' ys e1
        exact ⟨b', cs', (if_neg (t := none) hh).trans e', hc, hr.scrub hnew⟩
      | succ l' =>
        rw [if_neg (by omega)] at e
        obtain ⟨b', cs', e', hc, hr⟩ := h.mr.cells (l' + 1) s' zs e
        exact ⟨b', cs', (if_neg (t := none) hh).trans e', hc, hr.mono (hdn l')⟩
  · intro l' s' b' e
    obtain ⟨hh, e'⟩ := hnm l' s' b' e
    obtain ⟨hz, h2⟩ := h.mr.nm l' s' b' e'
    refine ⟨?_, h2⟩
    rw [hlook l' s' hh]
    cases l' with
    | zero => rw [if_pos rfl, Ob.scrub_isVar]; exact hz
    | succ l' => rw [if_neg (by omega)]; exact hz
  · intro l' s' g sz zs e
    by_cases hh : l' = 0 ∧ s' = s
    · obtain ⟨rfl, rfl⟩ := hh
      rw [hlook0] at e
      cases e
    · rw [hlook l' s' hh] at e
      have e1 : look st.m l' s' = .vec g sz zs := by
        cases l' with
        | zero => rw [if_pos rfl] at e; exact Ob.scrub_vec e
        | succ l' => rwa [if_neg (by omega)] at e
      obtain ⟨a1, a2, a3, a4⟩ := h.mr.vec l' s' g sz zs e1
      exact ⟨a1, a2, a3, a4.imp id fun ⟨b', e', r⟩ => ⟨b', e', r.of rfl fun vs hv => RepL.rfd (G := G) (G' := G.drop s) (fun _ _ _ h => h) a3.rf hv⟩⟩
  · intro l' s' b' e
    obtain ⟨⟨g, sz, zs, hz⟩, h2⟩ := h.mr.vm l' s' b' e
    have hh : ¬ (l' = 0 ∧ s' = s) := by
      rintro ⟨rfl, rfl⟩
      simp [noRow, hz] at hrow
    refine ⟨?_, h2⟩
    rw [hlook l' s' hh, hz]
    cases l' with
    | zero => exact ⟨_, _, _, rfl⟩
    | succ l' => exact ⟨_, _, _, rfl⟩
  · intro l' s' e
    by_cases hh : l' = 0 ∧ s' = s
    · obtain ⟨rfl, rfl⟩ := hh
      show G.vg 0 s' = 0
      refine h.mr.gone 0 s' ?_
      revert hrow
      unfold noRow
      cases look st.m 0 s' <;> intro hrow <;> first | rfl | cases hrow
    · rw [hlook l' s' hh] at e
      refine h.mr.gone l' s' ?_
      cases l' with
      | zero =>
        rw [if_pos rfl] at e
        cases hl' : look st.m 0 s' <;> rw [hl'] at e <;> first | rfl | cases e
      | succ l' => rwa [if_neg (by omega)] at e
  · intro l1 s1 l2 s2 b' e1 e2
    exact h.mr.inj1 _ _ _ _ _ (hnm _ _ _ e1).2 (hnm _ _ _ e2).2
  · intro l1 s1 l2 s2 b' e1 e2
    exact h.mr.inj3 _ _ _ _ _ (hnm _ _ _ e1).2 e2
  · intro l' s' t p e
    by_cases hh : l' = 0 ∧ s' = s
    · obtain ⟨rfl, rfl⟩ := hh
      rw [hlook0] at e
      cases e
    · rw [hlook l' s' hh] at e
      have e1 : look st.m l' s' = .iter t p := by
        cases l' with
        | zero => rw [if_pos rfl] at e; exact Ob.scrub_iter e
        | succ l' => rwa [if_neg (by omega)] at e
      obtain ⟨b', e', hc⟩ := h.mr.iter l' s' t p e1
      exact ⟨b', (if_neg (t := none) hh).trans e', hc⟩
  · intro s' b' e
    rcases e with e | e
    · exact h.base s' b' (.inl (hnm _ _ _ e).2)
    · exact h.base s' b' (.inr e)
  · refine ⟨rfl, rfl, rfl, Nat.le_refl _, fun _ _ _ h => h, fun l' s' hl' => ?_, hnew.vg, hnew.vs, fun b hb _ => ⟨rfl, fun _ => rfl⟩, fun b hb => ?_, fun l s _ h => .inl ⟨l, s, Nat.le_refl _, h⟩⟩
    · show (if l' = 0 ∧ s' = s then none else G.nm l' s') = G.nm l' s'
      rw [if_neg (by omega)]
    · rcases hb with ⟨l', s', e⟩ | ⟨l', s', e⟩
      · exact .inl (.inl ⟨_, _, (hnm _ _ _ e).2⟩)
      · exact .inl (.inr ⟨_, _, e⟩)

section
variable {P : Program} {N : Nat} {st : St} {Q : St → Prop}

theorem AOps.allocN {d : Option Nat} {s : Nat} {z : List AV} {its : List Item} (hn : noOb st.m s = true) (h : AOps P N its { st with m := Am.put st.m 0 s (.cells z), f := updO st.f d (.ptr 0 s 0) } Q) : AOps P N (⟨d, .allocN s z, none⟩ :: its) st Q := by
  refine AOps.step rfl fun G B a w o hr hd hdN hc K QQ hK => ?_
  cases ho : o.op <;> rw [ho] at hc <;> simp only [chkRO, Bool.false_eq_true] at hc
  rename_i e
  split at hc
  · rename_i i hi
    split at hc
    · rename_i zv hz
      rw [Bool.and_eq_true] at hc
      obtain ⟨hr', he⟩ := hr.freshN s hn (l := z) (cs := zv.cells) (isCL_ok hc.1) e hc.2
      have hrun : (execOp a.eval o).run P w = .ok (.value (.pointer (some ⟨w.heap.size, 0, none⟩))) (w.alloc (.cells zv.cells e)) := by
        simp only [execOp, ho, Instr.alloc, zeroValue, typeInfo, Sem.run_bind, run_program, Result.andThen_ok, hi, Sem.run_pure, hz, newVar, newRow, run_newObj]
        rfl
      unfold Oper.wp
      rw [hrun]
      have hd' : o.dst = d := hd
      show K (a.put o.dst _) _
      rw [hd']
      refine hK _ _ _ _ h (hr'.put hdN (.ptr ?_)) he
      show (if (0 : Nat) = 0 ∧ s = s then some w.heap.size else G.nm 0 s) = some w.heap.size
      simp
    · cases hc
  · cases hc

theorem AOps.boxN {d : Option Nat} {s : Nat} {r : RA} {its : List Item} (hn : noOb st.m s = true) (hl : (r.ev st.f).cells.all AV.leaf = true) (h : AOps P N its { st with m := Am.put st.m 0 s (.cells (r.ev st.f).cells), f := updO st.f d (.ptr 0 s 0) } Q) :
    AOps P N (⟨d, .boxN s r, none⟩ :: its) st Q := by
  refine AOps.step rfl fun G B a w o hr hd hdN hc K QQ hK => ?_
  cases ho : o.op <;> rw [ho] at hc <;> simp only [chkRO, Bool.false_eq_true] at hc
  rename_i e x
  rw [Bool.and_eq_true] at hc
  obtain ⟨hr', he⟩ := hr.freshN s hn ((chkA_ok hr hc.1).cells hl) e hc.2
  have hrun : (execOp a.eval o).run P w = .ok (.value (.pointer (some ⟨w.heap.size, 0, none⟩))) (w.alloc (.cells (a.eval x).cells e)) := by
    simp only [execOp, ho, Instr.box, newVar, newRow, Sem.run_bind, run_newObj, Result.andThen_ok, Sem.run_pure]
    rfl
  unfold Oper.wp
  rw [hrun]
  have hd' : o.dst = d := hd
  show K (a.put o.dst _) _
  rw [hd']
  refine hK _ _ _ _ h (hr'.put hdN (.ptr ?_)) he
  show (if (0 : Nat) = 0 ∧ s = s then some w.heap.size else G.nm 0 s) = some w.heap.size
  simp

end

end Go.Proofs.YtdgbidbkcigkhaaGreatDoor.Am

namespace Go.Proofs.YtdgbidbkcigkhaaGreatDoor.Am
open Go

def chunk (sz : Nat) : Nat → List AV → List AV
  | 0, _ => []
  | n + 1, y => (if sz = 1 then y.headD .top else .agg (y.take sz)) :: chunk sz n (y.drop sz)

def zeros (z : List AV) (sz len : Nat) : List AV := (List.range (len * sz)).map fun i => (z[i % sz]?).getD .top

theorem chunk_length (sz n : Nat) (y : List AV) : (chunk sz n y).length = n := by
  induction n generalizing y with
  | zero => rfl
  | succ n ih => simp [chunk, ih]

theorem AV.leaf_cells {x : AV} (h : x.leaf = true) : x.cells = [x] := by
  cases x <;> first | rfl | cases h

theorem chunk_flat (sz n : Nat) (y : List AV) (hl : y.length = n * sz) (hy : y.all AV.leaf = true) : flat (chunk sz n y) = y := by
  induction n generalizing y with
  | zero =>
    have : y = [] := List.eq_nil_of_length_eq_zero (by simpa using hl)
    subst this; rfl
  | succ n ih =>
    have hd : (y.drop sz).length = n * sz := by rw [List.length_drop, hl, Nat.add_mul, Nat.one_mul]; omega
    have hld : (y.drop sz).all AV.leaf = true := leaf_sub hy fun x hx => List.mem_of_mem_drop hx
    rw [chunk, flat_cons, ih _ hd hld]
    split
    · rename_i h1
      subst h1
      cases y with
      | nil => simp at hl
      | cons x y =>
        have : x.leaf = true := by simp only [List.all_cons, Bool.and_eq_true] at hy; exact hy.1
        simp [AV.leaf_cells this]
    · exact List.take_append_drop sz y

theorem chunk_size (sz n : Nat) (y : List AV) (hl : y.length = n * sz) (hy : y.all AV.leaf = true) : ∀ x ∈ chunk sz n y, x.cells.length = sz := by
  induction n generalizing y with
  | zero => intro x hx; cases hx
  | succ n ih =>
    have hd : (y.drop sz).length = n * sz := by rw [List.length_drop, hl, Nat.add_mul, Nat.one_mul]; omega
    have hld : (y.drop sz).all AV.leaf = true := leaf_sub hy fun x hx => List.mem_of_mem_drop hx
    intro x hx
    rw [chunk] at hx
    rcases List.mem_cons.1 hx with rfl | hx
    · split
      · rename_i h1
        subst h1
        cases y with
        | nil => simp at hl
        | cons x y =>
          have : x.leaf = true := by simp only [List.all_cons, Bool.and_eq_true] at hy; exact hy.1
          simp [AV.leaf_cells this]
      · show (y.take sz).length = sz
        rw [List.length_take, hl, Nat.add_mul, Nat.one_mul]; omega
    · exact ih _ hd hld x hx

theorem fill_length {f : Fr} : ∀ {ps : List (Nat × Nat × RA)} {z y : List AV}, fill f ps z = some y → y.length = z.length
  | [], z, y, h => by cases h; rfl
  | (o, n, r) :: ps, z, y, h => by
    simp only [fill] at h
    split at h
    · rename_i hh
      rw [fill_length h, splice_length (by omega)]
    · cases h

section
variable {P : Program} {G : Gh} {B N : Nat} {st : St} {a : Act} {w : World}

theorem fillS_ok (h : Rel G B N st a w) {sz : Nat} : ∀ {xs : List (Nat × Operand)} {rs : List (Nat × Nat × RA)} {z y : List AV} {cs : Array Value}, chkSlots sz xs rs = true → RepL G z cs.toList → fill st.f rs z = some y →
    ∃ cs', Instr.fill (fun i => some (i * sz, sz)) cs (xs.map fun (i, x) => (i, a.eval x)) = some cs' ∧ RepL G y cs'.toList
  | [], [], z, y, cs, _, hz, hf => by cases hf; exact ⟨cs, rfl, hz⟩
  | (i, x) :: xs, (o, n, r) :: rs, z, y, cs, hc, hz, hf => by
    simp only [chkSlots, Bool.and_eq_true, beq_iff_eq] at hc
    simp only [fill] at hf
    obtain ⟨⟨⟨rfl, rfl⟩, hca⟩, hc⟩ := hc
    split at hf
    · rename_i hh
      obtain ⟨h1, h2, h3⟩ := hh
      have hr := (chkA_ok h hca).cells h3
      have hl := hr.length
      have hzl := hz.length
      simp only [Array.length_toList] at hl hzl
      have hfold := foldl_splice (i * n) (a.eval x).cells.toList 0 cs (by simp only [Array.length_toList]; omega)
      simp only [Nat.add_zero] at hfold
      have hsz : ((a.eval x).cells.zipIdx.foldl (fun cs (c, j) => cs.setIfInBounds (i * n + j) c) cs).toList = cs.toList.take (i * n) ++ (a.eval x).cells.toList ++ cs.toList.drop (i * n + (a.eval x).cells.toList.length) := by
        rw [← hfold, ← Array.foldl_toList, Array.toList_zipIdx]
      obtain ⟨cs', h4, h5⟩ := fillS_ok h (cs := (a.eval x).cells.zipIdx.foldl (fun cs (c, j) => cs.setIfInBounds (i * n + j) c) cs) hc (by rw [hsz]; exact hz.splice hr (i * n)) hf
      refine ⟨cs', ?_, h5⟩
      simp only [List.map_cons, Instr.fill]
      rw [if_neg (by simp; omega)]
      exact h4
    · cases hf
  | [], _ :: _, _, _, _, hc, _, _ => by simp [chkSlots] at hc
  | _ :: _, [], _, _, _, hc, _, _ => by simp [chkSlots] at hc

end

def nn0 : AV → AV
  | .nils => .list []
  | x => x

theorem Rep.nn0 {G : Gh} {x : AV} {v : Value} (h : Rep G x v) : Rep G (nn0 x) v := by
  unfold Am.nn0
  split
  · cases h
    exact .list (sz := 0) (cs := []) .nil (by simp) rfl rfl (by simp) rfl (Nat.le_refl _) (Nat.zero_le _)
  · exact h

theorem RepL.nn0 {G : Gh} : ∀ {l : List AV} {vs : List Value}, RepL G l vs → RepL G (l.map nn0) vs
  | [], _, h => h
  | _ :: _, _, h => by
    cases h with
    | cons h t => exact .cons h.nn0 t.nn0

theorem nn0_rf {x : AV} (h : x.rf = true) : (nn0 x).rf = true := by
  unfold Am.nn0; split
  · rfl
  · exact h
theorem nn0_leaf {x : AV} (h : x.leaf = true) : (nn0 x).leaf = true := by
  unfold Am.nn0; split
  · rfl
  · exact h
theorem nn0_rfL : ∀ {l : List AV}, AV.rfL l = true → AV.rfL (l.map nn0) = true
  | [], _ => rfl
  | x :: l, h => by
    simp only [AV.rfL, Bool.and_eq_true] at h
    simp only [List.map_cons, AV.rfL, Bool.and_eq_true]
    exact ⟨nn0_rf h.1, nn0_rfL h.2⟩
theorem nn0_all {l : List AV} (h : l.all AV.leaf = true) : (l.map nn0).all AV.leaf = true := by
  rw [List.all_eq_true] at h ⊢
  intro x hx
  obtain ⟨y, hy, rfl⟩ := List.mem_map.1 hx
  exact nn0_leaf (h y hy)

section
variable {P : Program} {N : Nat} {st : St} {Q : St → Prop}

theorem AOps.bsl {d : Option Nat} {sz len : Nat} {z : List AV} {ps : List (Nat × Nat × RA)} {its : List Item} {y : List AV} (hy : fill st.f ps (zeros z sz len) = some y) (hf : AV.rfL y = true) (hl : y.all AV.leaf = true)
    (h : AOps P N its { st with f := updO st.f d (.list (chunk sz len (y.map nn0))) } Q) : AOps P N (⟨d, .bsl sz len z ps, none⟩ :: its) st Q := by
  refine AOps.step rfl fun G B a w o hr hd hdN hc K QQ hK => ?_
  cases ho : o.op <;> rw [ho] at hc <;> simp only [chkRO, Bool.false_eq_true, Bool.and_eq_true, beq_iff_eq, bne_iff_ne, decide_eq_true_eq] at hc
  rename_i t n parts
  obtain ⟨⟨⟨⟨⟨rfl, hbig⟩, hsz0⟩, hlen0⟩, hty⟩, hps⟩ := hc
  cases hu : P.underlying t with
  | none => simp [hu] at hty
  | some dd =>
    cases dd with
    | slice e =>
      simp only [hu, Option.any_eq_true, Bool.and_eq_true, beq_iff_eq] at hty
      obtain ⟨i, hi, rfl, hz⟩ := hty
      cases hzv : i.zero with
      | none => rw [hzv] at hz; cases hz
      | some zv =>
        rw [hzv] at hz
        simp only [Bool.and_eq_true, beq_iff_eq] at hz
        have rz : RepL G z zv.cells.toList := isCL_ok hz.1
        have hzl : zv.cells.size = i.size := by
          have := rz.length
          simp only [Array.length_toList] at this
          omega
        have r0 : RepL G (zeros z i.size n) ((Array.range (n * i.size)).map (zv.cells[· % zv.cells.size]!)).toList := by
          refine RepL.of_all (by simp [zeros]) fun j x v hx hv => ?_
          simp only [zeros, List.getElem?_map] at hx
          simp only [Array.toList_map, Array.toList_range, List.getElem?_map] at hv
          by_cases hj : j < n * i.size
          · rw [List.getElem?_range hj] at hx hv
            simp only [Option.map_some, Option.some.injEq] at hx hv
            have hm : j % i.size < i.size := Nat.mod_lt _ (by omega)
            obtain ⟨u, hu1, hu2⟩ := rz.at_ (i := j % i.size) (List.getElem?_eq_getElem (by omega))
            rw [List.getElem?_eq_getElem (by omega)] at hx
            simp only [Option.getD_some] at hx
            subst hx
            rw [hzl] at hv
            rw [Array.getElem?_toList] at hu1
            rw [Array.getElem!_eq_getD, Array.getD_eq_getD_getElem?, hu1] at hv
            simp only [Option.getD_some] at hv
            subst hv
            exact hu2
          · rw [List.getElem?_eq_none (by simp; omega)] at hx
            cases hx
        obtain ⟨cs, hfill, hrep0⟩ := fillS_ok hr hps r0 hy
        have hrep := hrep0.nn0
        have hf := nn0_rfL hf
        have hl := nn0_all hl
        have hyl : (y.map nn0).length = n * i.size := by rw [List.length_map, fill_length hy]; simp [zeros]
        have hne : n * i.size ≠ 0 := Nat.mul_ne_zero hlen0 hsz0
        have hrun : (execOp a.eval o).run P w = .ok (.value (.slice (some ⟨w.heap.size, 0, none⟩) n n)) (w.alloc (.cells cs e)) := by
          have e2 : (parts.map fun (x : Nat × Operand) => (x.1, a.eval x.2)).toList = parts.toList.map fun x => (x.1, a.eval x.2) := by simp
          simp only [execOp, ho, Instr.buildSlice, Sem.run_bind, run_underlying hu, Result.andThen_ok, run_sizeOf hi]
          rw [if_neg (by omega), if_neg hne]
          simp only [Sem.run_bind, Sem.run_pure, Result.andThen_ok, zeroValue, typeInfo, run_program, hi, hzv, e2, hfill, newRow, run_newObj]
          rfl
        let stab' : Nat → Nat → Option SV := fun b k => if b = w.heap.size then (cs[k]?).map .cell else G.stab b k
        have hlt : ∀ b k v, G.stab b k = some v → b < w.heap.size := fun b k v e => rd_lt (hr.mr.stab b k v e)
        have hold : ∀ b, b < w.heap.size → (w.alloc (.cells cs e)).heap[b]? = w.heap[b]? := fun b hb => RowKit.Below.heap_alloc w _ b hb
        have hg : ∀ b k v, G.stab b k = some v → stab' b k = some v := fun b k v e => by
          have := hlt b k v e
          show (if b = w.heap.size then (cs[k]?).map .cell else G.stab b k) = some v
          rw [if_neg (by omega)]; exact e
        have hs : ∀ b k v, stab' b k = some v → rd (w.alloc (.cells cs e)) b k v := fun b k v e' => by
          by_cases hb : b = w.heap.size
          · subst hb
            have e2 : (cs[k]?).map SV.cell = some v := (if_pos rfl).symm.trans e'
            cases hk : cs[k]? with
            | none => rw [hk] at e2; cases e2
            | some u =>
              rw [hk] at e2; cases e2
              show World.cell? _ _ = some u
              rw [(Soft.new (s := 0) w cs e rfl).cell]
              exact hk
          · have e2 : G.stab b k = some v := (if_neg hb).symm.trans e'
            exact rd_block (hold b (hlt b k v e2)) (hr.mr.stab b k v e2)
        have hm : ∀ b, G.mine b → ∀ k, stab' b k = none := fun b hb k => by
          have := (hr.mr.mine hb).1
          show (if b = w.heap.size then (cs[k]?).map .cell else G.stab b k) = none
          rw [if_neg (by omega)]; exact (hr.mr.mine hb).2 k
        have hmr := hr.mr.kept hold hs hg hm
        have hext : Ext 0 G w (G.with stab' hg) (w.alloc (.cells cs e)) := Ext.bare (w := w) (w' := w.alloc (.cells cs e)) (stab' := stab') rfl rfl rfl (by simp) hold hg fun b hb k => if_neg (Nat.ne_of_lt hb)
        unfold Oper.wp
        rw [hrun]
        have hd' : o.dst = d := hd
        show K (a.put o.dst _) _
        rw [hd']
        refine hK _ _ _ _ h ((hr.after hmr hext rfl).put hdN ?_) (hext.mono (Nat.zero_le _))
        have hfl := chunk_flat i.size n _ hyl hl
        refine .list (cs := cs.toList) (sz := i.size) ?_ (chunk_size i.size n _ hyl hl) (by rw [hfl]; exact hf) (by rw [hfl]; exact hl) (fun j u hu' => ?_) (chunk_length i.size n _).symm (Nat.le_refl _) ?_
        · rw [hfl]; exact hrep.mono hext.gle
        · refine ⟨w.heap.size, 0, rfl, ?_⟩
          show (if w.heap.size = w.heap.size then (cs[0 + j]?).map SV.cell else _) = some (SV.cell u)
          rw [if_pos rfl, Nat.zero_add]
          have hu2 : cs[j]? = some u := by simpa using hu'
          rw [hu2]; rfl
        · have : n ≤ n * i.size := Nat.le_mul_of_pos_right n (by omega)
          simp only [maxLen]
          omega
    | _ => simp [hu] at hty

theorem AOps.bslv {d : Option Nat} {site sz len : Nat} {z : List AV} {ps : List (Nat × Nat × RA)} {its : List Item} {y : List AV} (hy : fill st.f ps (zeros z sz len) = some y) (hf : AV.rfL y = true) (hl : y.all AV.leaf = true) (hro : rowOrNone (look st.m 0 site) = true)
    (h : AOps P N its { st with m := Am.put st.m 0 site (.vec (newGen st.m 0 site) sz (chunk sz len (y.map nn0))), f := updO st.f d (.vec 0 site (newGen st.m 0 site) 0 len false) } Q) : AOps P N (⟨d, .bslv site sz len z ps, none⟩ :: its) st Q := by
  refine AOps.step rfl fun G B a w o hr hd hdN hc K QQ hK => ?_
  cases ho : o.op <;> rw [ho] at hc <;> simp only [chkRO, Bool.false_eq_true, Bool.and_eq_true, beq_iff_eq, bne_iff_ne, decide_eq_true_eq] at hc
  rename_i t n parts
  obtain ⟨⟨⟨⟨⟨rfl, hbig⟩, hsz0⟩, hlen0⟩, hty⟩, hps⟩ := hc
  cases hu : P.underlying t with
  | none => simp [hu] at hty
  | some dd =>
    cases dd with
    | slice e =>
      simp only [hu, Option.any_eq_true, Bool.and_eq_true, beq_iff_eq] at hty
      obtain ⟨⟨i, hi, rfl, hz⟩, hte⟩ := hty
      cases hzv : i.zero with
      | none => rw [hzv] at hz; cases hz
      | some zv =>
        rw [hzv] at hz
        simp only [Bool.and_eq_true, beq_iff_eq] at hz
        have rz : RepL G z zv.cells.toList := isCL_ok hz.1
        have hzl : zv.cells.size = i.size := by
          have := rz.length
          simp only [Array.length_toList] at this
          omega
        have r0 : RepL G (zeros z i.size n) ((Array.range (n * i.size)).map (zv.cells[· % zv.cells.size]!)).toList := by
          refine RepL.of_all (by simp [zeros]) fun j x v hx hv => ?_
          simp only [zeros, List.getElem?_map] at hx
          simp only [Array.toList_map, Array.toList_range, List.getElem?_map] at hv
          by_cases hj : j < n * i.size
          · rw [List.getElem?_range hj] at hx hv
            simp only [Option.map_some, Option.some.injEq] at hx hv
            have hm : j % i.size < i.size := Nat.mod_lt _ (by omega)
            obtain ⟨u, hu1, hu2⟩ := rz.at_ (i := j % i.size) (List.getElem?_eq_getElem (by omega))
            rw [List.getElem?_eq_getElem (by omega)] at hx
            simp only [Option.getD_some] at hx
            subst hx
            rw [hzl] at hv
            rw [Array.getElem?_toList] at hu1
            rw [Array.getElem!_eq_getD, Array.getD_eq_getD_getElem?, hu1] at hv
            simp only [Option.getD_some] at hv
            subst hv
            exact hu2
          · rw [List.getElem?_eq_none (by simp; omega)] at hx
            cases hx
        obtain ⟨cs, hfill, hrep0⟩ := fillS_ok hr hps r0 hy
        have hrep := hrep0.nn0
        have hf := nn0_rfL hf
        have hl := nn0_all hl
        have hyl : (y.map nn0).length = n * i.size := by rw [List.length_map, fill_length hy]; simp [zeros]
        have hne : n * i.size ≠ 0 := Nat.mul_ne_zero hlen0 hsz0
        have hrun : (execOp a.eval o).run P w = .ok (.value (.slice (some ⟨w.heap.size, 0, none⟩) n n)) (w.alloc (.cells cs e)) := by
          have e2 : (parts.map fun (x : Nat × Operand) => (x.1, a.eval x.2)).toList = parts.toList.map fun x => (x.1, a.eval x.2) := by simp
          simp only [execOp, ho, Instr.buildSlice, Sem.run_bind, run_underlying hu, Result.andThen_ok, run_sizeOf hi]
          rw [if_neg (by omega), if_neg hne]
          simp only [Sem.run_bind, Sem.run_pure, Result.andThen_ok, zeroValue, typeInfo, run_program, hi, hzv, e2, hfill, newRow, run_newObj]
          rfl
        have hcsz : cs.size = n * i.size := by
          have := hrep.length
          simp only [Array.length_toList] at this
          omega
        have hfl := chunk_flat i.size n _ hyl hl
        have hcl := chunk_length i.size n (y.map nn0)
        have hnm : n ≤ maxLen := by
          have : n ≤ n * i.size := Nat.le_mul_of_pos_right n (by omega)
          simp only [maxLen]
          omega
        have hrow : RowIs G site (w.alloc (.cells cs e)) w.heap.size n i.size (chunk i.size n (y.map nn0)) := by
          refine ⟨⟨cs, Soft.new w _ e hte, hcsz, ?_⟩, by rw [hcl]; exact Nat.le_refl _, hnm⟩
          rw [hfl, hcl, List.take_of_length_le (by rw [Array.length_toList, hcsz]; exact Nat.le_refl _)]
          exact hrep
        have hels : Elems i.size (chunk i.size n (y.map nn0)) := ⟨chunk_size i.size n _ hyl hl, by rw [hfl]; exact hf, by rw [hfl]; exact hl⟩
        have hgl := newGen_lt hr.mr hro
        have hl0 : 0 < st.m.length := List.length_pos_iff.2 hr.ne
        obtain ⟨hr', he⟩ := hr.vecput (w' := w.alloc (.cells cs e)) (cap := n) (b := some w.heap.size) hl0 hro hgl rfl rfl rfl (by simp) (fun k hk _ => RowKit.Below.heap_alloc w _ k hk) (fun k e => by cases e; exact .inr (Nat.le_refl _)) hels (.inr ⟨_, rfl, hrow⟩)
        unfold Oper.wp
        rw [hrun]
        have hd' : o.dst = d := hd
        show K (a.put o.dst _) _
        rw [hd']
        exact hK _ _ _ _ h (hr'.put hdN (.vec rfl (Nat.le_of_eq (by simp [Gh.row])) fun _ => .inr ⟨w.heap.size, ⟨w.heap.size, 0, none⟩, n, by simp [Gh.row], by simp [Gh.row], rfl, Nat.le_refl _, hnm, fun _ => by simp [Gh.row], fun _ => by simp⟩)) he
    | _ => simp [hu] at hty

theorem AOps.bsl0 {d : Option Nat} {site sz : Nat} {its : List Item} (hro : rowOrNone (look st.m 0 site) = true)
    (h : AOps P N its { st with m := Am.put st.m 0 site (.vec (newGen st.m 0 site) sz []), f := updO st.f d (.vec 0 site (newGen st.m 0 site) 0 0 false) } Q) : AOps P N (⟨d, .bsl0 site sz, none⟩ :: its) st Q := by
  refine AOps.step rfl fun G B a w o hr hd hdN hc K QQ hK => ?_
  cases ho : o.op <;> rw [ho] at hc <;> simp only [chkRO, Bool.false_eq_true, Bool.and_eq_true, beq_iff_eq] at hc
  rename_i t n parts
  obtain ⟨⟨rfl, hpe⟩, hty⟩ := hc
  have hpe' : parts = #[] := Array.isEmpty_iff.1 hpe
  subst hpe'
  cases hu : P.underlying t with
  | none => simp [hu] at hty
  | some dd =>
    cases dd with
    | slice e =>
      simp only [hu, Option.any_eq_true, Bool.and_eq_true, beq_iff_eq] at hty
      obtain ⟨⟨i, hi, rfl⟩, hte⟩ := hty
      have hrun : (execOp a.eval o).run P w = .ok (.value (.slice (some ⟨w.heap.size, 0, none⟩) 0 0)) (w.alloc (.cells #[] e)) := by
        have e0 : Array.range 0 = #[] := rfl
        simp [execOp, ho, Instr.buildSlice, Sem.run_bind, run_underlying hu, Result.andThen_ok, run_sizeOf hi, Instr.fill, newRow, e0]
      have hrow : RowIs G site (w.alloc (.cells #[] e)) w.heap.size 0 i.size [] := ⟨⟨#[], Soft.new w _ e hte, by simp, by simp [flat]; exact .nil⟩, Nat.le_refl _, Nat.zero_le _⟩
      have hels : Elems i.size [] := ⟨by simp, rfl, rfl⟩
      have hgl := newGen_lt hr.mr hro
      have hl0 : 0 < st.m.length := List.length_pos_iff.2 hr.ne
      obtain ⟨hr', he⟩ := hr.vecput (w' := w.alloc (.cells #[] e)) (cap := 0) (b := some w.heap.size) hl0 hro hgl rfl rfl rfl (by simp) (fun k hk _ => RowKit.Below.heap_alloc w _ k hk) (fun k e => by cases e; exact .inr (Nat.le_refl _)) hels (.inr ⟨_, rfl, hrow⟩)
      unfold Oper.wp
      rw [hrun]
      have hd' : o.dst = d := hd
      show K (a.put o.dst _) _
      rw [hd']
      exact hK _ _ _ _ h (hr'.put hdN (.vec rfl (Nat.le_of_eq (by simp [Gh.row])) fun _ => .inr ⟨w.heap.size, ⟨w.heap.size, 0, none⟩, 0, by simp [Gh.row], by simp [Gh.row], rfl, Nat.le_refl _, Nat.zero_le _, fun _ => by simp [Gh.row], fun _ => by simp⟩)) he
    | _ => simp [hu] at hty

theorem run_slice_nil {w : World} {t e : TypeId} (hu : P.underlying t = some (.slice e)) (A : Option Addr) (n c : Nat) : (binOp .eql t (.slice A n c) (.slice none 0 0)).run P w = .ok (.bool A.isNone) w ∧ (binOp .neq t (.slice A n c) (.slice none 0 0)).run P w = .ok (.bool (!A.isNone)) w := by
  have h : ∀ d : Nat, (Op.equalIn (d + 1) t (.slice A n c) (.slice none 0 0)).run P w = .ok A.isNone w := fun d => by
    cases A <;> simp [Op.equalIn, run_underlying hu]
  simp only [binOp]
  constructor <;> simp [Op.equal, Op.maxDepth, h 9999]

theorem AOps.appc {d : Option Nat} {site sz bytes el : Nat} {s r : RA} {its : List Item} {xs ys : List AV} (hs : s.ev st.f = .lcap xs) (hy : elemsOf st.m (r.ev st.f) = some ys) (hne : ys ≠ []) (hxz : xs.all (fun e => e.cells.length == sz) = true) (hsz : ys.all (fun e => e.cells.length == sz) = true)
    (hmax : xs.length + ys.length ≤ maxLen) (hb : (xs.length + ys.length) * bytes ≤ 140737488355328) (hro : rowOrNone (look st.m 0 site) = true)
    (h : AOps P N its { st with m := Am.put st.m 0 site (.vec (newGen st.m 0 site) sz (xs ++ ys)), f := updO st.f d (.vec 0 site (newGen st.m 0 site) 0 (xs.length + ys.length) false) } Q) : AOps P N (⟨d, .appc site sz bytes el s r, none⟩ :: its) st Q := by
  refine AOps.step rfl fun G B a w o hr hd hdN hc K QQ hK => ?_
  cases ho : o.op <;> rw [ho] at hc <;> simp only [chkRO, Bool.false_eq_true] at hc
  rename_i cl
  split at hc
  case h_2 => cases hc
  rename_i o1 x y t t' o2
  cases o2
  simp only [Bool.and_eq_true, beq_iff_eq] at hc
  obtain ⟨⟨⟨rfl, hty⟩, hcs⟩, hcr⟩ := hc
  cases hu : P.underlying t with
  | none => simp [hu] at hty
  | some dd =>
    cases dd with
    | slice e =>
      simp only [hu, Bool.and_eq_true, Option.any_eq_true, bne_iff_ne, beq_iff_eq] at hty
      obtain ⟨⟨⟨⟨i, hi, ⟨rfl, rfl⟩, hz⟩, hsz0⟩, rfl⟩, hte⟩ := hty
      cases hzv : i.zero with
      | none => rw [hzv] at hz; cases hz
      | some zv =>
        rw [hzv] at hz
        simp only [beq_iff_eq] at hz
        have rs := chkA_ok hr hcs
        rw [hs] at rs
        obtain ⟨A, c, hyv, sz', cs, hrep, hel, hcell⟩ := elemsOf_ok hr hy (chkA_ok hr hcr)
        have hall : ∀ u ∈ ys, u.cells.length = i.size := fun u hu => by simpa using List.all_eq_true.1 hsz u hu
        have hallx : ∀ u ∈ xs, u.cells.length = i.size := fun u hu => by simpa using List.all_eq_true.1 hxz u hu
        have hcl : cs.length = ys.length * i.size := by rw [hrep.length, flat_length hall]
        have hone : ∀ u ∈ cs, u.oneCell' = true := hrep.leaves hel.leaf
        have hylen : 0 < ys.length := List.length_pos_iff.2 hne
        have hsrc : Src P i.size t (.slice A ys.length c) ys.length cs w := by
          cases cs with
          | nil =>
            have h0 : ys.length = 0 := by
              rcases Nat.mul_eq_zero.1 (by simpa using hcl.symm) with h0 | h0
              · exact h0
              · exact absurd h0 hsz0
            omega
          | cons u0 us =>
            obtain ⟨b, o', rfl, _⟩ := hcell 0 u0 rfl
            refine Src.ofSlice (w := w) hu ⟨b, o', none⟩ ys.length c (u0 :: us) hcl (fun j u hj => ?_) hone
            obtain ⟨b', o'', e, hcc⟩ := hcell j u hj
            cases e
            rw [add_plain]; exact hcc
        revert rs
        generalize hxv : a.eval x = v
        intro rs
        cases rs with
        | lcap hc0 hz0 hf0 hl0 hs0 hn0 hm0 =>
          rename_i cs0 A0 n0 sz0
          subst hn0
          have hcl0 : cs0.length = xs.length * i.size := by rw [hc0.length, flat_length hallx]
          have hold : (Builtin.firstCells i.size xs.length (.slice A0 xs.length xs.length)).run P w.drew = .ok cs0.toArray w.drew := by
            cases A0 with
            | none =>
              have : cs0 = [] := by
                cases cs0 with
                | nil => rfl
                | cons u us =>
                  obtain ⟨b, o', e, _⟩ := hs0 0 u rfl
                  cases e
              subst this
              exact run_firstCells_none w.drew i.size _ _ _
            | some ad =>
              refine run_firstCells_some w.drew i.size xs.length ad _ _ cs0 hcl0 fun j u hj => ?_
              obtain ⟨b, o', e, hst⟩ := hs0 j u hj
              cases e
              show w.cell? _ = _
              rw [add_plain]
              exact hr.mr.stab _ _ _ hst
          have hmax' : xs.length + ys.length ≤ 9223372036854775807 := by simp only [maxLen] at hmax; omega
          have hrun := run_append_grow_src (P := P) w t t o.type e i zv hu hi hzv A0 xs.length xs.length cs0 hold (.slice A ys.length c) ys.length cs hsrc (by omega) (by omega) (growslice_fits (by omega) hb)
          have hge := grownCap_ge w (xs.length + ys.length) xs.length e
          have hcm := grownCap_le_maxLen w (xs.length + ys.length) xs.length e hmax
          generalize hcap : grownCap w (xs.length + ys.length) xs.length e = cap at hrun hge hcm
          have hlen : (cs0 ++ cs).length = (xs ++ ys).length * i.size := by rw [List.length_append, hcl0, hcl, List.length_append, Nat.add_mul]
          have hrow : RowIs G site (w.drew.alloc (.cells ((cs0 ++ cs).toArray ++ Builtin.zeroCells zv.cells (cap - (xs.length + ys.length))) e)) w.heap.size cap i.size (xs ++ ys) := by
            refine ⟨⟨_, Soft.new w.drew _ e hte, ?_, ?_⟩, by rw [List.length_append]; exact hge, hcm⟩
            · simp only [Array.size_append, List.size_toArray, size_zeroCells, hz, hlen, List.length_append, ← Nat.add_mul]
              congr 1
              omega
            · simp only [Array.toList_append]
              rw [← hlen, List.take_left, flat_append]
              exact hc0.append hrep
          have hels : Elems i.size (xs ++ ys) := by
            refine ⟨fun u hu => ?_, ?_, ?_⟩
            · rcases List.mem_append.1 hu with hu | hu
              · exact hallx u hu
              · exact hall u hu
            · rw [flat_append, rfL_append, hf0, hel.rf]; rfl
            · rw [flat_append, List.all_append, hl0, hel.leaf]; rfl
          have hgl := newGen_lt hr.mr hro
          have hl0' : 0 < st.m.length := List.length_pos_iff.2 hr.ne
          obtain ⟨hr', he⟩ := hr.vecput (w' := w.drew.alloc (.cells ((cs0 ++ cs).toArray ++ Builtin.zeroCells zv.cells (cap - (xs.length + ys.length))) e)) (cap := cap) (b := some w.heap.size) hl0' hro hgl rfl rfl rfl (by simp) (fun k hk _ => RowKit.Below.heap_alloc w.drew _ k hk) (fun k e => by cases e; exact .inr (Nat.le_refl _)) hels (.inr ⟨_, rfl, hrow⟩)
          have hexec : (execOp a.eval o).run P w = .ok (.value (.slice (some ⟨w.heap.size, 0, none⟩) (xs.length + ys.length) cap)) (w.drew.alloc (.cells ((cs0 ++ cs).toArray ++ Builtin.zeroCells zv.cells (cap - (xs.length + ys.length))) e)) := by
            simp only [execOp, ho, resolve, invoke, builtin, Sem.run_bind, Sem.run_pure, Result.andThen_ok, List.map_toArray, List.map_cons, List.map_nil, hyv, hxv, hrun]
          unfold Oper.wp
          rw [hexec]
          have hd' : o.dst = d := hd
          show K (a.put o.dst _) _
          rw [hd']
          exact hK _ _ _ _ h (hr'.put hdN (.vec rfl (Nat.le_of_eq (by simp [Gh.row])) fun _ => .inr ⟨w.heap.size, ⟨w.heap.size, 0, none⟩, cap, by simp [Gh.row], by simp [Gh.row]; exact hge, rfl, hge, hcm, fun _ => by simp [Gh.row], fun _ => by simp⟩)) he
    | _ => simp [hu] at hty

theorem AOps.lit0 {d : Option Nat} {sz : Nat} {its : List Item} (h : AOps P N its { st with f := updO st.f d (.lcap []) } Q) : AOps P N (⟨d, .lit0 sz, none⟩ :: its) st Q := by
  refine AOps.step rfl fun G B a w o hr hd hdN hc K QQ hK => ?_
  cases ho : o.op <;> rw [ho] at hc <;> simp only [chkRO, Bool.false_eq_true, Bool.and_eq_true, beq_iff_eq] at hc
  rename_i t n parts
  obtain ⟨⟨rfl, hpe⟩, hty⟩ := hc
  have hpe' : parts = #[] := Array.isEmpty_iff.1 hpe
  subst hpe'
  cases hu : P.underlying t with
  | none => simp [hu] at hty
  | some dd =>
    cases dd with
    | slice e =>
      simp only [hu, Option.any_eq_true, beq_iff_eq] at hty
      obtain ⟨i, hi, rfl⟩ := hty
      have hrun : (execOp a.eval o).run P w = .ok (.value (.slice (some ⟨w.heap.size, 0, none⟩) 0 0)) (w.alloc (.cells #[] e)) := by
        have e0 : Array.range 0 = #[] := rfl
        simp [execOp, ho, Instr.buildSlice, Sem.run_bind, run_underlying hu, Result.andThen_ok, run_sizeOf hi, Instr.fill, newRow, e0]
      have hlt : ∀ b k v, G.stab b k = some v → b < w.heap.size := fun b k v e => rd_lt (hr.mr.stab b k v e)
      have hold : ∀ b, b < w.heap.size → (w.alloc (.cells #[] e)).heap[b]? = w.heap[b]? := fun b hb => RowKit.Below.heap_alloc w _ b hb
      have hg : ∀ b k v, G.stab b k = some v → G.stab b k = some v := fun _ _ _ h => h
      have hmr := hr.mr.kept hold (fun b k v e' => rd_block (hold b (hlt b k v e')) (hr.mr.stab b k v e')) hg fun b hb k => (hr.mr.mine hb).2 k
      have hext : Ext 0 G w (G.with G.stab hg) (w.alloc (.cells #[] e)) := Ext.bare (w := w) (w' := w.alloc (.cells #[] e)) (stab' := G.stab) rfl rfl rfl (by simp) hold hg fun b hb k => rfl
      unfold Oper.wp
      rw [hrun]
      have hd' : o.dst = d := hd
      show K (a.put o.dst _) _
      rw [hd']
      exact hK _ _ _ _ h ((hr.after hmr hext rfl).put hdN (.lcap (cs := []) (sz := i.size) .nil (by simp) rfl rfl (by simp) rfl (Nat.zero_le _))) (hext.mono (Nat.zero_le _))
    | _ => simp [hu] at hty

theorem AOps.appe {d : Option Nat} {sz bytes el : Nat} {s r : RA} {its : List Item} {xs ys : List AV} (hs : s.ev st.f = .lcap xs) (hy0 : r.ev st.f = .list ys) (hxz : xs.all (fun e => e.cells.length == sz) = true) (hsz : ys.all (fun e => e.cells.length == sz) = true)
    (hmax : xs.length + ys.length ≤ maxLen) (hb : (xs.length + ys.length) * bytes ≤ 140737488355328)
    (h : AOps P N its { st with f := updO st.f d (.list (xs ++ ys)) } Q) : AOps P N (⟨d, .appe sz bytes el s r, none⟩ :: its) st Q := by
  refine AOps.step rfl fun G B a w o hr hd hdN hc K QQ hK => ?_
  cases ho : o.op <;> rw [ho] at hc <;> simp only [chkRO, Bool.false_eq_true] at hc
  rename_i cl
  split at hc
  case h_2 => cases hc
  rename_i o1 x y t t' o2
  cases o2
  simp only [Bool.and_eq_true, beq_iff_eq] at hc
  obtain ⟨⟨⟨rfl, hty⟩, hcs⟩, hcr⟩ := hc
  have hd' : o.dst = d := hd
  cases hu : P.underlying t with
  | none => simp [hu] at hty
  | some dd =>
    cases dd with
    | slice e =>
      simp only [hu, Bool.and_eq_true, Option.any_eq_true, bne_iff_ne, beq_iff_eq] at hty
      obtain ⟨⟨⟨i, hi, ⟨rfl, rfl⟩, hz⟩, hsz0⟩, rfl⟩ := hty
      cases hzv : i.zero with
      | none => rw [hzv] at hz; cases hz
      | some zv =>
        rw [hzv] at hz
        simp only [beq_iff_eq] at hz
        have hy : elemsOf st.m (r.ev st.f) = some ys := by rw [hy0]; rfl
        have rs := chkA_ok hr hcs
        rw [hs] at rs
        obtain ⟨A, c, hyv, sz', cs, hrep, hel, hcell⟩ := elemsOf_ok hr hy (chkA_ok hr hcr)
        have hall : ∀ u ∈ ys, u.cells.length = i.size := fun u hu => by simpa using List.all_eq_true.1 hsz u hu
        have hallx : ∀ u ∈ xs, u.cells.length = i.size := fun u hu => by simpa using List.all_eq_true.1 hxz u hu
        have hcl : cs.length = ys.length * i.size := by rw [hrep.length, flat_length hall]
        have hone : ∀ u ∈ cs, u.oneCell' = true := hrep.leaves hel.leaf
        revert rs
        generalize hxv : a.eval x = v
        intro rs
        cases rs with
        | lcap hc0 hz0 hf0 hl0 hs0 hn0 hm0 =>
          rename_i cs0 A0 n0 sz0
          subst hn0
          have hsrc : Src P i.size t (.slice A ys.length c) ys.length cs w := by
            cases cs with
            | nil =>
              have h0 : ys.length = 0 := by
                rcases Nat.mul_eq_zero.1 (by simpa using hcl.symm) with h0 | h0
                · exact h0
                · exact absurd h0 hsz0
              rw [h0]
              have hfc : ∀ w' : World, (Builtin.firstCells i.size 0 (.slice A 0 c)).run P w' = .ok ([] : List Value).toArray w' := fun w' => by
                cases A with
                | none => exact run_firstCells_none w' i.size _ _ _
                | some ad => exact run_firstCells_some w' i.size 0 ad _ _ [] (by simp) (by simp)
              exact ⟨.inl ⟨_, hu⟩, fun w' => by simp [Builtin.lenOf], hfc w, hfc w.drew, by simp, by simp⟩
            | cons u0 us =>
              obtain ⟨b, o', rfl, _⟩ := hcell 0 u0 rfl
              refine Src.ofSlice (w := w) hu ⟨b, o', none⟩ ys.length c (u0 :: us) hcl (fun j u hj => ?_) hone
              obtain ⟨b', o'', e, hcc⟩ := hcell j u hj
              cases e
              rw [add_plain]; exact hcc
          by_cases hne : ys = []
          · subst hne
            have hcs0 : cs = [] := List.eq_nil_of_length_eq_zero (by rw [hcl]; simp)
            subst hcs0
            have hrun : (Builtin.append_ #[t, t] o.type #[.slice A0 xs.length xs.length, .slice A 0 c]).run P w = .ok (.slice A0 xs.length xs.length) w := by
              have hsc : (Builtin.firstCells i.size 0 (.slice A 0 c)).run P w = .ok ([] : List Value).toArray w := hsrc.cells
              cases A0 <;> simp [Builtin.append_, run_underlying hu, sizeOf, typeInfo, hi, hsc, storeCells, Builtin.lenOf]
            have hexec : (execOp a.eval o).run P w = .ok (.value (.slice A0 xs.length xs.length)) w := by
              simp only [execOp, ho, resolve, invoke, builtin, Sem.run_bind, Sem.run_pure, Result.andThen_ok, List.map_toArray, List.map_cons, List.map_nil, hyv, hxv, List.length_nil, hrun]
            unfold Oper.wp
            rw [hexec]
            show K (a.put o.dst _) w
            rw [hd']
            rw [List.append_nil] at h
            exact hK _ _ _ _ h (hr.put hdN (Rep.unlcap (.lcap hc0 hz0 hf0 hl0 hs0 rfl hm0))) (Ext.refl 1 G w)
          have hylen : 0 < ys.length := List.length_pos_iff.2 hne
          have hcl0 : cs0.length = xs.length * i.size := by rw [hc0.length, flat_length hallx]
          have hold0 : (Builtin.firstCells i.size xs.length (.slice A0 xs.length xs.length)).run P w.drew = .ok cs0.toArray w.drew := by
            cases A0 with
            | none =>
              have : cs0 = [] := by
                cases cs0 with
                | nil => rfl
                | cons u us =>
                  obtain ⟨b, o', e, _⟩ := hs0 0 u rfl
                  cases e
              subst this
              exact run_firstCells_none w.drew i.size _ _ _
            | some ad =>
              refine run_firstCells_some w.drew i.size xs.length ad _ _ cs0 hcl0 fun j u hj => ?_
              obtain ⟨b, o', e, hst⟩ := hs0 j u hj
              cases e
              show w.cell? _ = _
              rw [add_plain]
              exact hr.mr.stab _ _ _ hst
          have hmax' : xs.length + ys.length ≤ 9223372036854775807 := by simp only [maxLen] at hmax; omega
          have hrun := run_append_grow_src (P := P) w t t o.type e i zv hu hi hzv A0 xs.length xs.length cs0 hold0 (.slice A ys.length c) ys.length cs hsrc (by omega) (by omega) (growslice_fits (by omega) hb)
          have hge := grownCap_ge w (xs.length + ys.length) xs.length e
          have hcm := grownCap_le_maxLen w (xs.length + ys.length) xs.length e hmax
          generalize hcap : grownCap w (xs.length + ys.length) xs.length e = cap at hrun hge hcm
          have hlen : (cs0 ++ cs).length = (xs ++ ys).length * i.size := by rw [List.length_append, hcl0, hcl, List.length_append, Nat.add_mul]
          generalize hall' : ((cs0 ++ cs).toArray ++ Builtin.zeroCells zv.cells (cap - (xs.length + ys.length))) = AR at hrun
          have hAR : ∀ j u, (cs0 ++ cs)[j]? = some u → AR[j]? = some u := fun j u hj => by
            rw [← hall', Array.getElem?_append_left (by simpa using (List.getElem?_eq_some_iff.1 hj).1)]
            simpa using hj
          let stab' : Nat → Nat → Option SV := fun b k => if b = w.heap.size then (AR[k]?).map .cell else G.stab b k
          have hlt : ∀ b k v, G.stab b k = some v → b < w.heap.size := fun b k v e => rd_lt (hr.mr.stab b k v e)
          have hold : ∀ b, b < w.heap.size → (w.drew.alloc (.cells AR e)).heap[b]? = w.heap[b]? := fun b hb => RowKit.Below.heap_alloc w.drew _ b hb
          have hg : ∀ b k v, G.stab b k = some v → stab' b k = some v := fun b k v e => by
            have := hlt b k v e
            show (if b = w.heap.size then (AR[k]?).map .cell else G.stab b k) = some v
            rw [if_neg (by omega)]; exact e
          have hss : ∀ b k v, stab' b k = some v → rd (w.drew.alloc (.cells AR e)) b k v := fun b k v e' => by
            by_cases hb : b = w.heap.size
            · subst hb
              have e2 : (AR[k]?).map SV.cell = some v := (if_pos rfl).symm.trans e'
              cases hk : AR[k]? with
              | none => rw [hk] at e2; cases e2
              | some u =>
                rw [hk] at e2; cases e2
                show World.cell? _ _ = some u
                have := (Soft.new (s := 0) w.drew AR e rfl).cell (i := k)
                exact this.trans hk
            · have e2 : G.stab b k = some v := (if_neg hb).symm.trans e'
              exact rd_block (hold b (hlt b k v e2)) (hr.mr.stab b k v e2)
          have hm : ∀ b, G.mine b → ∀ k, stab' b k = none := fun b hb k => by
            have := (hr.mr.mine hb).1
            show (if b = w.heap.size then (AR[k]?).map .cell else G.stab b k) = none
            rw [if_neg (by omega)]; exact (hr.mr.mine hb).2 k
          have hmr := hr.mr.kept hold hss hg hm
          have hext : Ext 0 G w (G.with stab' hg) (w.drew.alloc (.cells AR e)) := Ext.bare (w := w) (w' := w.drew.alloc (.cells AR e)) (stab' := stab') rfl rfl rfl (by simp) hold hg fun b hb k => if_neg (Nat.ne_of_lt hb)
          have hexec : (execOp a.eval o).run P w = .ok (.value (.slice (some ⟨w.heap.size, 0, none⟩) (xs.length + ys.length) cap)) (w.drew.alloc (.cells AR e)) := by
            simp only [execOp, ho, resolve, invoke, builtin, Sem.run_bind, Sem.run_pure, Result.andThen_ok, List.map_toArray, List.map_cons, List.map_nil, hyv, hxv, hrun]
          unfold Oper.wp
          rw [hexec]
          show K (a.put o.dst _) _
          rw [hd']
          refine hK _ _ _ _ h ((hr.after hmr hext rfl).put hdN ?_) (hext.mono (Nat.zero_le _))
          refine .list (cs := cs0 ++ cs) (sz := i.size) ?_ (fun u hu => ?_) ?_ ?_ (fun j u hu' => ?_) List.length_append.symm hge hmax
          · rw [flat_append]; exact (hc0.append hrep).mono hext.gle
          · rcases List.mem_append.1 hu with hu | hu
            · exact hallx u hu
            · exact hall u hu
          · rw [flat_append, rfL_append, hf0, hel.rf]; rfl
          · rw [flat_append, List.all_append, hl0, hel.leaf]; rfl
          · refine ⟨w.heap.size, 0, rfl, ?_⟩
            show (if w.heap.size = w.heap.size then (AR[0 + j]?).map SV.cell else _) = some (SV.cell u)
            rw [if_pos rfl, Nat.zero_add, hAR j u hu']; rfl
    | _ => simp [hu] at hty

theorem AOps.isnil {d : Option Nat} {neg : Bool} {r : RA} {its : List Item} {ys : List AV} (hx : elemsOf st.m (r.ev st.f) = some ys)
    (h0 : r.ev st.f ≠ .nils → AOps P N its { st with f := updO st.f d (.bool neg) } Q) (h1 : (r.ev st.f = .nils ∨ flat ys = []) → AOps P N its { st with f := updO st.f d (.bool (!neg)) } Q) : AOps P N (⟨d, .isnil neg r, none⟩ :: its) st Q := by
  refine AOps.step rfl fun G B a w o hr hd hdN hc K QQ hK => ?_
  cases ho : o.op <;> rw [ho] at hc <;> simp only [chkRO, Bool.false_eq_true, Bool.and_eq_true, beq_iff_eq] at hc
  rename_i b t x y yt
  obtain ⟨⟨⟨hty, rfl⟩, hcx⟩, hcy⟩ := hc
  have hrx := chkA_ok hr hcx
  obtain ⟨A, c, hv, sz, cs, hrep, _, hcell⟩ := elemsOf_ok hr hx hrx
  have hry := chkA_ok hr hcy
  have hyv : a.eval y = .slice none 0 0 := by
    revert hry
    generalize a.eval y = u
    intro hry
    have hry : Rep G .nils u := hry
    cases hry
    rfl
  split at hty
  case h_2 => cases hty
  rename_i e hu
  have hd' : o.dst = d := hd
  have hguard : (eqGuard (bif neg then .neq else .eql) t x y (a.eval x) (a.eval y)).run P w = .ok () w := by
    rw [hv, hyv]; cases neg <;> simp [eqGuard]
  have fin : ∀ q : Bool, AOps P N its { st with f := updO st.f d (.bool q) } Q → (binOp (bif neg then .neq else .eql) t (a.eval x) (a.eval y)).run P w = .ok (.bool q) w → o.wp P a w K QQ := by
    intro q hq hrun
    have hexec : (execOp a.eval o).run P w = .ok (.value (.bool q)) w := by
      simp only [execOp, ho, Sem.run_bind, hguard, hrun, Result.andThen_ok]
      rfl
    unfold Oper.wp
    rw [hexec]
    show K (a.put o.dst _) w
    rw [hd']
    exact hK _ _ _ _ hq (hr.put hdN (.bool _)) (Ext.refl 1 G w)
  have key : (binOp (bif neg then .neq else .eql) t (a.eval x) (a.eval y)).run P w = .ok (.bool (bif A.isNone then !neg else neg)) w := by
    rw [hv, hyv]
    cases neg
    · rw [show (bif false then BinOp.neq else .eql) = .eql from rfl, (run_slice_nil hu A _ _).1]; cases A <;> rfl
    · rw [show (bif true then BinOp.neq else .eql) = .neq from rfl, (run_slice_nil hu A _ _).2]; cases A <;> rfl
  cases A with
  | none =>
    refine fin _ (h1 (.inr ?_)) key
    have hcs : cs = [] := by
      cases cs with
      | nil => rfl
      | cons u cs =>
        obtain ⟨b, o, e, _⟩ := hcell 0 u rfl
        cases e
    subst hcs
    cases hf : flat ys with
    | nil => rfl
    | cons z zs => rw [hf] at hrep; cases hrep
  | some A =>
    refine fin _ (h0 fun e => ?_) key
    rw [e] at hrx
    rw [hv] at hrx
    cases hrx

theorem BV.zero {y : Operand} (h : isZ y = true) (a : Act) (d : Nat) : BV (some (a.eval y)) d 0 := by
  unfold isZ at h
  split at h
  · rename_i k n
    simp only [beq_iff_eq] at h
    subst h
    exact .inr ⟨k, 0, rfl, Int.le_refl _, rfl⟩
  · cases h

theorem AOps.slc0 {d : Option Nat} {site sz : Nat} {r : RA} {its : List Item} {ys : List AV} (hx : elemsOf st.m (r.ev st.f) = some ys) (hro : rowOrNone (look st.m 0 site) = true)
    (h : AOps P N its { st with m := Am.put st.m 0 site (.vec (newGen st.m 0 site) sz []), f := updO st.f d (.vec 0 site (newGen st.m 0 site) 0 0 false) } Q) : AOps P N (⟨d, .slc0 site sz r, none⟩ :: its) st Q := by
  refine AOps.step rfl fun G B a w o hr hd hdN hc K QQ hK => ?_
  cases ho : o.op <;> rw [ho] at hc <;> simp only [chkRO, Bool.false_eq_true] at hc
  rename_i t x olo ohi omx
  cases olo with
  | some _ => simp at hc
  | none =>
  cases ohi with
  | none => simp at hc
  | some y =>
  cases omx with
  | none => simp at hc
  | some y' =>
  simp only [Bool.and_eq_true, decide_eq_true_eq] at hc
  obtain ⟨⟨⟨⟨hty, hcx⟩, hz1⟩, hz2⟩, hs2⟩ := hc
  cases hu : P.underlying t with
  | none => simp [hu] at hty
  | some dd =>
    cases dd with
    | slice e =>
      simp only [hu, Option.any_eq_true, beq_iff_eq] at hty
      obtain ⟨i, hi, rfl⟩ := hty
      obtain ⟨A, c, hv, _⟩ := elemsOf_ok hr hx (chkA_ok hr hcx)
      have hb := run_bounds (P := P) (w := w) true ys.length c (lo := none) (hi := some (a.eval y)) (mx := some (a.eval y')) (.inl ⟨rfl, rfl⟩) (BV.zero hz1 a _) (BV.zero hz2 a _) (fun _ => rfl) (Nat.le_refl _) (Nat.le_refl _) (Nat.zero_le _)
      have hrun : (execOp a.eval o).run P w = .ok (.value (.slice A 0 0)) w := by
        simp only [execOp, ho, Sem.run_bind, hv, Option.map_none, Option.map_some, Instr.sliceAt, run_underlying hu, Result.andThen_ok, Instr.slice, hb, run_sizeOf hi, Sem.run_pure]
        rfl
      have hels : Elems i.size [] := ⟨by simp, rfl, rfl⟩
      have hgl := newGen_lt hr.mr hro
      have hl0 : 0 < st.m.length := List.length_pos_iff.2 hr.ne
      obtain ⟨hr', he⟩ := hr.vecput (w' := w) (cap := 0) (b := none) hl0 hro hgl rfl rfl rfl (Nat.le_refl _) (fun k hk _ => rfl) (fun k e => by cases e) hels (.inl ⟨rfl, rfl⟩)
      unfold Oper.wp
      rw [hrun]
      have hd' : o.dst = d := hd
      show K (a.put o.dst _) _
      rw [hd']
      exact hK _ _ _ _ h (hr'.put hdN (.vec rfl (Nat.le_of_eq (by simp [Gh.row])) fun _ => .inl ⟨by simp [Gh.row], rfl, rfl, A, rfl, fun h => by omega⟩)) he
    | _ => simp [hu] at hty

end

end Go.Proofs.YtdgbidbkcigkhaaGreatDoor.Am

namespace Go.Proofs.YtdgbidbkcigkhaaGreatDoor.Am
open Go

def zeroE (sz : Nat) (z : List AV) : AV := if sz = 1 then z.headD .top else .agg z

theorem zeroE_cells {sz : Nat} {z : List AV} (hz : z.length = sz) (hl : z.all AV.leaf = true) : (zeroE sz z).cells = z := by
  unfold zeroE
  split
  · rename_i h
    subst h
    match z, hz with
    | [x], _ =>
      show x.cells = [x]
      exact AV.leaf_cells (by simpa using hl)
  · rfl

theorem flat_replicate {sz : Nat} {z : List AV} (hz : z.length = sz) (hl : z.all AV.leaf = true) : ∀ (n : Nat), flat (List.replicate n (zeroE sz z)) = (List.replicate n z).flatten
  | 0 => rfl
  | n + 1 => by
    rw [List.replicate_succ, flat_cons, zeroE_cells hz hl, flat_replicate hz hl n]
    rfl

theorem flatten_at {z : List AV} (hz : z.length ≠ 0) : ∀ (n j : Nat), j < n * z.length → (List.replicate n z).flatten[j]? = z[j % z.length]?
  | 0, j, h => by omega
  | n + 1, j, h => by
    rw [List.replicate_succ, List.flatten_cons]
    by_cases hj : j < z.length
    · rw [List.getElem?_append_left hj, Nat.mod_eq_of_lt hj]
    · rw [List.getElem?_append_right (by omega), flatten_at hz n (j - z.length) (by rw [Nat.succ_mul] at h; omega)]
      rw [← Nat.mod_eq_sub_mod (by omega)]

theorem mem_replicate_elems {sz : Nat} {z : List AV} (hz : z.length = sz) (hf : AV.rfL z = true) (hl : z.all AV.leaf = true) (n : Nat) : Elems sz (List.replicate n (zeroE sz z)) := by
  refine ⟨fun x hx => ?_, ?_, ?_⟩
  · rw [(List.mem_replicate.1 hx).2, zeroE_cells hz hl, hz]
  · rw [flat_replicate hz hl]
    rw [rfL_all] at hf ⊢
    rw [List.all_eq_true] at hf ⊢
    intro x hx
    obtain ⟨l, h1, h2⟩ := List.mem_flatten.1 hx
    rw [(List.mem_replicate.1 h1).2] at h2
    exact hf x h2
  · rw [flat_replicate hz hl]
    rw [List.all_eq_true] at hl ⊢
    intro x hx
    obtain ⟨l, h1, h2⟩ := List.mem_flatten.1 hx
    rw [(List.mem_replicate.1 h1).2] at h2
    exact hl x h2

section
variable {P : Program} {N : Nat} {st : St} {Q : St → Prop}

theorem rep_zero {G : Gh} {z : List AV} {zs : Array Value} {sz : Nat} (rz : RepL G z zs.toList) (hz : z.length = sz) (h0 : sz ≠ 0) (hlf : z.all AV.leaf = true) (n : Nat) : RepL G (flat (List.replicate n (zeroE sz z))) (Builtin.zeroCells zs n).toList := by
  have hzl : zs.size = sz := by
    have := rz.length
    simp only [Array.length_toList] at this
    omega
  rw [flat_replicate hz hlf]
  have hfl : ((List.replicate n z).flatten).length = n * sz := by simp [hz]
  refine RepL.of_all (by rw [hfl, Array.length_toList, size_zeroCells, hzl]) fun j u v hju hjv => ?_
  have hj : j < n * sz := by
    rw [← hfl]
    exact (List.getElem?_eq_some_iff.1 hju).1
  rw [flatten_at (by rw [hz]; exact h0) n j (by rw [hz]; exact hj), hz] at hju
  obtain ⟨v', hv', hrep⟩ := rz.at_ hju
  have : v = v' := by
    simp only [Builtin.zeroCells, Array.toList_map, Array.toList_range, List.getElem?_map] at hjv
    rw [List.getElem?_range (by rw [hzl]; exact hj)] at hjv
    simp only [Option.map_some, Option.some.injEq] at hjv
    rw [hzl] at hjv
    rw [Array.getElem?_toList] at hv'
    rw [Array.getElem!_eq_getD, Array.getD_eq_getD_getElem?, hv'] at hjv
    simp only [Option.getD_some] at hjv
    exact hjv.symm
  rw [this]; exact hrep

theorem AOps.clr {d : Option Nat} {sz : Nat} {z : List AV} {r : RA} {its : List Item} {l s g o n : Nat} {q : Bool} {xs : List AV} (hr0 : r.ev st.f = .vec l s g o n q) (hlk : look st.m l s = .vec g sz xs) (hon : o + n ≤ xs.length) (hn : 0 < n)
    (h : AOps P N its { st with m := Am.put st.m l s (.vec g sz (xs.take o ++ List.replicate n (zeroE sz z) ++ xs.drop (o + n))), f := updO st.f d (.tup []) } Q) : AOps P N (⟨d, .clr sz z r, none⟩ :: its) st Q := by
  refine AOps.step rfl fun G B a w op hr hd hdN hc K QQ hK => ?_
  cases ho : op.op <;> rw [ho] at hc <;> simp only [chkRO, Bool.false_eq_true] at hc
  rename_i cl
  split at hc
  case h_2 => cases hc
  rename_i o1 x t o2
  cases o2
  simp only [Bool.and_eq_true] at hc
  obtain ⟨hty, hcr⟩ := hc
  cases hu : P.underlying t with
  | none => simp [hu] at hty
  | some dd =>
    cases dd with
    | slice e =>
      simp only [hu, Bool.and_eq_true, Option.any_eq_true, bne_iff_ne, beq_iff_eq] at hty
      obtain ⟨⟨⟨⟨i, hi, ⟨rfl, hz⟩⟩, hsz0⟩, hrf⟩, hlf⟩ := hty
      cases hzv : i.zero with
      | none => rw [hzv] at hz; cases hz
      | some zv =>
        rw [hzv] at hz
        simp only [Bool.and_eq_true, beq_iff_eq] at hz
        have rx := chkA_ok hr hcr
        rw [hr0] at rx
        obtain ⟨e1, e2, e3, e4⟩ := hr.mr.vec l s g i.size xs hlk
        have rz : RepL G z zv.cells.toList := isCL_ok hz.1
        have hzl : zv.cells.size = i.size := by
          have := rz.length
          simp only [Array.length_toList] at this
          omega
        generalize hv : a.eval x = v at rx
        cases rx with
        | vec hv1 hg hh =>
          rcases hh e1.symm with ⟨_, _, hn0, _⟩ | ⟨b, A, c, hb, hoc, rfl, hnc, hcm, _, hA⟩
          · omega
          have hA := hA ⟨by omega, .inr hn⟩
          subst hA
          rw [e2] at hv
          rcases e4 with ⟨e4, _⟩ | ⟨b', e4, hrow⟩
          · rw [hb] at e4; cases e4
          · rw [hb] at e4; cases e4
            obtain ⟨⟨cur, hsoft, hcs, hrep⟩, hle, hmax⟩ := hrow
            have rep0 := rep_zero rz hz.2 hsz0 hlf n
            have hel0 := mem_replicate_elems hz.2 hrf hlf n
            have hls : (Builtin.zeroCells zv.cells n).toList.length = n * i.size := by rw [Array.length_toList, size_zeroCells, hzl]
            have hbig : o * i.size + n * i.size ≤ xs.length * i.size := by rw [← Nat.add_mul]; exact Nat.mul_le_mul_right _ hon
            have hbig2 : xs.length * i.size ≤ cur.size := by rw [hcs]; exact Nat.mul_le_mul_right _ hle
            obtain ⟨w', hst, hs', htn⟩ := run_storeCells_soft P s b (o * i.size) (Builtin.zeroCells zv.cells n).toList 0 w cur hsoft (by omega) (rep0.leaves hel0.leaf)
            have hrun : (Builtin.clear_ #[t] op.type #[a.eval x]).run P w = .ok (.tuple #[]) w' := by
              cases n with
              | zero => omega
              | succ n => simp only [Builtin.clear_, hv, List.getElem?_toArray, List.getElem?_cons_zero, Sem.run_bind, run_underlying hu, Result.andThen_ok, Sem.run_pure, zeroValue, typeInfo, run_program, hi, hzv, hst]
            have hexec : (execOp a.eval op).run P w = .ok (.value (.tuple #[])) w' := by
              simp only [execOp, ho, resolve, invoke, builtin, Sem.run_bind, Sem.run_pure, Result.andThen_ok, List.map_toArray, List.map_cons, List.map_nil, hrun]
            have hfl : flat (xs.take o ++ List.replicate n (zeroE i.size z) ++ xs.drop (o + n)) = (flat xs).take (o * i.size) ++ flat (List.replicate n (zeroE i.size z)) ++ (flat xs).drop (o * i.size + n * i.size) := by
              rw [flat_append, flat_append, flat_take e3.size, ← Nat.add_mul, flat_drop e3.size]
            have hxl : (xs.take o ++ List.replicate n (zeroE i.size z) ++ xs.drop (o + n)).length = xs.length := by simp; omega
            have hels : Elems i.size (xs.take o ++ List.replicate n (zeroE i.size z) ++ xs.drop (o + n)) := by
              refine ⟨fun y hy => ?_, ?_, ?_⟩
              · rcases List.mem_append.1 hy with hy | hy
                · rcases List.mem_append.1 hy with hy | hy
                  · exact e3.size y (List.mem_of_mem_take hy)
                  · exact hel0.size y hy
                · exact e3.size y (List.mem_of_mem_drop hy)
              · rw [hfl]
                simp only [rfL_append, Bool.and_eq_true]
                exact ⟨⟨rfL_sub e3.rf fun y hy => List.mem_of_mem_take hy, hel0.rf⟩, rfL_sub e3.rf fun y hy => List.mem_of_mem_drop hy⟩
              · rw [hfl]
                simp only [List.all_append, Bool.and_eq_true]
                exact ⟨⟨leaf_sub e3.leaf fun y hy => List.mem_of_mem_take hy, hel0.leaf⟩, leaf_sub e3.leaf fun y hy => List.mem_of_mem_drop hy⟩
            have hr' : Rel G B N { st with m := Am.put st.m l s (.vec g i.size (xs.take o ++ List.replicate n (zeroE i.size z) ++ xs.drop (o + n))) } a w' := by
              refine ⟨?_, hr.size, hr.slots, hr.ds, hr.base, by rw [htn.size]; exact hr.top, put_ne hr.ne⟩
              refine hr.mr.rowset hlk hb htn hels ⟨⟨_, hs', ?_, ?_⟩, by rw [hxl]; exact hle, hmax⟩
              · simp only [List.size_toArray, List.length_append, List.length_take, List.length_drop, Array.length_toList, hls]
                rw [Array.length_toList] at hls
                omega
              · rw [hfl, hxl]
                have h6 : (cur.toList.take (o * i.size + 0) ++ (Builtin.zeroCells zv.cells n).toList ++ cur.toList.drop (o * i.size + 0 + (Builtin.zeroCells zv.cells n).toList.length)).toArray.toList.take (xs.length * i.size) = (cur.toList.take (xs.length * i.size)).take (o * i.size) ++ (Builtin.zeroCells zv.cells n).toList ++ (cur.toList.take (xs.length * i.size)).drop (o * i.size + (Builtin.zeroCells zv.cells n).toList.length) := by
                  simp only [Nat.add_zero]
                  exact take_splice _ _ _ _ (by omega) (by simp only [Array.length_toList]; omega)
                rw [h6, hls]
                exact ((hrep.take _).append rep0).append (hrep.drop _)
            unfold Oper.wp
            rw [hexec]
            have hd' : op.dst = d := hd
            show K (a.put op.dst _) _
            rw [hd']
            exact hK _ _ _ _ h (hr'.put hdN (.tup .nil)) (Ext.turned htn (.inr ⟨l, s, hb⟩))
    | _ => simp [hu] at hty

theorem AOps.mk {d : Option Nat} {site el sz bytes : Nat} {z : List AV} {l c : RA} {its : List Item} {kl kc : IntKind} {n m : Nat} (hl : l.ev st.f = .int kl (n : Int)) (hcv : c.ev st.f = .int kc (m : Int)) (hnm : n ≤ m) (hm : m ≤ 9223372036854775807) (hb : bytes * m ≤ 281474976710656)
    (hro : rowOrNone (look st.m 0 site) = true)
    (h : AOps P N its { st with m := Am.put st.m 0 site (.vec (newGen st.m 0 site) sz (List.replicate n (zeroE sz z))), f := updO st.f d (.vec 0 site (newGen st.m 0 site) 0 n false) } Q) : AOps P N (⟨d, .mk site el sz bytes z l c, none⟩ :: its) st Q := by
  refine AOps.step rfl fun G B a w o hr hd hdN hc K QQ hK => ?_
  cases ho : o.op <;> rw [ho] at hc <;> simp only [chkRO, Bool.false_eq_true] at hc
  rename_i t x y
  simp only [Bool.and_eq_true] at hc
  obtain ⟨⟨hty, hcl⟩, hcc⟩ := hc
  cases hu : P.underlying t with
  | none => simp [hu] at hty
  | some dd =>
    cases dd with
    | slice e =>
      simp only [hu, Bool.and_eq_true, Option.any_eq_true, bne_iff_ne, beq_iff_eq] at hty
      obtain ⟨⟨⟨⟨⟨⟨i, hi, ⟨rfl, rfl⟩, hz⟩, hsz0⟩, rfl⟩, hte⟩, hrf⟩, hlf⟩ := hty
      cases hzv : i.zero with
      | none => rw [hzv] at hz; cases hz
      | some zv =>
        rw [hzv] at hz
        simp only [Bool.and_eq_true, beq_iff_eq] at hz
        have rl := chkA_ok hr hcl
        have rc := chkA_ok hr hcc
        rw [hl] at rl
        rw [hcv] at rc
        have hxv : a.eval x = .int kl (n : Int) := by
          revert rl
          generalize a.eval x = v
          intro rl
          cases rl
          rfl
        have hyv : a.eval y = .int kc (m : Int) := by
          revert rc
          generalize a.eval y = v
          intro rc
          cases rc
          rfl
        have hbb : (i.bytes : Int) * (m : Int) ≤ 281474976710656 := by
          have h : ((i.bytes * m : Nat) : Int) ≤ 281474976710656 := by omega
          rwa [Int.natCast_mul] at h
        have hrun := run_make (P := P) w t e i zv hu hi hzv kl kc (n : Int) (m : Int) (by omega) (by omega) hbb (by omega)
        simp only [Int.toNat_natCast] at hrun
        have rz : RepL G z zv.cells.toList := isCL_ok hz.1
        have hzl : zv.cells.size = i.size := by
          have := rz.length
          simp only [Array.length_toList] at this
          omega
        have hsize : (madeCells zv.cells (m * i.size)).size = m * i.size := size_madeCells _ _
        have hrow : RowIs G site (w.alloc (.cells (madeCells zv.cells (m * i.size)) e)) w.heap.size m i.size (List.replicate n (zeroE i.size z)) := by
          refine ⟨⟨_, Soft.new w _ e hte, hsize, ?_⟩, by simpa using hnm, by simp only [maxLen]; omega⟩
          rw [flat_replicate hz.2 hlf, List.length_replicate]
          have hfl : ((List.replicate n z).flatten).length = n * i.size := by simp [hz.2]
          have hle : n * i.size ≤ m * i.size := Nat.mul_le_mul_right _ hnm
          refine RepL.of_all (by rw [hfl, List.length_take, Array.length_toList, hsize]; exact Nat.min_eq_left hle) fun j u v hju hjv => ?_
          have hj : j < n * i.size := by
            rw [← hfl]
            exact (List.getElem?_eq_some_iff.1 hju).1
          rw [flatten_at (by rw [hz.2]; exact hsz0) n j (by rw [hz.2]; exact hj), hz.2] at hju
          have hmod : j % i.size < i.size := Nat.mod_lt _ (by omega)
          obtain ⟨v', hv', hrep⟩ := rz.at_ hju
          rw [List.getElem?_take_of_lt hj] at hjv
          have : v = v' := by
            simp only [madeCells, Array.toList_map, Array.toList_range, List.getElem?_map] at hjv
            rw [List.getElem?_range (by omega)] at hjv
            simp only [Option.map_some, Option.some.injEq] at hjv
            rw [hzl] at hjv
            rw [Array.getElem?_toList] at hv'
            rw [Array.getElem!_eq_getD, Array.getD_eq_getD_getElem?, hv'] at hjv
            simp only [Option.getD_some] at hjv
            exact hjv.symm
          rw [this]; exact hrep
        have hgl := newGen_lt hr.mr hro
        have hl0 : 0 < st.m.length := List.length_pos_iff.2 hr.ne
        obtain ⟨hr', he⟩ := hr.vecput (w' := w.alloc (.cells (madeCells zv.cells (m * i.size)) e)) (cap := m) (b := some w.heap.size) hl0 hro hgl rfl rfl rfl (by simp) (fun k hk _ => RowKit.Below.heap_alloc w _ k hk) (fun k e => by cases e; exact .inr (Nat.le_refl _)) (mem_replicate_elems hz.2 hrf hlf n) (.inr ⟨_, rfl, hrow⟩)
        have hexec : (execOp a.eval o).run P w = .ok (.value (.slice (some ⟨w.heap.size, 0, none⟩) n m)) (w.alloc (.cells (madeCells zv.cells (m * i.size)) e)) := by
          simp only [execOp, ho, Sem.run_bind, hxv, hyv, hrun, Result.andThen_ok]
          rfl
        unfold Oper.wp
        rw [hexec]
        have hd' : o.dst = d := hd
        show K (a.put o.dst _) _
        rw [hd']
        refine hK _ _ _ _ h (hr'.put hdN (.vec rfl (Nat.le_of_eq (by simp [Gh.row])) fun _ => .inr ⟨w.heap.size, ⟨w.heap.size, 0, none⟩, m, by simp [Gh.row], by simp [Gh.row]; exact hnm, rfl, hnm, by simp only [maxLen]; omega, fun _ => by simp [Gh.row], fun _ => by simp⟩)) he
    | _ => simp [hu] at hty

theorem AOps.s2b {d : Option Nat} {site el : Nat} {r : RA} {its : List Item} {s : List UInt8} (hs : r.ev st.f = .str s) (hm : s.length ≤ 9223372036854775807) (hro : rowOrNone (look st.m 0 site) = true)
    (h : AOps P N its { st with m := Am.put st.m 0 site (.vec (newGen st.m 0 site) 1 (bytesAV s)), f := updO st.f d (.vec 0 site (newGen st.m 0 site) 0 s.length false) } Q) : AOps P N (⟨d, .s2b site el r, none⟩ :: its) st Q := by
  refine AOps.step rfl fun G B a w o hr hd hdN hc K QQ hK => ?_
  cases ho : o.op <;> rw [ho] at hc <;> simp only [chkRO, Bool.false_eq_true] at hc
  rename_i src dst x
  simp only [Bool.and_eq_true] at hc
  obtain ⟨⟨hst, hty⟩, hcx⟩ := hc
  cases hu : P.underlying dst with
  | none => simp [hu] at hty
  | some dd =>
    cases dd with
    | slice e =>
      simp only [hu, Bool.and_eq_true, beq_iff_eq] at hty
      obtain ⟨⟨hint, rfl⟩, hte⟩ := hty
      have he8 : P.underlying e = some (.int .u8) := by
        unfold isInt at hint
        split at hint
        · rename_i k hk
          simp only [beq_iff_eq] at hint
          rw [hk, ← hint]
        · cases hint
      have rx := chkA_ok hr hcx
      rw [hs] at rx
      have hxv : a.eval x = .string ⟨⟨s⟩⟩ := by
        revert rx
        generalize a.eval x = v
        intro rx
        cases rx
        rfl
      have hrun := run_bytes_of_string (P := P) w src dst e ⟨⟨s⟩⟩ (isStr_ok hst) hu he8
      have hsz : (⟨⟨s⟩⟩ : ByteArray).size = s.length := rfl
      rw [hsz] at hrun
      have hge := grownCap_ge w s.length 0 e
      have hcm := grownCap_le_maxLen w s.length 0 e (by simp only [maxLen]; omega)
      generalize hcap : grownCap w s.length 0 e = cap at hrun hge hcm
      have hrs : (bytesRow ⟨⟨s⟩⟩ cap).size = cap * 1 := by
        simp only [bytesRow, Array.size_append, Array.size_map, Array.size_replicate, hsz, List.size_toArray]
        omega
      have hrow : RowIs G site (w.drew.alloc (.cells (bytesRow ⟨⟨s⟩⟩ cap) e ((bytesRow ⟨⟨s⟩⟩ cap).size, (bytesRow ⟨⟨s⟩⟩ cap).size + 1))) w.heap.size cap 1 (bytesAV s) := by
        refine ⟨⟨bytesRow ⟨⟨s⟩⟩ cap, ⟨e, _, _, heap_alloc_new w.drew _, hte, fun o ho => by omega⟩, hrs, ?_⟩, by simpa [bytesAV] using hge, hcm⟩
        rw [bytesAV_flat]
        have : (bytesRow ⟨⟨s⟩⟩ cap).toList.take ((bytesAV s).length * 1) = s.map fun b => Value.int .u8 (b.toNat : Int) := by
          have hl : (bytesAV s).length * 1 = (s.map fun b => Value.int .u8 (b.toNat : Int)).length := by simp [bytesAV]
          rw [hl]
          simp only [bytesRow, Array.toList_append, Array.toList_map]
          exact List.take_left
        rw [this]
        exact bytesAV_rep s
      have hgl := newGen_lt hr.mr hro
      have hl0 : 0 < st.m.length := List.length_pos_iff.2 hr.ne
      obtain ⟨hr', he⟩ := hr.vecput (w' := w.drew.alloc (.cells (bytesRow ⟨⟨s⟩⟩ cap) e ((bytesRow ⟨⟨s⟩⟩ cap).size, (bytesRow ⟨⟨s⟩⟩ cap).size + 1))) (cap := cap) (b := some w.heap.size) hl0 hro hgl rfl rfl rfl (by simp) (fun k hk _ => RowKit.Below.heap_alloc w.drew _ k hk) (fun k e => by cases e; exact .inr (Nat.le_refl _)) (bytesAV_elems s) (.inr ⟨_, rfl, hrow⟩)
      have hexec : (execOp a.eval o).run P w = .ok (.value (.slice (some ⟨w.heap.size, 0, none⟩) s.length cap)) (w.drew.alloc (.cells (bytesRow ⟨⟨s⟩⟩ cap) e ((bytesRow ⟨⟨s⟩⟩ cap).size, (bytesRow ⟨⟨s⟩⟩ cap).size + 1))) := by
        simp only [execOp, ho, Sem.run_bind, hxv, hrun, Result.andThen_ok]
        rfl
      unfold Oper.wp
      rw [hexec]
      have hd' : o.dst = d := hd
      show K (a.put o.dst _) _
      rw [hd']
      refine hK _ _ _ _ h (hr'.put hdN (.vec rfl (Nat.le_of_eq (by simp [Gh.row])) fun _ => .inr ⟨w.heap.size, ⟨w.heap.size, 0, none⟩, cap, by simp [Gh.row], by simp [Gh.row]; exact hge, rfl, hge, hcm, fun _ => by simp [Gh.row], fun _ => by simp⟩)) he
    | _ => simp [hu] at hty

theorem Rel.other {G : Gh} {B : Nat} {a : Act} {w : World} (hr : Rel G B N st a w) (o : Obj) : Rel G B N st a (w.alloc o) ∧ Ext 1 G w G (w.alloc o) := by
  have hold : ∀ b, b < w.heap.size → (w.alloc o).heap[b]? = w.heap[b]? := fun b hb => RowKit.Below.heap_alloc w _ b hb
  have hs : ∀ b k v, G.stab b k = some v → rd (w.alloc o) b k v := fun b k v e => rd_block (hold b (rd_lt (hr.mr.stab b k v e))) (hr.mr.stab b k v e)
  have hmr : MR G st.m (w.alloc o) := hr.mr.kept (stab := G.stab) hold hs (fun _ _ _ h => h) fun b hb => (hr.mr.mine hb).2
  refine ⟨⟨hmr, hr.size, hr.slots, hr.ds, hr.base, Nat.le_trans hr.top (by simp), hr.ne⟩, rfl, rfl, rfl, by simp, fun _ _ _ h => h, fun _ _ _ => rfl, fun _ _ => Nat.le_refl _, fun _ _ _ => ⟨rfl, rfl, rfl⟩, fun b hb _ => ⟨hold b hb, fun _ => rfl⟩, fun _ h => .inl h, fun l s _ h => .inl ⟨l, s, Nat.le_refl _, h⟩⟩

theorem AOps.usd {d : Option Nat} {r : RA} {its : List Item} {l s g n : Nat} {sz : Nat} {xs : List AV} (hs2 : 2000 ≤ s) (hx : r.ev st.f = .vec l s g 0 n false) (hlk : look st.m l s = .vec g sz xs)
    (h : AOps P N its { st with f := updO st.f d (if n = 0 then .anyp else .vptr l s g 0 0) } Q) : AOps P N (⟨d, .usd r, none⟩ :: its) st Q := by
  refine AOps.stepT rfl fun G B a w o hr hd hdN hc hT K QQ hK => ?_
  cases ho : o.op <;> rw [ho] at hc <;> simp only [chkRO, Bool.false_eq_true] at hc
  rename_i cl
  split at hc
  case h_2 => cases hc
  rename_i o1 x ts o2
  cases o2
  simp only [chkT] at hT
  split at hT
  case h_2 => cases hT
  rename_i pe hpe
  have rx := chkA_ok hr hc
  rw [hx] at rx
  have hd' : o.dst = d := hd
  have fin : ∀ (v : Value) (w' : World), (Builtin.unsafeSliceData_ ts o.type #[a.eval x]).run P w = .ok v w' → (Rel G B N st a w' ∧ Ext 1 G w G w') → Rep G (if n = 0 then .anyp else .vptr l s g 0 0) v → o.wp P a w K QQ := by
    intro v w' hrun hrel hrep
    have hexec : (execOp a.eval o).run P w = .ok (.value v) w' := by
      simp only [execOp, ho, resolve, invoke, builtin, Sem.run_bind, Sem.run_pure, Result.andThen_ok, List.map_toArray, List.map_cons, List.map_nil, hrun]
    unfold Oper.wp
    rw [hexec]
    show K (a.put o.dst v) w'
    rw [hd']
    exact hK _ _ _ _ h (hrel.1.put hdN hrep) hrel.2
  obtain ⟨e1, e2, e3, e4⟩ := hr.mr.vec l s g sz xs hlk
  generalize a.eval x = v at rx fin
  cases rx with
  | vec hone hg hh =>
    rcases hh e1.symm with ⟨hvm, _, rfl, A0, rfl, hA0⟩ | ⟨b, A, c, hvm, hok, rfl, hkc, hcm, hq, hA⟩
    · rw [hA0 hs2] at fin
      exact fin _ w (Lib.run_unsafeSliceData_nil w _ _ 0 0) ⟨hr, Ext.refl 1 G w⟩ (by rw [if_pos rfl]; exact .anyp none)
    · have hA' := hA ⟨.inr rfl, .inl rfl⟩
      simp only [Nat.zero_mul] at hA'
      subst hA'
      by_cases hc0 : c = 0
      · subst hc0
        have hn : n = 0 := by omega
        subst hn
        rcases e4 with ⟨e, _⟩ | ⟨b', e, hrow⟩
        · rw [hvm] at e; cases e
        · rw [hvm] at e; cases e
          obtain ⟨cur, ⟨t', lo, hi, hheap, _⟩, _⟩ := hrow.cur
          have hsh : w.shape? b = some (t', cur.size) := by unfold World.shape?; rw [hheap]
          exact fin _ _ (Lib.run_unsafeSliceData_zero w _ _ pe hpe ⟨b, 0, none⟩ 0 _ hsh) (hr.other _) (by rw [if_pos rfl]; exact .anyp _)
      · refine fin _ w (Lib.run_unsafeSliceData_row w _ _ _ _ _ hc0) ⟨hr, Ext.refl 1 G w⟩ ?_
        by_cases hn : n = 0
        · rw [if_pos hn]; exact .anyp _
        · rw [if_neg hn]
          exact .vptr rfl hg fun _ => ⟨b, hvm, by simp⟩

theorem AOps.ustr0 {d : Option Nat} {el : Nat} {p r : RA} {its : List Item} (hp : p.ev st.f = .anyp) (hx : r.ev st.f = .int .i64 0)
    (h : AOps P N its { st with f := updO st.f d (.str []) } Q) : AOps P N (⟨d, .ustr el p r, none⟩ :: its) st Q := by
  refine AOps.step rfl fun G B a w o hr hd hdN hc K QQ hK => ?_
  cases ho : o.op <;> rw [ho] at hc <;> simp only [chkRO, Bool.false_eq_true] at hc
  rename_i cl
  split at hc
  case h_2 => cases hc
  rename_i o1 x y pt it o2
  cases o2
  simp only [Bool.and_eq_true] at hc
  obtain ⟨⟨h1, h2⟩, h3⟩ := hc
  have r1 := chkA_ok hr h2
  have r2 := chkA_ok hr h3
  rw [hp] at r1
  rw [hx] at r2
  have hyv : a.eval y = .int .i64 0 := by
    revert r2
    generalize a.eval y = v
    intro r2
    cases r2
    rfl
  obtain ⟨q, hxv⟩ : ∃ q, a.eval x = .pointer q := by
    revert r1
    generalize a.eval x = v
    intro r1
    cases r1
    exact ⟨_, rfl⟩
  have hrun := Lib.run_unsafeString_none (P := P) w pt it o.type q
  have hexec : (execOp a.eval o).run P w = .ok (.value (.string .empty)) w := by
    simp only [execOp, ho, resolve, invoke, builtin, Sem.run_bind, Sem.run_pure, Result.andThen_ok, List.map_toArray, List.map_cons, List.map_nil, hxv, hyv, hrun]
  unfold Oper.wp
  rw [hexec]
  have hd' : o.dst = d := hd
  show K (a.put o.dst _) _
  rw [hd']
  exact hK _ _ _ _ h (hr.put hdN (.str [])) (Ext.refl 1 G w)

theorem AOps.ustr {d : Option Nat} {el : Nat} {p r : RA} {its : List Item} {l g n : Nat} {xs : List AV} {s : List UInt8} (hp : p.ev st.f = .vptr l (el + 2000) g 0 0) (hx : r.ev st.f = .int .i64 (n : Int)) (hlk : look st.m l (el + 2000) = .vec g 1 xs) (hn : n ≤ xs.length) (hn0 : n ≠ 0) (hs : xs.take n = bytesAV s)
    (h : AOps P N its { st with m := Am.put st.m l (el + 2000) (.vec (g + 1) 1 []), f := updO st.f d (.str s) } Q) : AOps P N (⟨d, .ustr el p r, none⟩ :: its) st Q := by
  refine AOps.step rfl fun G B a w o hr hd hdN hc K QQ hK => ?_
  cases ho : o.op <;> rw [ho] at hc <;> simp only [chkRO, Bool.false_eq_true] at hc
  rename_i cl
  split at hc
  case h_2 => cases hc
  rename_i o1 x y pt it o2
  cases o2
  simp only [Bool.and_eq_true] at hc
  obtain ⟨⟨h1, h2⟩, h3⟩ := hc
  split at h1
  case h_2 => cases h1
  rename_i e hpt
  simp only [Bool.and_eq_true, beq_iff_eq] at h1
  obtain ⟨rfl, hco⟩ := h1
  have r1 := chkA_ok hr h2
  have r2 := chkA_ok hr h3
  rw [hp] at r1
  rw [hx] at r2
  have hyv : a.eval y = .int .i64 (n : Int) := by
    revert r2
    generalize a.eval y = v
    intro r2
    cases r2
    rfl
  obtain ⟨e1, e2, e3, e4⟩ := hr.mr.vec l (e + 2000) g 1 xs hlk
  have hsl : s.length = n := by
    have := congrArg List.length hs
    simp only [List.length_take, bytesAV, List.length_map] at this
    omega
  obtain ⟨b, hvm, hrow⟩ : ∃ b, G.vm l (e + 2000) = some b ∧ RowIs G (e + 2000) w b (G.vc l (e + 2000)) 1 xs := by
    rcases e4 with ⟨_, e⟩ | h'
    · subst e; simp at hn; exact absurd hn hn0
    · exact h'
  have hxv : a.eval x = .pointer (some ⟨b, 0, none⟩) := by
    revert r1
    generalize a.eval x = v
    intro r1
    cases r1 with
    | vptr _ _ hh =>
      obtain ⟨b', e', rfl⟩ := hh e1.symm
      rw [hvm] at e'; cases e'
      simp
  obtain ⟨⟨cur, ⟨t', lo, hi, hheap, hty, hfr⟩, hcsz, hrep⟩, hle, hmx⟩ := hrow
  have ht : t' = e := tyOk_eq (s := e + 2000) hty (by simp [tyOk]) (by omega)
  subst ht
  have hsh : w.shape? b = some (t', cur.size) := by unfold World.shape?; rw [hheap]
  have hne : s ≠ [] := by rintro rfl; simp at hsl; exact hn0 hsl.symm
  have hcell : ∀ j u, s[j]? = some u → w.cell? ((⟨b, 0, none⟩ : Addr).add j) = some (.int .u8 u.toNat) := by
    intro j u hj
    rw [add_plain, Nat.zero_add, cell_of_row w b j cur t' (lo, hi) hheap, ← Array.getElem?_toList]
    have hjl : j < s.length := (List.getElem?_eq_some_iff.1 hj).1
    have hrep' := hrep.take n
    rw [Nat.mul_one, List.take_take, Nat.min_eq_left hn] at hrep'
    have hft : (flat xs).take n = bytesAV s := by
      have := flat_take e3.size n
      rw [Nat.mul_one] at this
      rw [this, hs, bytesAV_flat]
    rw [hft] at hrep'
    have hb : (bytesAV s)[j]? = some (.int .u8 (u.toNat : Int)) := by simp [bytesAV, hj]
    obtain ⟨v, hv, hr1⟩ := hrep'.at_ hb
    cases hr1
    rw [List.getElem?_take] at hv
    split at hv
    · exact hv
    · cases hv
  have hlc : s.length ≤ cur.size := by rw [hcsz, hsl]; omega
  have hrun := Lib.run_unsafeString_row (P := P) w pt it o.type t' hpt hco b cur.size hsh s hne hlc (by simp only [maxLen] at hmx; omega) hcell
  rw [hsl] at hrun
  have hexec : (execOp a.eval o).run P w = .ok (.value (.string ⟨s.toArray⟩)) (w.freeze ⟨b, 0, none⟩ n) := by
    simp only [execOp, ho, resolve, invoke, builtin, Sem.run_bind, Sem.run_pure, Result.andThen_ok, List.map_toArray, List.map_cons, List.map_nil, hxv, hyv, hrun]
  have hfz : (w.freeze ⟨b, 0, none⟩ n).os = w.os ∧ (w.freeze ⟨b, 0, none⟩ n).tape = w.tape ∧ (w.freeze ⟨b, 0, none⟩ n).output = w.output ∧ (w.freeze ⟨b, 0, none⟩ n).heap.size = w.heap.size ∧ ∀ k, k ≠ b → (w.freeze ⟨b, 0, none⟩ n).heap[k]? = w.heap[k]? := by
    unfold World.freeze
    split
    · exact ⟨rfl, rfl, rfl, rfl, fun _ _ => rfl⟩
    · refine ⟨rfl, rfl, rfl, by simp, fun k hk => ?_⟩
      simp only [Array.getElem?_modify]
      rw [if_neg (fun e => hk e.symm)]
  have hlm : l < st.m.length := look_lt (by rw [hlk]; simp)
  obtain ⟨hr', he⟩ := hr.vecput (w' := w.freeze ⟨b, 0, none⟩ n) (l := l) (s := t' + 2000) (g := g + 1) (sz := 1) (cap := 0) (b := none) (ys := []) hlm (by rw [hlk]; rfl) (by omega) hfz.1 hfz.2.1 hfz.2.2.1 (by rw [hfz.2.2.2.1]; exact Nat.le_refl _) (fun k _ hk => hfz.2.2.2.2 k (fun e => hk (by rw [e, hvm]))) (fun k e => by cases e) ⟨by simp, rfl, rfl⟩ (.inl ⟨rfl, rfl⟩)
  unfold Oper.wp
  rw [hexec]
  have hd' : o.dst = d := hd
  show K (a.put o.dst _) _
  rw [hd']
  exact hK _ _ _ _ h (hr'.put hdN (.str s)) he

theorem AOps.dfr {d : Option Nat} {f : RA} {args : List RA} {its : List Item} {fn : Fn} {fa fb : List AV} (hf : f.ev st.f = .fn fn fa fb)
    (h : AOps P N its { st with ds := ⟨fn, fb, fa ++ args.map (RA.ev st.f)⟩ :: st.ds, f := updO st.f d (.tup []) } Q) : AOps P N (⟨d, .dfr f args, none⟩ :: its) st Q := by
  refine AOps.step rfl fun G B a w o hr hd hdN hc K QQ hK => ?_
  cases ho : o.op <;> rw [ho] at hc <;> simp only [chkRO, Bool.false_eq_true] at hc
  rename_i cl
  split at hc
  case h_2 => cases hc
  rename_i o1 x xs ts o2
  cases o2
  simp only [Bool.and_eq_true] at hc
  have r1 := chkA_ok hr hc.1
  have r2 := chkAs_ok hr hc.2
  rw [hf] at r1
  obtain ⟨va, vb, hxv, ra, rb⟩ : ∃ va vb, a.eval x = .func fn ⟨va⟩ ⟨vb⟩ ∧ RepL G fa va ∧ RepL G fb vb := by
    revert r1
    generalize a.eval x = v
    intro r1
    cases r1 with
    | fn ha hb => exact ⟨_, _, rfl, ha, hb⟩
  have e1 : xs.map a.eval = ⟨xs.toList.map a.eval⟩ := by apply Array.ext'; simp
  have hexec : (execOp a.eval o).run P w = .ok (.defer { target := .fn fn ⟨vb⟩, args := ⟨va ++ xs.toList.map a.eval⟩ }) w := by
    simp only [execOp, ho, resolve, hxv, Deferred.ofValue, e1, Sem.run_bind, Sem.run_pure, Result.andThen_ok, List.append_toArray]
  unfold Oper.wp
  rw [hexec]
  have hd' : o.dst = d := hd
  rw [Oper.upon_defer]
  rw [hd']
  refine hK G { st with ds := ⟨fn, fb, fa ++ args.map (RA.ev st.f)⟩ :: st.ds, f := updO st.f d (.tup []) } _ w h ?_ (Ext.refl 1 G w)
  have hr2 : Rel G B N { st with ds := ⟨fn, fb, fa ++ args.map (RA.ev st.f)⟩ :: st.ds } { a with defers := { target := .fn fn ⟨vb⟩, args := ⟨va ++ xs.toList.map a.eval⟩ } :: a.defers } w :=
    ⟨hr.mr, hr.size, hr.slots, .cons (.mk rb (ra.append r2)) hr.ds, hr.base, hr.top, hr.ne⟩
  exact hr2.put hdN (.tup .nil)

end

end Go.Proofs.YtdgbidbkcigkhaaGreatDoor.Am

namespace Go.Proofs.YtdgbidbkcigkhaaGreatDoor.Am
open Go

theorem vec_list {G G' : Gh} {m : Mem} {w : World} (h : MR G m w) {s g sz o n : Nat} {q : Bool} {xs : List AV} {v : Value} (hlk : look m 0 s = .vec g sz xs) (hle : o + n ≤ xs.length) (hr : Rep G (.vec 0 s g o n q) v)
    (hst : G.sameStab G') (hpub : ∀ b o v, G.vm 0 s = some b → w.cell? ⟨b, o, none⟩ = some v → G'.stab b o = some (.cell v)) : Rep G' (.list ((xs.drop o).take n)) v := by
  obtain ⟨e1, e2, e3, e4⟩ := h.vec 0 s g sz xs hlk
  have hmem : ∀ x ∈ (xs.drop o).take n, x ∈ xs := fun x hx => List.mem_of_mem_drop (List.mem_of_mem_take hx)
  cases hr with
  | vec hone hg hh' =>
    rcases hh' e1.symm with ⟨hvm, rfl, rfl, A0, rfl, hA0⟩ | ⟨b, A, c, hvm, hok, rfl, hkc, hcm, hq, hA⟩
    · simp only [List.take_zero]
      exact .list (sz := 0) (cs := []) .nil (by simp) rfl rfl (by simp) rfl (Nat.le_refl _) (Nat.zero_le _)
    · rcases e4 with ⟨e, _⟩ | ⟨b', e, hrow⟩
      · rw [hvm] at e; cases e
      · rw [hvm] at e; cases e
        obtain ⟨cur, hsoft, hcs, hrep⟩ := hrow.cur
        have hr := (RepL.rfd hst e3.rf hrep).takeDrop (o * sz) (n * sz)
        rw [flat_drop e3.size, flat_take (fun x hx => e3.size x (List.mem_of_mem_drop hx))] at hr
        refine .list (sz := sz) hr (fun x hx => e3.size x (hmem x hx)) (rfL_sub e3.rf (flat_mem hmem)) (leaf_sub e3.leaf (flat_mem hmem)) (fun j u hu => ?_) (by simp; omega) hkc (by omega)
        rw [List.getElem?_take] at hu
        split at hu
        · rename_i hj
          rw [List.getElem?_drop, List.getElem?_take] at hu
          split at hu
          · have hk : 0 < n := by
              rcases Nat.eq_zero_or_pos n with h0 | h0
              · subst h0; simp at hj
              · exact h0
            have hovc : o < G.vc 0 s := Nat.lt_of_lt_of_le (Nat.lt_add_of_pos_right hk) hok
            have hA' := hA ⟨.inl hovc, .inr hk⟩
            rw [e2] at hA'
            refine ⟨b, o * sz, by rw [hA'], hpub b (o * sz + j) u hvm ?_⟩
            rw [hsoft.cell]
            simpa using hu
          · cases hu
        · cases hu

theorem Rel.pub0 {G : Gh} {B N : Nat} {st : St} {a : Act} {w : World} (h : Rel G B N st a w) {site g sz : Nat} {xs : List AV} (hlk : look st.m 0 site = .vec g sz xs) :
    ∃ G', Rel G' B N { st with m := Am.put st.m 0 site (.vec (g + 1) sz []) } a w ∧ Ext 1 G w G' w ∧ (∀ o n q v, o + n ≤ xs.length → Rep G (.vec 0 site g o n q) v → Rep G' (.list ((xs.drop o).take n)) v) ∧ G'.nm = G.nm := by
  have hl : 0 < st.m.length := List.length_pos_iff.2 h.ne
  have hro : rowOrNone (look st.m 0 site) = true := by rw [hlk]; rfl
  have hvg := (h.mr.vec 0 site g sz xs hlk).1
  obtain ⟨h1, h2⟩ := h.vecput (w' := w) (sz := sz) (cap := 0) (b := none) (g := g + 1) (ys := []) hl hro (by omega) rfl rfl rfl (Nat.le_refl _) (fun _ _ _ => rfl) (fun k e => by cases e) ⟨by simp, rfl, rfl⟩ (.inl ⟨rfl, rfl⟩)
  generalize hG1 : G.row 0 site none 0 (g + 1) sz = G1 at h1 h2
  have hst1 : G1.stab = G.stab := by rw [← hG1]; rfl
  have hnm1 : G1.nm = G.nm := by rw [← hG1]; rfl
  have hvm1 : ∀ l s, G1.vm l s = if l = 0 ∧ s = site then none else G.vm l s := by rw [← hG1]; exact fun _ _ => rfl
  have hle1 : Gle G1 (G1.pub w fun b => G.vm 0 site = some b) := Gh.pub_gle h1.mr.stab
  have nS : ∀ l s b, G1.nm l s = some b → ¬ G.vm 0 site = some b := fun l s b e => by rw [hnm1] at e; exact h.mr.inj3 _ _ _ _ _ e
  have vS : ∀ l s b, G1.vm l s = some b → ¬ G.vm 0 site = some b := fun l s b e e' => by
    rw [hvm1] at e
    split at e
    · cases e
    · rename_i hh; exact hh (h.mr.inj2 _ _ _ _ _ e e')
  refine ⟨G1.pub w fun b => G.vm 0 site = some b, ⟨⟨?_, ?_, ?_, ?_, ?_, h1.mr.gone, h1.mr.inj1, h1.mr.inj2, h1.mr.inj3, h1.mr.iter⟩, h.size, ?_, h1.ds.mono hle1, h1.base, h1.top, h1.ne⟩, ?_, ?_, hnm1⟩
  · intro b o v e
    by_cases hS : G.vm 0 site = some b ∧ ∀ o, GTab b o = none
    · rw [Gh.pub_c hS] at e; exact rd_sv e
    · rw [Gh.pub_n hS] at e; exact h1.mr.stab b o v e
  · intro l s zs e
    obtain ⟨b, cs, e', hc, hr⟩ := h1.mr.cells l s zs e
    exact ⟨b, cs, e', hc, hr.mono (hle1.dn l)⟩
  · intro l s b e
    obtain ⟨g1, g2⟩ := h1.mr.nm l s b e
    exact ⟨g1, fun o => by rw [Gh.pub_out (nS l s b e)]; exact g2 o⟩
  · intro l s g' z zs e
    obtain ⟨a1, a2, a3, a4⟩ := h1.mr.vec l s g' z zs e
    exact ⟨a1, a2, a3, a4.imp id fun ⟨b, e', r⟩ => ⟨b, e', r.of rfl fun vs hv => RepL.rfd hle1.stab a3.rf hv⟩⟩
  · intro l s b e
    obtain ⟨g1, g2⟩ := h1.mr.vm l s b e
    exact ⟨g1, fun o => by rw [Gh.pub_out (vS l s b e)]; exact g2 o⟩
  · exact fun i => (h1.slots i).mono hle1
  · refine ⟨rfl, rfl, rfl, Nat.le_refl _, fun b o v e => hle1.stab b o v (by rw [hst1]; exact e), fun l s _ => by show G1.nm l s = _; rw [hnm1], h2.vg, h2.vs, fun b hb hm => ⟨rfl, fun o => ?_⟩, h2.mine, h2.mv⟩
    rw [Gh.pub_out (fun e => hm (.inr ⟨0, site, e⟩)), hst1]
  · intro o n q v hle hr
    refine vec_list h.mr hlk hle hr (fun b o v e => ?_) (fun b o v e hv => ?_)
    · exact hle1.stab b o v (by rw [hst1]; exact e)
    · rw [Gh.pub_in e (Gh.notab (h.mr.vm 0 site b e).2)]; exact sv_cell hv

theorem Rel.publish {G : Gh} {B N : Nat} {st : St} {a : Act} {w : World} (h : Rel G B N st a w) {slot site g sz o n : Nat} {q : Bool} {xs : List AV} (hs : st.f slot = .vec 0 site g o n q) (hlk : look st.m 0 site = .vec g sz xs) (hle : o + n ≤ xs.length) :
    ∃ G', Rel G' B N { st with m := Am.put st.m 0 site (.vec (g + 1) sz []), f := upd st.f slot (.list ((xs.drop o).take n)) } a w ∧ Ext 1 G w G' w := by
  obtain ⟨G', h1, h2, h3, h4⟩ := h.pub0 hlk
  refine ⟨G', ⟨h1.mr, h1.size, fun i => ?_, h1.ds, h1.base, h1.top, h1.ne⟩, h2⟩
  by_cases hi : i = slot
  · subst hi
    show Rep _ (upd st.f i _ i) _
    rw [upd_same]
    have hr := h.slots i
    rw [hs] at hr
    exact h3 _ _ _ _ hle hr
  · show Rep _ (upd st.f slot _ i) _
    rw [upd_ne _ _ hi]
    exact h1.slots i

theorem Rel.publishc {G : Gh} {B N : Nat} {st : St} {a : Act} {w : World} (h : Rel G B N st a w) {s idx site g sz o n : Nat} {q : Bool} {xs cs : List AV} (hc : look st.m 0 s = .cells cs) (hs : cs[idx]? = some (.vec 0 site g o n q)) (hlk : look st.m 0 site = .vec g sz xs) (hle : o + n ≤ xs.length) :
    ∃ G', Rel G' B N { st with m := Am.put (Am.put st.m 0 site (.vec (g + 1) sz [])) 0 s (.cells (cs.set idx (.list ((xs.drop o).take n)))) } a w ∧ Ext 1 G w G' w := by
  have hne : s ≠ site := fun e => by rw [e, hlk] at hc; cases hc
  obtain ⟨G', h1, h2, h3, h4⟩ := h.pub0 hlk
  obtain ⟨b0, vs0, hb0, hsoft0, hrep0⟩ := h.mr.cells 0 s cs hc
  obtain ⟨v, hv, hr⟩ := hrep0.at_ hs
  have hlk' : look (Am.put st.m 0 site (.vec (g + 1) sz [])) 0 s = .cells cs := by
    rw [look_put_ne (.inr hne)]; exact hc
  obtain ⟨b, vs, hb, hsoft, hrep⟩ := h1.mr.cells 0 s cs hlk'
  have hbb : b = b0 := by
    rw [h4, hb0] at hb; exact (Option.some.inj hb).symm
  subst hbb
  have hvv : vs = vs0 := hsoft.uniq hsoft0
  subst hvv
  have hr' := h3 o n q v hle hr
  have hset : vs.toList.set idx v = vs.toList := by
    obtain ⟨hi, he⟩ := List.getElem?_eq_some_iff.1 hv
    rw [← he, List.set_getElem_self]
  have hrep' := hrep.set idx hr'
  rw [hset] at hrep'
  exact ⟨G', ⟨h1.mr.stored hlk' hb (Turned.refl b w) hsoft hrep', h1.size, h1.slots, h1.ds, h1.base, h1.top, put_ne h1.ne⟩, h2⟩

theorem Rel.give {G : Gh} {B N : Nat} {st : St} {a : Act} {w : World} (h : Rel G B N st a w) {slot site g sz o n l S : Nat} {q : Bool} {xs : List AV} (hs : st.f slot = .vec 0 site g o n q) (hlk : look st.m 0 site = .vec g sz xs) (hl : l < st.m.length) (hl0 : l ≠ 0) (hro : rowOrNone (look st.m l S) = true) (hS : S < 2000) :
    ∃ G', Rel G' B N { st with m := Am.put (Am.put st.m 0 site (.vec (g + 1) sz [])) l S (.vec (newGen st.m l S) sz xs), f := upd st.f slot (.vec l S (newGen st.m l S) o n q) } a w ∧ Ext 1 G w G' w := by
  have hlp : 0 < st.m.length := List.length_pos_iff.2 h.ne
  have hro0 : rowOrNone (look st.m 0 site) = true := by rw [hlk]; rfl
  obtain ⟨e1, e2, e3, e4⟩ := h.mr.vec 0 site g sz xs hlk
  obtain ⟨h1, h2⟩ := h.vecput (w' := w) (sz := sz) (cap := 0) (b := none) (g := g + 1) (ys := []) hlp hro0 (by omega) rfl rfl rfl (Nat.le_refl _) (fun _ _ _ => rfl) (fun k e => by cases e) ⟨by simp, rfl, rfl⟩ (.inl ⟨rfl, rfl⟩)
  have hlen : (Am.put st.m 0 site (.vec (g + 1) sz [])).length = st.m.length := by
    cases st.m <;> rfl
  have hlk1 : look (Am.put st.m 0 site (.vec (g + 1) sz [])) l S = look st.m l S := look_put_ne (.inl hl0)
  have hng : newGen (Am.put st.m 0 site (.vec (g + 1) sz [])) l S = newGen st.m l S := by unfold newGen; rw [hlk1]
  have hgl : (G.row 0 site none 0 (g + 1) sz).vg l S < newGen st.m l S := by
    rw [← hng]; exact newGen_lt h1.mr (by rw [hlk1]; exact hro)
  have hvm1 : ∀ i t, (G.row 0 site none 0 (g + 1) sz).vm i t = if i = 0 ∧ t = site then none else G.vm i t := fun _ _ => rfl
  have hfree : ∀ k, G.vm 0 site = some k → ¬ (G.row 0 site none 0 (g + 1) sz).mine k ∧ ∀ o, (G.row 0 site none 0 (g + 1) sz).stab k o = none := by
    intro k e
    refine ⟨?_, (h.mr.vm 0 site k e).2⟩
    rintro (⟨i, t, e'⟩ | ⟨i, t, e'⟩)
    · exact h.mr.inj3 _ _ _ _ _ e' e
    · rw [hvm1] at e'
      split at e'
      · cases e'
      · rename_i hh
        exact hh (h.mr.inj2 _ _ _ _ _ e' e)
  have hrow : (G.vm 0 site = none ∧ xs = []) ∨ ∃ k, G.vm 0 site = some k ∧ RowIs (G.row 0 site none 0 (g + 1) sz) S w k (G.vc 0 site) sz xs := by
    rcases e4 with e | ⟨b, e, hr⟩
    · exact .inl e
    · refine .inr ⟨b, e, ⟨?_, hr.le, hr.max⟩⟩
      obtain ⟨cs, ⟨t, lo, hi, hh, _, hb⟩, hsz, hrep⟩ := hr.cur
      exact ⟨cs, ⟨t, lo, hi, hh, by simp [tyOk, hS], hb⟩, hsz, RepL.rfd (G := G) (G' := G.row 0 site none 0 (g + 1) sz) (fun _ _ _ h => h) e3.rf hrep⟩
  have hmr := h1.mr.vecput' (l := l) (s := S) (g := newGen st.m l S) (sz := sz) (cap := G.vc 0 site) (b := G.vm 0 site) (ys := xs) (w' := w) (by rw [hlen]; exact hl) (by rw [hlk1]; exact hro) hgl (fun _ _ _ => rfl) (fun k e => .inr (hfree k e)) e3 hrow
  have hgle := Gh.row_gle (G := G.row 0 site none 0 (g + 1) sz) (l := l) (s := S) (cap := G.vc 0 site) (sz := sz) (b := G.vm 0 site) hgl
  have hnm2 : ((G.row 0 site none 0 (g + 1) sz).row l S (G.vm 0 site) (G.vc 0 site) (newGen st.m l S) sz).nm = G.nm := rfl
  have hvm2 : ∀ i t, ((G.row 0 site none 0 (g + 1) sz).row l S (G.vm 0 site) (G.vc 0 site) (newGen st.m l S) sz).vm i t = if i = l ∧ t = S then G.vm 0 site else if i = 0 ∧ t = site then none else G.vm i t := fun _ _ => rfl
  have hvc2 : ((G.row 0 site none 0 (g + 1) sz).row l S (G.vm 0 site) (G.vc 0 site) (newGen st.m l S) sz).vc l S = G.vc 0 site := by simp [Gh.row]
  have hvz2 : ((G.row 0 site none 0 (g + 1) sz).row l S (G.vm 0 site) (G.vc 0 site) (newGen st.m l S) sz).vz l S = sz := by simp [Gh.row]
  have hvg2 : ((G.row 0 site none 0 (g + 1) sz).row l S (G.vm 0 site) (G.vc 0 site) (newGen st.m l S) sz).vg l S = newGen st.m l S := by simp [Gh.row]
  refine ⟨(G.row 0 site none 0 (g + 1) sz).row l S (G.vm 0 site) (G.vc 0 site) (newGen st.m l S) sz, ⟨hmr, h1.size, fun i => ?_, h1.ds.mono hgle, fun s' b' e => ?_, h1.top, put_ne h1.ne⟩, ⟨rfl, rfl, rfl, Nat.le_refl _, h2.stab, fun _ _ _ => rfl, fun i t => Nat.le_trans (h2.vg i t) (hgle.vg i t), ?_, h2.old, fun b e => ?_, fun i t b e => ?_⟩⟩
  · by_cases hi : i = slot
    · subst hi
      show Rep _ (upd st.f i _ i) _
      rw [upd_same]
      have hr := h.slots i
      rw [hs] at hr
      generalize a.tmps.getD i undef = v at hr
      cases hr with
      | vec hone hg hh =>
        refine .vec hone (by rw [hvg2]; exact Nat.le_refl _) fun _ => ?_
        rcases hh e1.symm with ⟨hvm, ho, hn, A, hv, _⟩ | ⟨b, A, c, hvm, hok, hv, hkc, hcm, hq, hA⟩
        · exact .inl ⟨by rw [hvm2, if_pos ⟨rfl, rfl⟩]; exact hvm, ho, hn, A, hv, fun h => by omega⟩
        · refine .inr ⟨b, A, c, by rw [hvm2, if_pos ⟨rfl, rfl⟩]; exact hvm, by rw [hvc2]; exact hok, hv, hkc, hcm, by rw [hvc2]; exact hq, ?_⟩
          rw [hvc2, hvz2, ← e2]
          exact hA
    · show Rep _ (upd st.f slot _ i) _
      rw [upd_ne _ _ hi]
      exact (h1.slots i).mono hgle
  · rw [hnm2, hvm2] at e
    rw [if_neg (by omega)] at e
    exact h1.base s' b' (by rw [hvm1]; exact e)
  · intro i t e
    have hb1 := h2.vg i t
    have hb2 := hgle.vg i t
    obtain ⟨a1, a2, a3⟩ := h2.vs i t (by omega)
    obtain ⟨b1, b2, b3⟩ := hgle.vs i t (by omega)
    exact ⟨b1.trans a1, b2.trans a2, b3.trans a3⟩
  · refine .inl ?_
    rcases e with ⟨i, t, e⟩ | ⟨i, t, e⟩
    · exact .inl ⟨i, t, e⟩
    · rw [hvm2] at e
      split at e
      · exact .inr ⟨0, site, e⟩
      · split at e
        · cases e
        · exact .inr ⟨i, t, e⟩
  · refine .inl ?_
    rw [hvm2] at e
    split at e
    · exact ⟨0, site, Nat.zero_le _, e⟩
    · split at e
      · cases e
      · exact ⟨i, t, Nat.le_refl _, e⟩

end Go.Proofs.YtdgbidbkcigkhaaGreatDoor.Am

namespace Go.Proofs.YtdgbidbkcigkhaaGreatDoor.Am
open Go

def udec (t : List UInt8) (p : Nat) : Nat × Nat := Utf8.decode ⟨⟨t⟩⟩ p

theorem MR.moved {G : Gh} {m : Mem} {w w' : World} (h : MR G m w) {l s b q : Nat} {p : Nat} {t u : IT} (hx : look m l s = .iter t p) (hb : G.nm l s = some b) (ht : Turned b w w') (hs : w'.heap[b]? = some (u.obj q)) :
    MR G (Am.put m l s (.iter u q)) w' where
  stab k o v e := by
    have hk : k ≠ b := by rintro rfl; rw [(h.nm l s k hb).2 o] at e; cases e
    exact rd_block (ht.heap k hk) (h.stab k o v e)
  cells l' s' zs e := by
    by_cases hh : l' = l ∧ s' = s
    · obtain ⟨rfl, rfl⟩ := hh
      rw [look_put_same (look_lt (by rw [hx]; simp))] at e
      cases e
    · rw [look_put_ne (by omega)] at e
      obtain ⟨b', cs', e', hc, hr⟩ := h.cells l' s' zs e
      exact ⟨b', cs', e', hc.of (ht.heap b' (fun eb => hh (by subst eb; exact h.inj1 _ _ _ _ _ e' hb))), hr⟩
  nm l' s' b' e := by
    obtain ⟨hz, h2⟩ := h.nm l' s' b' e
    refine ⟨?_, h2⟩
    by_cases hh : l' = l ∧ s' = s
    · obtain ⟨rfl, rfl⟩ := hh
      rw [look_put_same (look_lt (by rw [hx]; simp))]; rfl
    · rw [look_put_ne (by omega)]; exact hz
  vec l' s' g sz zs e := by
    by_cases hh : l' = l ∧ s' = s
    · obtain ⟨rfl, rfl⟩ := hh
      rw [look_put_same (look_lt (by rw [hx]; simp))] at e
      cases e
    · rw [look_put_ne (by omega)] at e
      obtain ⟨a1, a2, a3, a4⟩ := h.vec l' s' g sz zs e
      refine ⟨a1, a2, a3, a4.imp id fun ⟨b', e', r⟩ => ⟨b', e', r.of (ht.heap b' ?_) fun _ h => h⟩⟩
      rintro rfl
      exact h.inj3 _ _ _ _ _ hb e'
  vm l' s' b' e := by
    obtain ⟨⟨g, sz, zs, hz⟩, h2⟩ := h.vm l' s' b' e
    refine ⟨?_, h2⟩
    by_cases hh : l' = l ∧ s' = s
    · obtain ⟨rfl, rfl⟩ := hh
      rw [hx] at hz; cases hz
    · exact ⟨g, sz, zs, by rw [look_put_ne (by omega)]; exact hz⟩
  gone l' s' e := by
    by_cases hh : l' = l ∧ s' = s
    · obtain ⟨rfl, rfl⟩ := hh
      exact h.gone l' s' (by rw [hx]; rfl)
    · rw [look_put_ne (by omega)] at e
      exact h.gone l' s' e
  inj1 := h.inj1
  inj2 := h.inj2
  inj3 := h.inj3
  iter l' s' t' p' e := by
    by_cases hh : l' = l ∧ s' = s
    · obtain ⟨rfl, rfl⟩ := hh
      rw [look_put_same (look_lt (by rw [hx]; simp))] at e
      cases e
      exact ⟨b, hb, hs⟩
    · rw [look_put_ne (by omega)] at e
      obtain ⟨b', e', hc⟩ := h.iter l' s' t' p' e
      exact ⟨b', e', (ht.heap b' (fun eb => hh (by subst eb; exact h.inj1 _ _ _ _ _ e' hb))).trans hc⟩

theorem run_next_iter {P : Program} {w : World} {b p : Nat} {s : ByteArray} (hh : w.heap[b]? = some (.stringIter s p)) (h : p < s.size) (ty : TypeId) :
    (Instr.next (.pointer (some ⟨b, 0, none⟩)) true ty).run P w = .ok (.tuple #[.bool true, .int .i64 p, .int .i32 (Utf8.decode s p).1]) { w with heap := w.heap.setIfInBounds b (.stringIter s (p + (Utf8.decode s p).2)) } := by
  simp only [Instr.next, getObj, setObj, Sem.run_bind, Sem.run, hh, Result.andThen, h, if_true]
  simp [goInt]
theorem run_next_done {P : Program} {w : World} {b p : Nat} {s : ByteArray} (hh : w.heap[b]? = some (.stringIter s p)) (h : ¬ p < s.size) (ty : TypeId) :
    (Instr.next (.pointer (some ⟨b, 0, none⟩)) true ty).run P w = .ok (.tuple #[.bool false]) w := by
  simp [Instr.next, getObj, Sem.run, hh, h]

section
variable {P : Program} {N : Nat} {st : St} {Q : St → Prop}

theorem AOps.rngs {d : Option Nat} {s : Nat} {r : RA} {its : List Item} {t : List UInt8} (ht : r.ev st.f = .str t) (hn : noOb st.m s = true) (h : AOps P N its { st with m := Am.put st.m 0 s (.iter (.str t) 0), f := updO st.f d (.ptr 0 s 0) } Q) :
    AOps P N (⟨d, .rngs s r, none⟩ :: its) st Q := by
  refine AOps.step rfl fun G B a w o hr hd hdN hc K QQ hK => ?_
  cases ho : o.op <;> rw [ho] at hc <;> simp only [chkRO, Bool.false_eq_true, Bool.and_eq_true] at hc
  rename_i ty x
  have hx := chkA_ok hr hc.2
  rw [ht] at hx
  have hv : a.eval x = .string ⟨⟨t⟩⟩ := by
    generalize a.eval x = v at hx
    cases hx; rfl
  obtain ⟨hr', he⟩ := hr.freshO s hn (ob := .iter (.str t) 0) (x := .stringIter ⟨⟨t⟩⟩ 0) rfl (fun _ e => by cases e) (fun _ _ e => by cases e; rfl)
  have hrun : (execOp a.eval o).run P w = .ok (.value (.pointer (some ⟨w.heap.size, 0, none⟩))) (w.alloc (.stringIter ⟨⟨t⟩⟩ 0)) := by
    simp only [execOp, ho, hv, Sem.run_bind, run_range_string w ty _ (isStr_ok hc.1), Result.andThen_ok, Sem.run_pure]
    rfl
  unfold Oper.wp
  rw [hrun]
  have hd' : o.dst = d := hd
  show K (a.put o.dst _) _
  rw [hd']
  refine hK _ _ _ _ h (hr'.put hdN (.ptr ?_)) he
  show (if (0 : Nat) = 0 ∧ s = s then some w.heap.size else G.nm 0 s) = some w.heap.size
  simp

theorem AOps.nxts {d : Option Nat} {r : RA} {its : List Item} {l s p : Nat} {t : List UInt8} (hp : r.ev st.f = .ptr l s 0) (hl : look st.m l s = .iter (.str t) p)
    (h1 : p < t.length → AOps P N its { st with m := Am.put st.m l s (.iter (.str t) (p + (udec t p).2)), f := updO st.f d (.tup [.bool true, .int .i64 (p : Nat), .int .i32 ((udec t p).1 : Nat)]) } Q)
    (h2 : t.length ≤ p → AOps P N its { st with f := updO st.f d (.tup [.bool false]) } Q) :
    AOps P N (⟨d, .nxts r, none⟩ :: its) st Q := by
  refine AOps.step rfl fun G B a w o hr hd hdN hc K QQ hK => ?_
  cases ho : o.op <;> rw [ho] at hc <;> simp only [chkRO, Bool.false_eq_true] at hc
  rename_i x str
  cases str with
  | false => cases hc
  | true =>
  have hx := chkA_ok hr hc
  rw [hp] at hx
  obtain ⟨b, hb, hh⟩ := hr.mr.iter l s (.str t) p hl
  have hv : a.eval x = .pointer (some ⟨b, 0, none⟩) := by
    generalize a.eval x = v at hx
    cases hx
    rename_i b' hb'
    rw [hb] at hb'; cases hb'; rfl
  have hd' : o.dst = d := hd
  unfold Oper.wp
  by_cases hlt : p < t.length
  · have hrun : (execOp a.eval o).run P w = .ok (.value (.tuple #[.bool true, .int .i64 p, .int .i32 (udec t p).1])) { w with heap := w.heap.setIfInBounds b (.stringIter ⟨⟨t⟩⟩ (p + (udec t p).2)) } := by
      simp only [execOp, ho, hv, Sem.run_bind, run_next_iter hh (show p < ByteArray.size ⟨⟨t⟩⟩ from hlt), Result.andThen_ok, Sem.run_pure]
      rfl
    rw [hrun]
    show K (a.put o.dst _) _
    rw [hd']
    have hlen : b < w.heap.size := (Array.getElem?_eq_some_iff.1 hh).1
    have htn : Turned b w { w with heap := w.heap.setIfInBounds b (.stringIter ⟨⟨t⟩⟩ (p + (udec t p).2)) } :=
      ⟨rfl, rfl, rfl, by simp, fun k hk => by
        show (w.heap.setIfInBounds b _)[k]? = _
        rw [Array.getElem?_setIfInBounds_ne (fun e => hk e.symm)]⟩
    have hnew : (w.heap.setIfInBounds b (.stringIter ⟨⟨t⟩⟩ (p + (udec t p).2)))[b]? = some (.stringIter ⟨⟨t⟩⟩ (p + (udec t p).2)) := by
      rw [Array.getElem?_setIfInBounds_self, if_pos hlen]
    have hm := hr.mr.moved (u := .str t) hl hb htn hnew
    have hr' : Rel G B N { st with m := Am.put st.m l s (.iter (.str t) (p + (udec t p).2)) } a { w with heap := w.heap.setIfInBounds b (.stringIter ⟨⟨t⟩⟩ (p + (udec t p).2)) } :=
      ⟨hm, hr.size, hr.slots, hr.ds, hr.base, by rw [htn.size]; exact hr.top, put_ne hr.ne⟩
    exact hK _ _ _ _ (h1 hlt) (hr'.put hdN (.tup (.cons (.bool _) (.cons (.int _ _) (.cons (.int _ _) .nil))))) (Ext.turned htn (.inl ⟨l, s, hb⟩))
  · have hrun : (execOp a.eval o).run P w = .ok (.value (.tuple #[.bool false])) w := by
      simp only [execOp, ho, hv, Sem.run_bind, run_next_done hh (show ¬ p < ByteArray.size ⟨⟨t⟩⟩ from hlt), Result.andThen_ok, Sem.run_pure]
    rw [hrun]
    show K (a.put o.dst _) _
    rw [hd']
    exact hK _ _ _ _ (h2 (by omega)) (hr.put hdN (.tup (.cons (.bool _) .nil))) (Ext.refl 1 G w)

def xbv (cnt : Bool) (t : List UInt8) (b : Int) : Int := if cnt then (Lib.countByte t b.toNat.toUInt8 : Nat) else Lib.indexByte t b.toNat.toUInt8

theorem ext_cnt {fn : Func} (h1 : fn.name = "internal/bytealg.CountString") (h2 : fn.origin = "") : Extern.findNext fn = none ∧ Extern.find fn = some Extern.BytealgCount.count := by
  unfold Extern.findNext Extern.find
  rw [h1, h2]
  exact ⟨by kernel_rfl, by kernel_rfl⟩
theorem ext_idx {fn : Func} (h1 : fn.name = "internal/bytealg.IndexByteString") (h2 : fn.origin = "") : Extern.findNext fn = none ∧ Extern.find fn = some Extern.BytealgIndexByte.indexByte := by
  unfold Extern.findNext Extern.find
  rw [h1, h2]
  exact ⟨by kernel_rfl, by kernel_rfl⟩

theorem AOps.xb {d : Option Nat} {cnt : Bool} {k : Nat} {s c : RA} {its : List Item} {t : List UInt8} {b : Int} (hs : s.ev st.f = .str t) (hb : c.ev st.f = .int .u8 b) (h : AOps P N its { st with f := updO st.f d (.int .i64 (xbv cnt t b)) } Q) :
    AOps P N (⟨d, .xb cnt k s c, none⟩ :: its) st Q := by
  refine AOps.step rfl fun G B a w o hr hd hdN hc K QQ hK => ?_
  cases ho : o.op <;> rw [ho] at hc <;> simp only [chkRO, Bool.false_eq_true] at hc
  rename_i cl
  split at hc
  case h_2 => cases hc
  rename_i o1 k' x y ts o2
  cases o2
  simp only [Bool.and_eq_true, beq_iff_eq] at hc
  obtain ⟨⟨⟨hk, hf⟩, hx⟩, hy⟩ := hc
  subst hk
  cases hfn : P.funcs[k]? with
  | none => rw [hfn] at hf; cases hf
  | some fn =>
  rw [hfn] at hf
  simp only [Bool.and_eq_true, beq_iff_eq] at hf
  obtain ⟨⟨hname, hor⟩, hbody⟩ := hf
  have rs := chkA_ok hr hx
  have rc := chkA_ok hr hy
  rw [hs] at rs
  rw [hb] at rc
  have ev : a.eval x = .string ⟨⟨t⟩⟩ := by
    generalize a.eval x = v at rs
    cases rs; rfl
  have ec : a.eval y = .int .u8 b := by
    generalize a.eval y = v at rc
    cases rc; rfl
  have hrun : (execOp a.eval o).run P w = .ok (.value (.int .i64 (xbv cnt t b))) w := by
    cases cnt with
    | true =>
      have hname : fn.name = "internal/bytealg.CountString" := hname
      obtain ⟨e1, e2⟩ := ext_cnt hname hor
      have hcf := run_callFunc_extern (P := P) hfn (by rw [hname]; decide) hbody e1 e2 #[.string ⟨⟨t⟩⟩, .int .u8 b] w
      rw [Lib.run_countString] at hcf
      simp only [execOp, ho, resolve, Act.eval, Deferred.ofValue, Sem.run_bind, Sem.run_pure, Result.andThen_ok, invoke]
      simp [ev, ec, hcf, xbv, Result.andThen]
    | false =>
      have hname : fn.name = "internal/bytealg.IndexByteString" := hname
      obtain ⟨e1, e2⟩ := ext_idx hname hor
      have hcf := run_callFunc_extern (P := P) hfn (by rw [hname]; decide) hbody e1 e2 #[.string ⟨⟨t⟩⟩, .int .u8 b] w
      rw [Lib.run_indexByteString] at hcf
      simp only [execOp, ho, resolve, Act.eval, Deferred.ofValue, Sem.run_bind, Sem.run_pure, Result.andThen_ok, invoke]
      simp [ev, ec, hcf, xbv, Result.andThen]
  unfold Oper.wp
  rw [hrun]
  have hd' : o.dst = d := hd
  show K (a.put o.dst _) _
  rw [hd']
  exact hK _ _ _ _ h (hr.put hdN (.int _ _)) (Ext.refl 1 G w)

theorem AOps.mkm {d : Option Nat} {s : Nat} {its : List Item} (hn : noOb st.m s = true) (h : AOps P N its { st with m := Am.put st.m 0 s (.iter (.mp [] []) 0), f := updO st.f d (.mptr 0 s) } Q) :
    AOps P N (⟨d, .mkm s, none⟩ :: its) st Q := by
  refine AOps.step rfl fun G B a w o hr hd hdN hc K QQ hK => ?_
  cases ho : o.op <;> rw [ho] at hc <;> simp only [chkRO, Bool.false_eq_true] at hc
  rename_i ty hint
  cases hint with
  | some _ => cases hc
  | none =>
  obtain ⟨hr', he⟩ := hr.freshO s hn (ob := .iter (.mp [] []) 0) (x := .map #[] 0) rfl (fun _ e => by cases e) (fun _ _ e => by cases e; rfl)
  have hrun : (execOp a.eval o).run P w = .ok (.value (.map (some w.heap.size))) (w.alloc (.map #[] 0)) := by
    simp only [execOp, ho, Sem.run_bind, Option.map_none, show (Instr.makeMap ty none).run P w = .ok (.map (some w.heap.size)) (w.alloc (.map #[] 0)) from rfl, Result.andThen_ok, Sem.run_pure]
  unfold Oper.wp
  rw [hrun]
  have hd' : o.dst = d := hd
  show K (a.put o.dst _) _
  rw [hd']
  refine hK _ _ _ _ h (hr'.put hdN (.mptr ?_)) he
  show (if (0 : Nat) = 0 ∧ s = s then some w.heap.size else G.nm 0 s) = some w.heap.size
  simp

theorem AOps.mput {d : Option Nat} {tx : Bool} {x i v : RA} {its : List Item} {l s p : Nat} {ks : List MK} {vs : List AV} {k : MK} (hx : x.ev st.f = .mptr l s) (hl : look st.m l s = .iter (.mp ks vs) p) (hi : keyOf tx (i.ev st.f) = some k) (hks : keys tx ks = true) (hg : (v.ev st.f).gr = true) (_hgs : AV.grL vs = true) (hlen : ks.length = vs.length)
    (h : AOps P N its { st with m := Am.put st.m l s (.iter (.mp (Am.mpput k (v.ev st.f) ks vs).1 (Am.mpput k (v.ev st.f) ks vs).2) p), f := updO st.f d (.tup []) } Q) :
    AOps P N (⟨d, .mput tx x i v, none⟩ :: its) st Q := by
  refine AOps.step rfl fun G B a w o hr hd hdN hc K QQ hK => ?_
  obtain ⟨ty, ox, oi, ov, hc, hex⟩ : ∃ ty ox oi ov, ((((match P.underlying ty with | some (.map kt _) => isKy P tx kt | _ => false) && chkA ox x) && chkA oi i) && chkA ov v) = true ∧
      ∀ w', (Instr.mapUpdate ty (a.eval ox) (a.eval oi) (a.eval ov)).run P w = .ok () w' → (execOp a.eval o).run P w = .ok .skip w' := by
    cases ho : o.op <;> rw [ho] at hc <;> simp only [chkRO, Bool.false_eq_true] at hc
    · exact ⟨_, _, _, _, hc, fun w' h => by simp only [execOp, ho, Sem.run_bind, h, Result.andThen_ok, Sem.run_pure]⟩
    · exact ⟨_, _, _, _, hc, fun w' h => by simp only [execOp, ho, Sem.run_bind, h, Result.andThen_ok, Sem.run_pure]⟩
  simp only [Bool.and_eq_true] at hc
  obtain ⟨⟨⟨hty, h1⟩, h2⟩, h3⟩ := hc
  split at hty
  case h_2 => cases hty
  rename_i kt et hu
  have r1 := chkA_ok hr h1
  have r2 := chkA_ok hr h2
  have r3 := chkA_ok hr h3
  rw [hx] at r1
  obtain ⟨hkt, ei⟩ := keyOf_ok hi r2
  obtain ⟨b, hb, hh⟩ := hr.mr.iter l s (.mp ks vs) p hl
  have ex : a.eval ox = .map (some b) := by
    generalize a.eval ox = u at r1
    cases r1
    rename_i b' hb'
    rw [hb] at hb'; cases hb'; rfl
  have ev : a.eval ov = (v.ev st.f).gv := gv_of hg r3
  have hrun : (execOp a.eval o).run P w = .ok .skip { w with heap := w.heap.setIfInBounds b (IT.obj (.mp (Am.mpput k (v.ev st.f) ks vs).1 (Am.mpput k (v.ev st.f) ks vs).2) p) } := by
    refine hex _ ?_
    rw [ex, ei, ev]
    exact run_mapUpdate_mp hkt hks hlen hu (isKy_ok hty) hh
  unfold Oper.wp
  rw [hrun]
  have hd' : o.dst = d := hd
  show K (a.put o.dst undef) _
  rw [hd']
  have hlt : b < w.heap.size := (Array.getElem?_eq_some_iff.1 hh).1
  generalize hu' : IT.mp (Am.mpput k (v.ev st.f) ks vs).1 (Am.mpput k (v.ev st.f) ks vs).2 = u at *
  have htn : Turned b w { w with heap := w.heap.setIfInBounds b (u.obj p) } :=
    ⟨rfl, rfl, rfl, by simp, fun k hk => by
      show (w.heap.setIfInBounds b _)[k]? = _
      rw [Array.getElem?_setIfInBounds_ne (fun e => hk e.symm)]⟩
  have hnew : (w.heap.setIfInBounds b (u.obj p))[b]? = some (u.obj p) := by
    rw [Array.getElem?_setIfInBounds_self, if_pos hlt]
  have hm := hr.mr.moved (u := u) hl hb htn hnew
  have hr' : Rel G B N { st with m := Am.put st.m l s (.iter u p) } a { w with heap := w.heap.setIfInBounds b (u.obj p) } :=
    ⟨hm, hr.size, hr.slots, hr.ds, hr.base, by rw [htn.size]; exact hr.top, put_ne hr.ne⟩
  exact hK _ _ _ _ h (hr'.put hdN (v := undef) (.tup .nil)) (Ext.turned htn (.inl ⟨l, s, hb⟩))

end

end Go.Proofs.YtdgbidbkcigkhaaGreatDoor.Am

namespace Go.Proofs.YtdgbidbkcigkhaaGreatDoor.Am
open Go

def Fn1 (P : Program) (k : FuncId) (args : List AV) (v : AV) : Prop := Fn? P k args (· = v)

def aop (P : Program) (d : Option Nat) (op : RO) (st : St) (K : St → Prop) : Prop :=
  match op with
  | .val vo => ∃ x, vop st.f st.m vo = some x ∧ K { st with f := updO st.f d x }
  | .allocN s z => noOb st.m s = true ∧ K { st with m := Am.put st.m 0 s (.cells z), f := updO st.f d (.ptr 0 s 0) }
  | .boxN s r => noOb st.m s = true ∧ (r.ev st.f).cells.all AV.leaf = true ∧ K { st with m := Am.put st.m 0 s (.cells (r.ev st.f).cells), f := updO st.f d (.ptr 0 s 0) }
  | .store n p r => (r.ev st.f).cells.length = n ∧ (r.ev st.f).cells.all AV.leaf = true ∧ ∃ m', astore st.m (p.ev st.f) (r.ev st.f).cells = some m' ∧ K { st with m := m', f := updO st.f d (.tup []) }
  | .app sz bytes el s r => ∃ l site g n xs ys, s.ev st.f = .vec l site g 0 n false ∧ look st.m l site = .vec g sz xs ∧ tyOk site el = true ∧ n ≤ xs.length ∧ elemsOf st.m (r.ev st.f) = some ys ∧ ys.all (fun e => e.cells.length == sz) = true ∧ n + ys.length ≤ maxLen ∧ (n + ys.length) * bytes ≤ 140737488355328 ∧
      K { st with m := Am.put st.m l site (.vec (g + 1) sz (xs.take n ++ ys)), f := updO st.f d (.vec l site (g + 1) 0 (n + ys.length) false) }
  | .appl sz bytes el s r => ∃ site g n xs ys, s.ev st.f = .vec 0 site g 0 n false ∧ look st.m 0 site = .vec g sz xs ∧ tyOk site el = true ∧ n ≤ xs.length ∧ elemsOf st.m (r.ev st.f) = some ys ∧ ys.all (fun e => e.cells.length == sz) = true ∧ n + ys.length ≤ maxLen ∧ (n + ys.length) * bytes ≤ 140737488355328 ∧
      K { st with m := Am.put st.m 0 site (.vec (g + 1 + 1) sz []), f := updO st.f d (.list (xs.take n ++ ys)) }
  | .storev l s n p r => (∃ o, p.ev st.f = .ptr l s o) ∧ (r.ev st.f).cells.length = n ∧ (r.ev st.f).cells.all AV.leaf = true ∧ ∃ m', astore st.m (p.ev st.f) (r.ev st.f).cells = some m' ∧ K { st with m := m', f := updO st.f d (.tup []) }
  | .call f args => ∃ k fa fb ys v, f.ev st.f = .fn (.func k) fa fb ∧ AV.stillL false st.m (fa ++ args.map (RA.ev st.f) ++ fb) = some ys ∧ AV.rfL ys = true ∧ Fn1 P k ys v ∧ v.rf = true ∧ (AV.rfL (fa ++ args.map (RA.ev st.f) ++ fb) = true ∨ v.nl = true) ∧ K { st with f := updO st.f d v }
  | .callF f args => ∃ k fa fb v m', f.ev st.f = .fn (.func k) fa fb ∧ ACalls P k (fa ++ args.map (RA.ev st.f) ++ fb) st.m (fun x m => x = v ∧ m = m') ∧ K { st with m := m', f := updO st.f d v }
  | .callG f args => ∃ k fa fb R, f.ev st.f = .fn (.func k) fa fb ∧ ACalls P k (fa ++ args.map (RA.ev st.f) ++ fb) st.m R ∧ ∀ x m', R x m' → m'.length = st.m.length → K { st with m := m', f := updO st.f d x }
  | .bsl sz len z ps => ∃ y, fill st.f ps (zeros z sz len) = some y ∧ AV.rfL y = true ∧ y.all AV.leaf = true ∧ K { st with f := updO st.f d (.list (chunk sz len (y.map nn0))) }
  | .bslv site sz len z ps => ∃ y, fill st.f ps (zeros z sz len) = some y ∧ AV.rfL y = true ∧ y.all AV.leaf = true ∧ rowOrNone (look st.m 0 site) = true ∧
      K { st with m := Am.put st.m 0 site (.vec (newGen st.m 0 site) sz (chunk sz len (y.map nn0))), f := updO st.f d (.vec 0 site (newGen st.m 0 site) 0 len false) }
  | .bsl0 site sz => rowOrNone (look st.m 0 site) = true ∧ K { st with m := Am.put st.m 0 site (.vec (newGen st.m 0 site) sz []), f := updO st.f d (.vec 0 site (newGen st.m 0 site) 0 0 false) }
  | .appc site sz bytes _ s r => ∃ xs ys, s.ev st.f = .lcap xs ∧ elemsOf st.m (r.ev st.f) = some ys ∧ ys ≠ [] ∧ xs.all (fun e => e.cells.length == sz) = true ∧ ys.all (fun e => e.cells.length == sz) = true ∧ xs.length + ys.length ≤ maxLen ∧ (xs.length + ys.length) * bytes ≤ 140737488355328 ∧ rowOrNone (look st.m 0 site) = true ∧
      K { st with m := Am.put st.m 0 site (.vec (newGen st.m 0 site) sz (xs ++ ys)), f := updO st.f d (.vec 0 site (newGen st.m 0 site) 0 (xs.length + ys.length) false) }
  | .lit0 _ => K { st with f := updO st.f d (.lcap []) }
  | .clr sz z r => ∃ l s g o n q xs, r.ev st.f = .vec l s g o n q ∧ look st.m l s = .vec g sz xs ∧ o + n ≤ xs.length ∧ 0 < n ∧ K { st with m := Am.put st.m l s (.vec g sz (xs.take o ++ List.replicate n (zeroE sz z) ++ xs.drop (o + n))), f := updO st.f d (.tup []) }
  | .appe sz bytes _ s r => ∃ xs ys, s.ev st.f = .lcap xs ∧ r.ev st.f = .list ys ∧ xs.all (fun e => e.cells.length == sz) = true ∧ ys.all (fun e => e.cells.length == sz) = true ∧ xs.length + ys.length ≤ maxLen ∧ (xs.length + ys.length) * bytes ≤ 140737488355328 ∧ K { st with f := updO st.f d (.list (xs ++ ys)) }
  | .isnil neg r => ∃ ys, elemsOf st.m (r.ev st.f) = some ys ∧ (r.ev st.f ≠ .nils → K { st with f := updO st.f d (.bool neg) }) ∧ ((r.ev st.f = .nils ∨ flat ys = []) → K { st with f := updO st.f d (.bool (!neg)) })
  | .slc0 site sz r => ∃ ys, elemsOf st.m (r.ev st.f) = some ys ∧ rowOrNone (look st.m 0 site) = true ∧ K { st with m := Am.put st.m 0 site (.vec (newGen st.m 0 site) sz []), f := updO st.f d (.vec 0 site (newGen st.m 0 site) 0 0 false) }
  | .callK l s f args => ∃ k fa fb v m', f.ev st.f = .fn (.func k) fa fb ∧ ACalls P k (fa ++ args.map (RA.ev st.f) ++ fb) st.m (fun x m => x = v ∧ m = m') ∧ look m' l s = look st.m l s ∧ K { st with m := m', f := updO st.f d v }
  | .xb cnt _ s c => ∃ t b, s.ev st.f = .str t ∧ c.ev st.f = .int .u8 b ∧ K { st with f := updO st.f d (.int .i64 (xbv cnt t b)) }
  | .callR f args => ∃ k fa fb ys R, f.ev st.f = .fn (.func k) fa fb ∧ AV.stillL false st.m (fa ++ args.map (RA.ev st.f) ++ fb) = some ys ∧ AV.rfL ys = true ∧ Fn? P k ys R ∧ (∀ v, R v → v.rf = true ∧ (AV.rfL (fa ++ args.map (RA.ev st.f) ++ fb) = true ∨ v.nl = true)) ∧ ∀ v, R v → K { st with f := updO st.f d v }
  | .rngs s r => ∃ t, r.ev st.f = .str t ∧ noOb st.m s = true ∧ K { st with m := Am.put st.m 0 s (.iter (.str t) 0), f := updO st.f d (.ptr 0 s 0) }
  | .mkm s => noOb st.m s = true ∧ K { st with m := Am.put st.m 0 s (.iter (.mp [] []) 0), f := updO st.f d (.mptr 0 s) }
  | .mput tx x i v => ∃ l s ks vs p k, x.ev st.f = .mptr l s ∧ look st.m l s = .iter (.mp ks vs) p ∧ keyOf tx (i.ev st.f) = some k ∧ keys tx ks = true ∧ (v.ev st.f).gr = true ∧ AV.grL vs = true ∧ ks.length = vs.length ∧ K { st with m := Am.put st.m l s (.iter (.mp (mpput k (v.ev st.f) ks vs).1 (mpput k (v.ev st.f) ks vs).2) p), f := updO st.f d (.tup []) }
  | .nxts r => ∃ l s t p, r.ev st.f = .ptr l s 0 ∧ look st.m l s = .iter (.str t) p ∧
      (p < t.length → K { st with m := Am.put st.m l s (.iter (.str t) (p + (udec t p).2)), f := updO st.f d (.tup [.bool true, .int .i64 (p : Nat), .int .i32 ((udec t p).1 : Nat)]) }) ∧ (t.length ≤ p → K { st with f := updO st.f d (.tup [.bool false]) })
  | .appS el s r => ∃ l site g n xs t, s.ev st.f = .vec l site g 0 n false ∧ look st.m l site = .vec g 1 xs ∧ tyOk site el = true ∧ n ≤ xs.length ∧ r.ev st.f = .str t ∧ n + t.length ≤ 140737488355328 ∧
      K { st with m := Am.put st.m l site (.vec (g + 1) 1 (xs.take n ++ bytesAV t)), f := updO st.f d (.vec l site (g + 1) 0 (n + t.length) false) }
  | .mk site _ sz bytes z l c => ∃ (kl kc : IntKind) (n k : Nat), l.ev st.f = .int kl (n : Int) ∧ c.ev st.f = .int kc (k : Int) ∧ n ≤ k ∧ k ≤ 9223372036854775807 ∧ bytes * k ≤ 281474976710656 ∧ rowOrNone (look st.m 0 site) = true ∧
      K { st with m := Am.put st.m 0 site (.vec (newGen st.m 0 site) sz (List.replicate n (zeroE sz z))), f := updO st.f d (.vec 0 site (newGen st.m 0 site) 0 n false) }
  | .s2b site _ r => ∃ s, r.ev st.f = .str s ∧ s.length ≤ 9223372036854775807 ∧ rowOrNone (look st.m 0 site) = true ∧
      K { st with m := Am.put st.m 0 site (.vec (newGen st.m 0 site) 1 (bytesAV s)), f := updO st.f d (.vec 0 site (newGen st.m 0 site) 0 s.length false) }
  | .usd r => ∃ l s g n sz xs, 2000 ≤ s ∧ r.ev st.f = .vec l s g 0 n false ∧ look st.m l s = .vec g sz xs ∧ K { st with f := updO st.f d (if n = 0 then .anyp else .vptr l s g 0 0) }
  | .ustr el p r => (p.ev st.f = .anyp ∧ r.ev st.f = .int .i64 0 ∧ K { st with f := updO st.f d (.str []) }) ∨
      ∃ l g n xs s, p.ev st.f = .vptr l (el + 2000) g 0 0 ∧ r.ev st.f = .int .i64 ((n : Nat) : Int) ∧ look st.m l (el + 2000) = .vec g 1 xs ∧ n ≤ xs.length ∧ n ≠ 0 ∧ xs.take n = bytesAV s ∧ K { st with m := Am.put st.m l (el + 2000) (.vec (g + 1) 1 []), f := updO st.f d (.str s) }
  | .dfr f args => ∃ fn fa fb, f.ev st.f = .fn fn fa fb ∧ K { st with ds := ⟨fn, fb, fa ++ args.map (RA.ev st.f)⟩ :: st.ds, f := updO st.f d (.tup []) }

def astep (P : Program) (it : Item) (st : St) (K : St → Prop) : Prop :=
  match it.g with
  | none => aop P it.dst it.op st K
  | some (j, want) => match st.f j with
    | .bool b => (b = want → aop P it.dst it.op st K) ∧ (b = (!want) → K { st with f := updO st.f it.dst (.tup []) })
    | .tup l => l = [] ∧ K { st with f := updO st.f it.dst (.tup []) }
    | _ => False

def aops (P : Program) : List Item → St → (St → Prop) → Prop
  | [], st, K => K st
  | it :: its, st, K => astep P it st fun st' => aops P its st' K

section
variable {P : Program} {N : Nat}

theorem upd_two {α : Type} {f : Nat → α} {s : Nat} {x y : α} : upd (upd f s x) s y = upd f s y := by
  funext i
  by_cases h : i = s
  · subst h; rw [upd_same, upd_same]
  · rw [upd_ne _ _ h, upd_ne _ _ h, upd_ne _ _ h]
theorem put0_put0 {m : Mem} {s : Nat} {o q : Ob} : Am.put (Am.put m 0 s o) 0 s q = Am.put m 0 s q := by
  cases m with
  | nil => rfl
  | cons fr m => show upd (upd fr s o) s q :: m = upd fr s q :: m; rw [upd_two]

theorem AOps.appl {d : Option Nat} {sz bytes el : Nat} {s r : RA} {its : List Item} {st : St} {Q : St → Prop} {site g n : Nat} {xs ys : List AV} (hs : s.ev st.f = .vec 0 site g 0 n false) (hlk : look st.m 0 site = .vec g sz xs) (hte : tyOk site el = true) (hn : n ≤ xs.length)
    (hy : elemsOf st.m (r.ev st.f) = some ys) (hsz : ys.all (fun e => e.cells.length == sz) = true) (hmax : n + ys.length ≤ maxLen) (hb : (n + ys.length) * bytes ≤ 140737488355328)
    (h : AOps P N its { st with m := Am.put st.m 0 site (.vec (g + 1 + 1) sz []), f := updO st.f d (.list (xs.take n ++ ys)) } Q) : AOps P N (⟨d, .appl sz bytes el s r, none⟩ :: its) st Q := by
  refine .same (ro := .app sz bytes el s r) (fun _ => rfl) (.app hs hlk hte hn hy hsz hmax hb ?_)
  intro ops l hc G B a w hr QQ hq
  have hne := hr.ne
  have hlk' : look (Am.put st.m 0 site (.vec (g + 1) sz (xs.take n ++ ys))) 0 site = .vec (g + 1) sz (xs.take n ++ ys) := by
    refine look_put_same (List.length_pos_iff.2 ?_)
    rintro e
    exact hne (by show Am.put st.m 0 site _ = []; rw [e]; rfl)
  have hlen : (xs.take n ++ ys).length = n + ys.length := by rw [List.length_append, List.length_take]; omega
  cases d with
  | none =>
    obtain ⟨G', h1, h2, _, _⟩ := hr.pub0 hlk'
    rw [← put0_put0 (o := .vec (g + 1) sz (xs.take n ++ ys))] at h
    exact h ops l hc G' B a w h1 QQ fun G2 st' a' w' k1 k2 k3 => hq G2 st' a' w' k1 k2 (h2.trans k3)
  | some t =>
    obtain ⟨G', h1, h2⟩ := hr.publish (slot := t) (site := site) (g := g + 1) (sz := sz) (o := 0) (n := n + ys.length) (q := false) (by show upd st.f t _ t = _; rw [upd_same]) hlk' (by rw [hlen]; omega)
    have e2 : updO st.f (some t) (.list (xs.take n ++ ys)) = upd (upd st.f t (.vec 0 site (g + 1) 0 (n + ys.length) false)) t (.list (((xs.take n ++ ys).drop 0).take (n + ys.length))) := by
      have e3 : (xs.take n ++ ys).take (n + ys.length) = xs.take n ++ ys := List.take_of_length_le (Nat.le_of_eq hlen)
      rw [upd_two, List.drop_zero, e3]; rfl
    rw [← put0_put0 (o := .vec (g + 1) sz (xs.take n ++ ys)), e2] at h
    exact h ops l hc G' B a w h1 QQ fun G2 st' a' w' k1 k2 k3 => hq G2 st' a' w' k1 k2 (h2.trans k3)

theorem aop_ok {d : Option Nat} {op : RO} {its : List Item} {st : St} {Q : St → Prop} (h : aop P d op st fun st' => AOps P N its st' Q) : AOps P N (⟨d, op, none⟩ :: its) st Q := by
  cases op with
  | val vo => obtain ⟨x, hx, h⟩ := h; exact .val hx h
  | allocN s z => exact .allocN h.1 h.2
  | boxN s r => exact .boxN h.1 h.2.1 h.2.2
  | store n p r => obtain ⟨h1, h2, m', h3, h⟩ := h; exact .store h1 h2 h3 h
  | app sz bytes el s r => obtain ⟨l, site, g, n, xs, ys, h1, h2, ht, h3, h4, h5, h6, h7, h⟩ := h; exact .app h1 h2 ht h3 h4 h5 h6 h7 h
  | appl sz bytes el s r => obtain ⟨site, g, n, xs, ys, h1, h2, ht, h3, h4, h5, h6, h7, h⟩ := h; exact .appl h1 h2 ht h3 h4 h5 h6 h7 h
  | appS el s r => obtain ⟨l, site, g, n, xs, t, h1, h2, ht, h3, h4, h5, h⟩ := h; exact .appS h1 h2 ht h3 h4 h5 h
  | mk site el sz bytes z l c => obtain ⟨kl, kc, n, k, h1, h2, h3, h4, h5, h6, h⟩ := h; exact .mk h1 h2 h3 h4 h5 h6 h
  | s2b site el r => obtain ⟨s, h1, h2, h3, h⟩ := h; exact .s2b h1 h2 h3 h
  | usd r => obtain ⟨l, s, g, n, sz, xs, h0, h1, h2, h⟩ := h; exact .usd h0 h1 h2 h
  | ustr el p r =>
    rcases h with ⟨h1, h2, h⟩ | ⟨l, g, n, xs, s, h1, h2, h3, h4, h5, h6, h⟩
    · exact .ustr0 h1 h2 h
    · exact .ustr h1 h2 h3 h4 h5 h6 h
  | storev l s n p r => obtain ⟨_, h1, h2, m', h3, h⟩ := h; exact .same (ro := .store n p r) (fun _ => rfl) (.store h1 h2 h3 h)
  | call f args =>
    obtain ⟨k, fa, fb, ys, v, hf, h1, h2, h3, h4, h5, h⟩ := h
    exact .callPure hf h1 h2 h3 (fun x hx => by subst hx; exact ⟨h4, h5⟩) fun x hx => by subst hx; exact h
  | callF f args =>
    obtain ⟨k, fa, fb, v, m', hf, h1, h⟩ := h
    exact .same (ro := .call f args) (fun _ => rfl) (.callFull hf h1 fun x m hx _ => by obtain ⟨rfl, rfl⟩ := hx; exact h)
  | callG f args =>
    obtain ⟨k, fa, fb, R, hf, h1, h⟩ := h
    exact .same (ro := .call f args) (fun _ => rfl) (.callFull hf h1 h)
  | bsl sz len z ps => obtain ⟨y, h1, h2, h3, h⟩ := h; exact .bsl h1 h2 h3 h
  | bslv site sz len z ps => obtain ⟨y, h1, h2, h3, h4, h⟩ := h; exact .bslv h1 h2 h3 h4 h
  | bsl0 site sz => exact .bsl0 h.1 h.2
  | lit0 sz => exact .lit0 h
  | clr sz z r => obtain ⟨l, s, g, o, n, q, xs, h1, h2, h3, h4, h⟩ := h; exact .clr h1 h2 h3 h4 h
  | appe sz bytes el s r => obtain ⟨xs, ys, h1, h2, h3, h4, h5, h6, h⟩ := h; exact .appe h1 h2 h3 h4 h5 h6 h
  | isnil neg r => obtain ⟨ys, h1, h2, h3⟩ := h; exact .isnil h1 h2 h3
  | appc site sz bytes el s r => obtain ⟨xs, ys, h1, h2, h3, h4, h5, h6, h7, h8, h⟩ := h; exact .appc h1 h2 h3 h4 h5 h6 h7 h8 h
  | slc0 site sz r => obtain ⟨ys, h1, h2, h⟩ := h; exact .slc0 h1 h2 h
  | dfr f args => obtain ⟨fn, fa, fb, h1, h⟩ := h; exact .dfr h1 h
  | callK l s f args =>
    obtain ⟨k, fa, fb, v, m', hf, h1, _, h⟩ := h
    exact .same (ro := .call f args) (fun _ => rfl) (.callFull hf h1 fun x m hx _ => by obtain ⟨rfl, rfl⟩ := hx; exact h)
  | xb cnt k s c => obtain ⟨t, b, h1, h2, h⟩ := h; exact .xb h1 h2 h
  | callR f args =>
    obtain ⟨k, fa, fb, ys, R, hf, h1, h2, h3, h4, h⟩ := h
    exact .same (ro := .call f args) (fun _ => rfl) (.callPure hf h1 h2 h3 h4 h)
  | rngs s r => obtain ⟨t, h1, h2, h⟩ := h; exact .rngs h1 h2 h
  | nxts r => obtain ⟨l, s, t, p, h1, h2, h3, h4⟩ := h; exact .nxts h1 h2 h3 h4
  | mkm s => obtain ⟨h1, h⟩ := h; exact .mkm h1 h
  | mput tx x i v => obtain ⟨l, s, ks, vs, p, k, h1, h2, h3, h7, h4, h5, h6, h⟩ := h; exact .mput h1 h2 h3 h7 h4 h5 h6 h

theorem astep_ok {it : Item} {its : List Item} {st : St} {Q : St → Prop} (h : astep P it st fun st' => AOps P N its st' Q) : AOps P N (it :: its) st Q := by
  obtain ⟨d, op, g⟩ := it
  cases g with
  | none => exact aop_ok h
  | some p =>
    obtain ⟨j, want⟩ := p
    simp only [astep] at h
    split at h
    · rename_i b hj
      by_cases hb : b = want
      · subst hb; exact .yes hj (aop_ok (h.1 rfl))
      · have hb' : b = !want := by cases b <;> cases want <;> first | rfl | exact absurd rfl hb
        subst hb'
        exact .no (.inl hj) (h.2 rfl)
    · rename_i l hj
      obtain ⟨rfl, h⟩ := h
      exact .no (.inr hj) h
    · exact h.elim

theorem aop_mono {d : Option Nat} {op : RO} {st : St} {K K' : St → Prop} (hk : ∀ s, K s → K' s) (h : aop P d op st K) : aop P d op st K' := by
  cases op <;> simp only [aop] at h ⊢
  case val => obtain ⟨x, a, b⟩ := h; exact ⟨x, a, hk _ b⟩
  case allocN => exact ⟨h.1, hk _ h.2⟩
  case boxN => exact ⟨h.1, h.2.1, hk _ h.2.2⟩
  case store => obtain ⟨h1, h2, m', h3, h⟩ := h; exact ⟨h1, h2, m', h3, hk _ h⟩
  case app => obtain ⟨l, site, g, n, xs, ys, h1, h2, ht, h3, h4, h5, h6, h7, h⟩ := h; exact ⟨l, site, g, n, xs, ys, h1, h2, ht, h3, h4, h5, h6, h7, hk _ h⟩
  case appl => obtain ⟨site, g, n, xs, ys, h1, h2, ht, h3, h4, h5, h6, h7, h⟩ := h; exact ⟨site, g, n, xs, ys, h1, h2, ht, h3, h4, h5, h6, h7, hk _ h⟩
  case appS => obtain ⟨l, site, g, n, xs, t, h1, h2, ht, h3, h4, h5, h⟩ := h; exact ⟨l, site, g, n, xs, t, h1, h2, ht, h3, h4, h5, hk _ h⟩
  case mk => obtain ⟨kl, kc, n, k, h1, h2, h3, h4, h5, h6, h⟩ := h; exact ⟨kl, kc, n, k, h1, h2, h3, h4, h5, h6, hk _ h⟩
  case s2b => obtain ⟨s, h1, h2, h3, h⟩ := h; exact ⟨s, h1, h2, h3, hk _ h⟩
  case usd => obtain ⟨l, s, g, n, sz, xs, h0, h1, h2, h⟩ := h; exact ⟨l, s, g, n, sz, xs, h0, h1, h2, hk _ h⟩
  case ustr =>
    rcases h with ⟨h1, h2, h⟩ | ⟨l, g, n, xs, s, h1, h2, h3, h4, h5, h6, h⟩
    · exact .inl ⟨h1, h2, hk _ h⟩
    · exact .inr ⟨l, g, n, xs, s, h1, h2, h3, h4, h5, h6, hk _ h⟩
  case dfr => obtain ⟨fn, fa, fb, h1, h⟩ := h; exact ⟨fn, fa, fb, h1, hk _ h⟩
  case bsl => obtain ⟨y, h1, h2, h3, h⟩ := h; exact ⟨y, h1, h2, h3, hk _ h⟩
  case bslv => obtain ⟨y, h1, h2, h3, h4, h⟩ := h; exact ⟨y, h1, h2, h3, h4, hk _ h⟩
  case bsl0 => exact ⟨h.1, hk _ h.2⟩
  case lit0 => exact hk _ h
  case clr => obtain ⟨l, s, g, o, n, q, xs, h1, h2, h3, h4, h⟩ := h; exact ⟨l, s, g, o, n, q, xs, h1, h2, h3, h4, hk _ h⟩
  case appe => obtain ⟨xs, ys, h1, h2, h3, h4, h5, h6, h⟩ := h; exact ⟨xs, ys, h1, h2, h3, h4, h5, h6, hk _ h⟩
  case appc => obtain ⟨xs, ys, h1, h2, h3, h4, h5, h6, h7, h8, h⟩ := h; exact ⟨xs, ys, h1, h2, h3, h4, h5, h6, h7, h8, hk _ h⟩
  case isnil => obtain ⟨ys, h1, h2, h3⟩ := h; exact ⟨ys, h1, fun e => hk _ (h2 e), fun e => hk _ (h3 e)⟩
  case slc0 => obtain ⟨ys, h1, h2, h⟩ := h; exact ⟨ys, h1, h2, hk _ h⟩
  case callK => obtain ⟨k, fa, fb, v, m', hf, h1, h2, h⟩ := h; exact ⟨k, fa, fb, v, m', hf, h1, h2, hk _ h⟩
  case xb => obtain ⟨t, b, h1, h2, h⟩ := h; exact ⟨t, b, h1, h2, hk _ h⟩
  case callR => obtain ⟨k, fa, fb, ys, R, hf, h1, h2, h3, h4, h⟩ := h; exact ⟨k, fa, fb, ys, R, hf, h1, h2, h3, h4, fun v hv => hk _ (h v hv)⟩
  case rngs => obtain ⟨t, h1, h2, h⟩ := h; exact ⟨t, h1, h2, hk _ h⟩
  case mkm => obtain ⟨h1, h⟩ := h; exact ⟨h1, hk _ h⟩
  case mput => obtain ⟨l, s, ks, vs, p, k, h1, h2, h3, h7, h4, h5, h6, h⟩ := h; exact ⟨l, s, ks, vs, p, k, h1, h2, h3, h7, h4, h5, h6, hk _ h⟩
  case nxts => obtain ⟨l, s, t, p, h1, h2, h3, h4⟩ := h; exact ⟨l, s, t, p, h1, h2, fun e => hk _ (h3 e), fun e => hk _ (h4 e)⟩
  case storev => obtain ⟨h0, h1, h2, m', h3, h⟩ := h; exact ⟨h0, h1, h2, m', h3, hk _ h⟩
  case call => obtain ⟨k, fa, fb, ys, v, hf, h1, h2, h3, h4, h5, h⟩ := h; exact ⟨k, fa, fb, ys, v, hf, h1, h2, h3, h4, h5, hk _ h⟩
  case callF => obtain ⟨k, fa, fb, v, m', hf, h1, h⟩ := h; exact ⟨k, fa, fb, v, m', hf, h1, hk _ h⟩
  case callG => obtain ⟨k, fa, fb, R, hf, h1, h⟩ := h; exact ⟨k, fa, fb, R, hf, h1, fun x m' hr hl => hk _ (h x m' hr hl)⟩

theorem astep_mono {it : Item} {st : St} {K K' : St → Prop} (hk : ∀ s, K s → K' s) (h : astep P it st K) : astep P it st K' := by
  unfold astep at h ⊢
  split at h
  · exact aop_mono hk h
  · split at h
    · exact ⟨fun e => aop_mono hk (h.1 e), fun e => hk _ (h.2 e)⟩
    · exact ⟨h.1, hk _ h.2⟩
    · exact h.elim

theorem aops_ok : ∀ {its : List Item} {st : St} {Q : St → Prop}, aops P its st Q → AOps P N its st Q
  | [], _, _, h => .nil h
  | _ :: _, _, _, h => astep_ok (astep_mono (fun _ hs => aops_ok hs) h)

end

inductive GO where
  | vec (slot site sz : Nat)
  | drop (s : Nat)
  | vecc (s idx site sz : Nat)
  | pub (slot site : Nat)
  | pubc (s idx site : Nat)
  | give (slot site l S : Nat)
  | lst (slot : Nat)

def gstep (g : GO) (st : St) : Option St :=
  match g with
  | .vec slot site sz => match st.f slot with
    | .nils => bif rowOrNone (look st.m 0 site) then some { st with m := Am.put st.m 0 site (.vec (newGen st.m 0 site) sz []), f := upd st.f slot (.vec 0 site (newGen st.m 0 site) 0 0 false) } else none
    | _ => none
  | .drop s => bif noRow st.m s then some (st.drop s) else none
  | .vecc s idx site sz => match look st.m 0 s with
    | .cells xs => match xs[idx]? with
      | some .nils => bif rowOrNone (look st.m 0 site) && !(Nat.beq site s) then some { st with m := Am.put (Am.put st.m 0 site (.vec (newGen st.m 0 site) sz [])) 0 s (.cells (xs.set idx (.vec 0 site (newGen st.m 0 site) 0 0 false))) } else none
      | some _ => some st
      | none => none
    | _ => none
  | .pub slot site => match st.f slot with
    | .vec 0 s' g o n _ => match look st.m 0 site with
      | .vec g' sz xs => bif Nat.beq s' site && Nat.beq g g' && Nat.ble (o + n) xs.length then some { st with m := Am.put st.m 0 site (.vec (g + 1) sz []), f := upd st.f slot (.list ((xs.drop o).take n)) } else none
      | _ => none
    | .list _ => some st
    | _ => none
  | .pubc s idx site => match look st.m 0 s with
    | .cells cs => match cs[idx]? with
      | some (.vec 0 s' g o n _) => match look st.m 0 site with
        | .vec g' sz xs => bif Nat.beq s' site && Nat.beq g g' && Nat.ble (o + n) xs.length then some { st with m := Am.put (Am.put st.m 0 site (.vec (g + 1) sz [])) 0 s (.cells (cs.set idx (.list ((xs.drop o).take n)))) } else none
        | _ => none
      | _ => none
    | _ => none
  | .give slot site l S => match st.f slot with
    | .vec 0 s' g o n q => match look st.m 0 site with
      | .vec g' sz xs => bif Nat.beq s' site && Nat.beq g g' && Nat.blt l st.m.length && !(Nat.beq l 0) && rowOrNone (look st.m l S) && Nat.blt S 2000 then some { st with m := Am.put (Am.put st.m 0 site (.vec (g + 1) sz [])) l S (.vec (newGen st.m l S) sz xs), f := upd st.f slot (.vec l S (newGen st.m l S) o n q) } else none
      | _ => none
    | _ => none
  | .lst slot => match st.f slot with
    | .nils => some { st with f := upd st.f slot (.list []) }
    | .list l => some { st with f := upd st.f slot (.list l) }
    | _ => none

inductive RC where
  | skip
  | reg (its : List Item)
  | draw (its : List Item)
  | seq (a b : RC)
  | cond (c : RA) (a b : RC)
  | block (id : Nat) (a : RC)
  | loop (a : RC)
  | exit (id : Nat)
  | scope (a : RC)
  | lab
  | ret
  | gho (g : GO) (a : RC)
  | no
  | goto (l : Nat)
  | jump (l : Nat) (a b : RC)

def Ks (f : St → Prop) (Q : Exit → St → Prop) : Exit → St → Prop
  | .normal, st => f st
  | e, st => Q e st
def Kb (id : Nat) (Q : Exit → St → Prop) : Exit → St → Prop
  | .exit i, st => if i = id then Q .normal st else Q (.exit i) st
  | e, st => Q e st
def Kg (Q : Exit → St → Prop) : Exit → St → Prop
  | .goto _, _ => False
  | e, st => Q e st

def Kj (l : Nat) (J : St → Prop) (Q : Exit → St → Prop) : Exit → St → Prop
  | .goto i, st => i = l ∧ J st
  | e, st => Q e st

def awp (P : Program) : RC → St → (Exit → St → Prop) → Prop
  | .skip, st, Q => Q .normal st
  | .reg its, st, Q => aops P its st (Q .normal)
  | .draw its, st, Q => aops P its st (Q .normal)
  | .seq a b, st, Q => awp P a st (Ks (fun st' => awp P b st' Q) Q)
  | .cond c a b, st, Q => ∃ t, c.ev st.f = .bool t ∧ (t = true → awp P a st Q) ∧ (t = false → awp P b st Q)
  | .block id a, st, Q => awp P a st (Kb id Q)
  | .loop a, st, Q => ∃ (I : Nat → St → Prop) (n : Nat), I n st ∧ ∀ n st', I n st' → awp P a st' (Ks (fun s => ∃ k, k < n ∧ I k s) Q)
  | .exit id, st, Q => Q (.exit id) st
  | .scope a, st, Q => awp P a st (Kg Q)
  | .lab, st, Q => Q .normal st
  | .ret, st, Q => Q .ret st
  | .gho g a, st, Q => ∃ st', gstep g st = some st' ∧ awp P a st' Q
  | .no, _, _ => False
  | .goto l, st, Q => Q (.goto l) st
  | .jump l a b, st, Q => ∃ I : Nat → St → Prop, awp P a st (Kj l (fun s => ∃ n, I n s) Q) ∧ ∀ n st', I n st' → awp P b st' (Kj l (fun s => ∃ k, k < n ∧ I k s) Q)

theorem slots_upd {G : Gh} {f : Fr} {a : Act} (hs : ∀ i, Rep G (f i) (a.tmps.getD i undef)) {d : Nat} {x : AV} (hx : Rep G x (a.tmps.getD d undef)) : ∀ i, Rep G (upd f d x i) (a.tmps.getD i undef) := by
  intro i
  by_cases hi : i = d
  · subst hi; rw [upd_same]; exact hx
  · rw [upd_ne _ _ hi]; exact hs i

theorem gstep_ok {G : Gh} {B N : Nat} {st st' : St} {a : Act} {w : World} (h : Rel G B N st a w) {g : GO} (hg : gstep g st = some st') : ∃ G', Rel G' B N st' a w ∧ Ext 1 G w G' w := by
  cases g with
  | vec slot site sz =>
    simp only [gstep] at hg
    split at hg
    · rename_i hn
      cases hro : rowOrNone (look st.m 0 site) with
      | false => rw [hro] at hg; cases hg
      | true =>
        rw [hro] at hg
        simp only [cond_true, Option.some.injEq] at hg
        subst hg
        have hl : 0 < st.m.length := List.length_pos_iff.2 h.ne
        obtain ⟨h1, h2⟩ := h.vecput (w' := w) (sz := sz) (cap := 0) (b := none) (ys := []) hl hro (newGen_lt h.mr hro) rfl rfl rfl (Nat.le_refl _) (fun _ _ _ => rfl) (fun k e => by cases e) ⟨by simp, rfl, rfl⟩ (.inl ⟨rfl, rfl⟩)
        refine ⟨_, ⟨h1.mr, h1.size, slots_upd h1.slots ?_, h1.ds, h1.base, h1.top, h1.ne⟩, h2⟩
        have hs := h.slots slot
        rw [hn] at hs
        generalize a.tmps.getD slot undef = v at hs
        cases hs
        exact .vec rfl (Nat.le_of_eq (by simp [Gh.row])) fun _ => .inl ⟨by simp [Gh.row], rfl, rfl, none, rfl, fun _ => rfl⟩
    · cases hg
  | drop s =>
    simp only [gstep] at hg
    cases hro : noRow st.m s with
    | false => rw [hro] at hg; cases hg
    | true =>
      rw [hro] at hg
      simp only [cond_true, Option.some.injEq] at hg
      subst hg
      exact ⟨_, h.drop s hro⟩
  | vecc s idx site sz =>
    simp only [gstep] at hg
    split at hg
    · rename_i xs hlk
      split at hg
      · rename_i hn
        cases hro : (rowOrNone (look st.m 0 site) && !(Nat.beq site s)) with
        | false => rw [hro] at hg; cases hg
        | true =>
          rw [hro] at hg
          simp only [cond_true, Option.some.injEq] at hg
          subst hg
          rw [Bool.and_eq_true] at hro
          have hne : s ≠ site := fun e => by
            have h2 := hro.2
            rw [e] at h2
            simp at h2
          have hl : 0 < st.m.length := List.length_pos_iff.2 h.ne
          obtain ⟨h1, h2⟩ := h.vecput (w' := w) (sz := sz) (cap := 0) (b := none) (ys := []) hl hro.1 (newGen_lt h.mr hro.1) rfl rfl rfl (Nat.le_refl _) (fun _ _ _ => rfl) (fun k e => by cases e) ⟨by simp, rfl, rfl⟩ (.inl ⟨rfl, rfl⟩)
          have hlk' : look (Am.put st.m 0 site (.vec (newGen st.m 0 site) sz [])) 0 s = .cells xs := by
            rw [look_put_ne (.inr hne)]; exact hlk
          obtain ⟨b, cs, hb, hsoft, hrep⟩ := h1.mr.cells 0 s xs hlk'
          obtain ⟨v, hv, hr⟩ := hrep.at_ hn
          have hvn : v = .slice none 0 0 := by cases hr; rfl
          subst hvn
          have hset : cs.toList.set idx (.slice none 0 0) = cs.toList := by
            obtain ⟨hi, he⟩ := List.getElem?_eq_some_iff.1 hv
            rw [← he, List.set_getElem_self]
          have hrep' := hrep.set idx (x := .vec 0 site (newGen st.m 0 site) 0 0 false) (v := .slice none 0 0) (.vec rfl (Nat.le_of_eq (by simp [Gh.row, Gh.dn])) fun _ => .inl ⟨by simp [Gh.row, Gh.dn], rfl, rfl, none, rfl, fun _ => rfl⟩)
          rw [hset] at hrep'
          exact ⟨_, ⟨h1.mr.stored hlk' hb (Turned.refl b w) hsoft hrep', h1.size, h1.slots, h1.ds, h1.base, h1.top, put_ne h1.ne⟩, h2⟩
      · cases hg; exact ⟨G, h, Ext.refl 1 G w⟩
      · cases hg
    · cases hg
  | pub slot site =>
    simp only [gstep] at hg
    split at hg
    · rename_i s' g o n q hs
      split at hg
      · rename_i g' sz xs hlk
        cases hb : (Nat.beq s' site && Nat.beq g g' && Nat.ble (o + n) xs.length) with
        | false => rw [hb] at hg; cases hg
        | true =>
          rw [hb] at hg
          simp only [cond_true, Option.some.injEq] at hg
          subst hg
          simp only [Bool.and_eq_true] at hb
          obtain ⟨⟨b1, b2⟩, b3⟩ := hb
          have e1 := Nat.eq_of_beq_eq_true b1
          have e2 := Nat.eq_of_beq_eq_true b2
          subst e1 e2
          exact h.publish hs hlk (Nat.le_of_ble_eq_true b3)
      · cases hg
    · cases hg
      exact ⟨G, h, Ext.refl 1 G w⟩
    · cases hg
  | pubc s idx site =>
    simp only [gstep] at hg
    split at hg
    · rename_i cs hc
      split at hg
      · rename_i s' g o n q hs
        split at hg
        · rename_i g' sz xs hlk
          cases hb : (Nat.beq s' site && Nat.beq g g' && Nat.ble (o + n) xs.length) with
          | false => rw [hb] at hg; cases hg
          | true =>
            rw [hb] at hg
            simp only [cond_true, Option.some.injEq] at hg
            subst hg
            simp only [Bool.and_eq_true] at hb
            obtain ⟨⟨b1, b2⟩, b3⟩ := hb
            have e1 := Nat.eq_of_beq_eq_true b1
            have e2 := Nat.eq_of_beq_eq_true b2
            subst e1 e2
            exact h.publishc hc hs hlk (Nat.le_of_ble_eq_true b3)
        · cases hg
      · cases hg
    · cases hg
  | give slot site l S =>
    simp only [gstep] at hg
    split at hg
    · rename_i s' g o n q hs
      split at hg
      · rename_i g' sz xs hlk
        cases hb : (Nat.beq s' site && Nat.beq g g' && Nat.blt l st.m.length && !(Nat.beq l 0) && rowOrNone (look st.m l S) && Nat.blt S 2000) with
        | false => rw [hb] at hg; cases hg
        | true =>
          rw [hb] at hg
          simp only [cond_true, Option.some.injEq] at hg
          subst hg
          simp only [Bool.and_eq_true] at hb
          obtain ⟨⟨⟨⟨⟨b1, b2⟩, b3⟩, b4⟩, b5⟩, b6⟩ := hb
          have e1 := Nat.eq_of_beq_eq_true b1
          have e2 := Nat.eq_of_beq_eq_true b2
          subst e1 e2
          have b4' : l ≠ 0 := fun e => by rw [e] at b4; simp at b4
          exact h.give hs hlk (Nat.le_of_ble_eq_true b3) b4' b5 (Nat.le_of_ble_eq_true b6)
      · cases hg
    · cases hg
  | lst slot =>
    simp only [gstep] at hg
    split at hg
    · rename_i hs
      cases hg
      refine ⟨G, ⟨h.mr, h.size, slots_upd h.slots ?_, h.ds, h.base, h.top, h.ne⟩, Ext.refl 1 G w⟩
      have hr := h.slots slot
      rw [hs] at hr
      exact hr.nn0
    · rename_i l hs
      cases hg
      refine ⟨G, ⟨h.mr, h.size, slots_upd h.slots ?_, h.ds, h.base, h.top, h.ne⟩, Ext.refl 1 G w⟩
      have hr := h.slots slot
      rw [hs] at hr
      exact hr
    · cases hg

end Go.Proofs.YtdgbidbkcigkhaaGreatDoor.Am

namespace Go.Proofs.YtdgbidbkcigkhaaGreatDoor.Am
open Go

def RA.sl : RA → List Nat
  | .t n => [n]
  | _ => []
def slO : Option RA → List Nat
  | some r => r.sl
  | none => []
def VO.sl : VO → List Nat
  | .mov x => x.sl
  | .pick c a b => c.sl ++ (a.sl ++ b.sl)
  | .build _ ps => ps.flatMap fun p => p.2.2.sl
  | .load _ x => x.sl
  | .loadv _ _ _ x => x.sl
  | .loado _ x => x.sl
  | .loadr _ x => x.sl
  | .nilck x => x.sl
  | .un _ x => x.sl
  | .cvi _ x => x.sl
  | .b2s x => x.sl
  | .faddr _ x => x.sl
  | .faddv _ x => x.sl
  | .fld _ _ x => x.sl
  | .ext x _ => x.sl
  | .len _ x => x.sl
  | .bin _ _ x y => x.sl ++ y.sl
  | .eqs _ _ x y => x.sl ++ y.sl
  | .iaddr _ _ x y => x.sl ++ y.sl
  | .idx x y => x.sl ++ y.sl
  | .mnx _ x y => x.sl ++ y.sl
  | .mnx3 _ x y z => x.sl ++ (y.sl ++ z.sl)
  | .slc _ x lo hi mx => x.sl ++ (slO lo ++ (slO hi ++ slO mx))
  | .slcl x hi mx => x.sl ++ (hi.sl ++ mx.sl)
  | .slcp _ x lo hi mx => x.sl ++ (slO lo ++ (slO hi ++ slO mx))
  | .mkfn _ a b => a.flatMap RA.sl ++ b.flatMap RA.sl
  | .toU x => x.sl
  | .ofU _ _ x => x.sl
  | .same x => x.sl
  | .mget _ _ _ x y => x.sl ++ y.sl
  | .mgetp _ _ _ x y => x.sl ++ y.sl
  | .aidx _ _ _ x y => x.sl ++ y.sl
  | .mki _ x => x.sl
  | .tas _ _ _ x => x.sl
def RO.sl : RO → List Nat
  | .val v => v.sl
  | .allocN _ _ => []
  | .boxN _ r => r.sl
  | .store _ p r => p.sl ++ r.sl
  | .storev _ _ _ p r => p.sl ++ r.sl
  | .app _ _ _ s r => s.sl ++ r.sl
  | .appl _ _ _ s r => s.sl ++ r.sl
  | .appS _ s r => s.sl ++ r.sl
  | .mk _ _ _ _ _ l c => l.sl ++ c.sl
  | .s2b _ _ r => r.sl
  | .usd r => r.sl
  | .ustr _ p r => p.sl ++ r.sl
  | .bsl _ _ _ ps => ps.flatMap fun p => p.2.2.sl
  | .call f rs => f.sl ++ rs.flatMap RA.sl
  | .callF f rs => f.sl ++ rs.flatMap RA.sl
  | .dfr f rs => f.sl ++ rs.flatMap RA.sl
  | .slc0 _ _ x => x.sl
  | .bslv _ _ _ _ ps => ps.flatMap fun p => p.2.2.sl
  | .bsl0 _ _ => []
  | .lit0 _ => []
  | .clr _ _ r => r.sl
  | .appe _ _ _ s r => s.sl ++ r.sl
  | .isnil _ x => x.sl
  | .appc _ _ _ _ s r => s.sl ++ r.sl
  | .callR f rs => f.sl ++ rs.flatMap RA.sl
  | .callG f rs => f.sl ++ rs.flatMap RA.sl
  | .xb _ _ s c => s.sl ++ c.sl
  | .callK _ _ f rs => f.sl ++ rs.flatMap RA.sl
  | .rngs _ r => r.sl
  | .nxts r => r.sl
  | .mkm _ => []
  | .mput _ x y z => x.sl ++ (y.sl ++ z.sl)
def Item.sl (it : Item) : List Nat := it.op.sl ++ (match it.g with | some (j, _) => [j] | none => [])

def Same (l : List Nat) (f f' : Fr) : Prop := ∀ t, t ∈ l → f t = f' t
theorem Same.left {a b : List Nat} {f f' : Fr} (h : Same (a ++ b) f f') : Same a f f' := fun t ht => h t (List.mem_append_left _ ht)
theorem Same.right {a b : List Nat} {f f' : Fr} (h : Same (a ++ b) f f') : Same b f f' := fun t ht => h t (List.mem_append_right _ ht)

theorem RA.ev_same {r : RA} {f f' : Fr} (h : Same r.sl f f') : r.ev f = r.ev f' := by
  cases r with
  | t n => exact h n (by simp [RA.sl])
  | c x => rfl
  | f k => rfl
  | g k l => rfl

theorem evs_same : ∀ {rs : List RA} {f f' : Fr}, Same (rs.flatMap RA.sl) f f' → rs.map (RA.ev f) = rs.map (RA.ev f')
  | [], _, _, _ => rfl
  | r :: rs, f, f', h => by
    rw [List.flatMap_cons] at h
    rw [List.map_cons, List.map_cons, RA.ev_same h.left, evs_same h.right]

theorem fill_same {f f' : Fr} : ∀ {ps : List (Nat × Nat × RA)} {z : List AV}, Same (ps.flatMap fun p => p.2.2.sl) f f' → fill f ps z = fill f' ps z
  | [], _, _ => rfl
  | (o, n, r) :: ps, z, h => by
    rw [List.flatMap_cons] at h
    simp only [fill, RA.ev_same h.left, fill_same h.right]

theorem bnd_same {f f' : Fr} {d : Nat} {r : Option RA} (h : Same (slO r) f f') : bnd f d r = bnd f' d r := by
  cases r with
  | none => rfl
  | some r => simp only [bnd, RA.ev_same (r := r) h]

theorem vop_same {f f' : Fr} {m : Mem} {vo : VO} (h : Same vo.sl f f') : vop f m vo = vop f' m vo := by
  cases vo with
  | mov x => simp only [vop, RA.ev_same (r := x) h]
  | pick c a b => simp only [vop, RA.ev_same (r := c) h.left, RA.ev_same (r := a) h.right.left, RA.ev_same (r := b) h.right.right]
  | build z ps => simp only [vop, fill_same (ps := ps) h]
  | load k x => simp only [vop, RA.ev_same (r := x) h]
  | loadv l s k x => simp only [vop, RA.ev_same (r := x) h]
  | loado k x => simp only [vop, RA.ev_same (r := x) h]
  | loadr k x => simp only [vop, RA.ev_same (r := x) h]
  | nilck x => simp only [vop, RA.ev_same (r := x) h]
  | un o x => simp only [vop, RA.ev_same (r := x) h]
  | cvi k x => simp only [vop, RA.ev_same (r := x) h]
  | b2s x => simp only [vop, RA.ev_same (r := x) h]
  | faddr o x => simp only [vop, RA.ev_same (r := x) h]
  | faddv o x => simp only [vop, RA.ev_same (r := x) h]
  | fld o k x => simp only [vop, RA.ev_same (r := x) h]
  | ext x i => simp only [vop, RA.ev_same (r := x) h]
  | toU x => simp only [vop, RA.ev_same (r := x) h]
  | ofU t n x => simp only [vop, RA.ev_same (r := x) h]
  | same x => simp only [vop, RA.ev_same (r := x) h]
  | len k x => simp only [vop, RA.ev_same (r := x) h]
  | bin t o x y => simp only [vop, RA.ev_same (r := x) h.left, RA.ev_same (r := y) h.right]
  | eqs n ks x y => simp only [vop, RA.ev_same (r := x) h.left, RA.ev_same (r := y) h.right]
  | iaddr sz len x y => simp only [vop, RA.ev_same (r := x) h.left, RA.ev_same (r := y) h.right]
  | idx x y => simp only [vop, RA.ev_same (r := x) h.left, RA.ev_same (r := y) h.right]
  | mget tx ok z x y => simp only [vop, RA.ev_same (r := x) h.left, RA.ev_same (r := y) h.right]
  | mgetp tx ok z x y => simp only [vop, RA.ev_same (r := x) h.left, RA.ev_same (r := y) h.right]
  | aidx n sz k x y => simp only [vop, RA.ev_same (r := x) h.left, RA.ev_same (r := y) h.right]
  | mki t x => simp only [vop, RA.ev_same (r := x) h]
  | tas t ok z x => simp only [vop, RA.ev_same (r := x) h]
  | mnx b x y => simp only [vop, RA.ev_same (r := x) h.left, RA.ev_same (r := y) h.right]
  | mnx3 b x y z => simp only [vop, RA.ev_same (r := x) h.left, RA.ev_same (r := y) h.right.left, RA.ev_same (r := z) h.right.right]
  | slc sz x lo hi mx =>
    have h1 := h.right.left
    have h2 := h.right.right.left
    have h3 := h.right.right.right
    simp only [vop, RA.ev_same (r := x) h.left, bnd_same (r := lo) h1, bnd_same (r := hi) h2]
    cases mx with
    | none => rfl
    | some r => simp only [bnd_same (r := some r) h3]
  | slcp sz x lo hi mx =>
    have h1 := h.right.left
    have h2 := h.right.right.left
    have h3 := h.right.right.right
    simp only [vop, RA.ev_same (r := x) h.left, bnd_same (r := lo) h1, bnd_same (r := hi) h2]
    cases mx with
    | none => rfl
    | some r => simp only [bnd_same (r := some r) h3]
  | mkfn fn a b => simp only [vop, evs_same (rs := a) h.left, evs_same (rs := b) h.right]
  | slcl x hi mx => simp only [vop, RA.ev_same (r := x) h.left, RA.ev_same (r := hi) h.right.left, RA.ev_same (r := mx) h.right.right]

inductive MC where
  | no
  | shape
  | rows
  | cell (l s : Nat)
  | outer
  | all
  deriving DecidableEq

def VO.mc : VO → MC
  | .load _ _ => .all
  | .loadv l s _ _ => .cell l s
  | .loado _ _ => .outer
  | .loadr _ _ => .rows
  | .b2s _ => .rows
  | .nilck _ => .shape
  | .faddr _ _ => .shape
  | .len _ _ => .shape
  | .slc .. => .shape
  | .iaddr .. => .shape
  | .toU _ => .all
  | .ofU .. => .all
  | .mget .. => .all
  | _ => .no

def Ob.sh : Ob → Option (Nat × Nat)
  | .vec g z _ => some (g, z)
  | _ => Option.none
def Ob.row : Ob → Option (Nat × Nat × List AV)
  | .vec g z xs => some (g, z, xs)
  | _ => Option.none

def Agree : MC → Mem → Mem → Prop
  | .no, _, _ => True
  | .shape, m, m' => ∀ l s, (look m l s).sh = (look m' l s).sh
  | .rows, m, m' => ∀ l s, (look m l s).row = (look m' l s).row
  | .cell l s, m, m' => look m l s = look m' l s ∨ ((look m l s).isRow = true ∧ (look m' l s).isRow = true)
  | .outer, m, m' => ∀ l s, look m (l + 1) s = look m' (l + 1) s
  | .all, m, m' => m = m'

theorem Agree.refl (c : MC) (m : Mem) : Agree c m m := by
  cases c <;> simp [Agree]

theorem gen_shape {m m' : Mem} {l s : Nat} (h : (look m l s).sh = (look m' l s).sh) : gen? m l s = gen? m' l s := by
  unfold gen?
  cases h1 : look m l s <;> cases h2 : look m' l s <;> rw [h1, h2] at h <;> simp_all [Ob.sh]

theorem elems_rows {m m' : Mem} (h : Agree .rows m m') (x : AV) : elemsOf m x = elemsOf m' x := by
  cases x with
  | vec l s g o n q =>
    have h := h l s
    simp only [elemsOf]
    cases h1 : look m l s <;> cases h2 : look m' l s <;> rw [h1, h2] at h <;> simp_all [Ob.row]
  | _ => rfl

theorem aslice_shape {m m' : Mem} (h : Agree .shape m m') (sz : Option Nat) (x : AV) (lo hi : Nat) (mx : Option Nat) : aslice m sz x lo hi mx = aslice m' sz x lo hi mx := by
  cases sz with
  | none => rfl
  | some z =>
    cases x with
    | vec l s g o n q =>
      have h := h l s
      simp only [aslice]
      cases h1 : look m l s <;> cases h2 : look m' l s <;> rw [h1, h2] at h <;> simp_all [Ob.sh]
    | _ => rfl

theorem aiaddr_shape {m m' : Mem} (h : Agree .shape m m') (sz : Nat) (len : Option Nat) (x : AV) (i : Int) : aiaddr m sz len x i = aiaddr m' sz len x i := by
  unfold aiaddr
  cases len with
  | none =>
    cases x with
    | vec l s g o n q =>
      have h := h l s
      simp only
      cases h1 : look m l s <;> cases h2 : look m' l s <;> rw [h1, h2] at h <;> simp_all [Ob.sh]
    | _ => rfl
  | some k => rfl

def rowF (F : Nat → List AV → Option AV) : Ob → Option AV
  | .vec g _ xs => F g xs
  | _ => none

theorem row_match {o o' : Ob} (h : o.row = o'.row) (F : Nat → List AV → Option AV) : rowF F o = rowF F o' := by
  cases o <;> cases o' <;> simp only [Ob.row, Option.some.injEq, Prod.mk.injEq, reduceCtorEq] at h <;> first
    | rfl
    | (obtain ⟨rfl, _, rfl⟩ := h
       rfl)

theorem aload_vptr (m : Mem) (k : Option Nat) (l s g i o : Nat) : aload m k (.vptr l s g i o) = rowF (fun g' xs => if g = g' then match xs[i]? with
    | some e => part e.cells o k
    | none => none
  else none) (look m l s) := by
  simp only [aload]
  cases look m l s <;> rfl

theorem vop_mem {f : Fr} {m m' : Mem} {vo : VO} (h : Agree vo.mc m m') : vop f m vo = vop f m' vo := by
  cases vo <;> simp only [VO.mc] at h <;> try rfl
  case load k x => have h : m = m' := h; subst h; rfl
  case toU x => have h : m = m' := h; subst h; rfl
  case ofU t n x => have h : m = m' := h; subst h; rfl
  case mget tx ok z x i => have h : m = m' := h; subst h; rfl
  case loado k x =>
    have h : ∀ l s, look m (l + 1) s = look m' (l + 1) s := h
    simp only [vop]
    split
    · simp only [aload, h]
    · rfl
  case loadv l s k x =>
    have h : look m l s = look m' l s ∨ ((look m l s).isRow = true ∧ (look m' l s).isRow = true) := h
    simp only [vop]
    split
    · split
      · rename_i hh
        obtain ⟨rfl, rfl⟩ := hh
        rcases h with h | ⟨h1, h2⟩
        · simp only [aload, h]
        · simp only [aload]
          cases e1 : look m _ _ <;> cases e2 : look m' _ _ <;> rw [e1] at h1 <;> rw [e2] at h2 <;> first | rfl | (simp [Ob.isRow] at h1; done) | (simp [Ob.isRow] at h2; done)
      · rfl
    · rfl
  case b2s x => simp only [vop, elems_rows h]
  case loadr k x =>
    simp only [vop]
    split
    · rfl
    · rename_i l s g i o e
      have h4 : (look m l s).row = (look m' l s).row := h l s
      rw [aload_vptr, aload_vptr, row_match h4]
    · rfl
  case nilck x => simp only [vop, fun l s => gen_shape (h l s)]
  case faddr o x => simp only [vop, fun l s => gen_shape (h l s)]
  case len k x => simp only [vop, fun l s => gen_shape (h l s)]
  case slc sz x lo hi mx => simp only [vop, aslice_shape h]
  case iaddr sz len x i => simp only [vop, aiaddr_shape h]

mutual
theorem still_rows {m m' : Mem} (h : Agree .rows m m') : ∀ x : AV, x.still false m = x.still false m'
  | .vec l s g o n q => by
      have h := h l s
      simp only [AV.still]
      cases h1 : look m l s <;> cases h2 : look m' l s <;> rw [h1, h2] at h <;> simp_all [Ob.row]
  | .agg l => by simp only [AV.still, stillL_rows h l]
  | .tup l => by simp only [AV.still, stillL_rows h l]
  | .iface t x => by simp only [AV.still, still_rows h x]
  | .top | .int .. | .bool _ | .str _ | .nils | .nilp | .nilf | .nili | .nilm | .anyp | .list _ | .lcap _ | .fn .. | .ptr .. | .vptr .. | .rptr _ | .mp .. => rfl
  | .mptr l s => by simp only [AV.still, Bool.false_and, Bool.false_eq_true, if_false]
theorem stillL_rows {m m' : Mem} (h : Agree .rows m m') : ∀ l : List AV, AV.stillL false m l = AV.stillL false m' l
  | [] => rfl
  | x :: l => by simp only [AV.stillL, still_rows h x, stillL_rows h l]
end

def RO.pure : RO → Bool
  | .val _ => true
  | .bsl .. => true
  | .call _ _ => true
  | .usd _ => true
  | .lit0 _ => true
  | .appe .. => true
  | _ => false

def RO.mc : RO → MC
  | .val v => v.mc
  | .call _ _ => .rows
  | .usd _ => .rows
  | .bsl .. => .no
  | .lit0 _ => .no
  | .appe .. => .no
  | _ => .all

section
variable {P : Program}

def pgood (P : Program) (op : RO) (st : St) (x : AV) : Prop :=
  match op with
  | .val vo => vop st.f st.m vo = some x
  | .call f args => ∃ k fa fb ys, f.ev st.f = .fn (.func k) fa fb ∧ AV.stillL false st.m (fa ++ args.map (RA.ev st.f) ++ fb) = some ys ∧ AV.rfL ys = true ∧ Fn1 P k ys x ∧ x.rf = true ∧ (AV.rfL (fa ++ args.map (RA.ev st.f) ++ fb) = true ∨ x.nl = true)
  | _ => False

def mgood (P : Program) (op : RO) (st : St) (x : AV) (m : Mem) : Prop :=
  match op with
  | .val vo => vop st.f st.m vo = some x ∧ m = st.m
  | .call f args => pgood P (.call f args) st x ∧ m = st.m
  | .allocN s z => noOb st.m s = true ∧ x = .ptr 0 s 0 ∧ m = Am.put st.m 0 s (.cells z)
  | .boxN s r => noOb st.m s = true ∧ (r.ev st.f).cells.all AV.leaf = true ∧ x = .ptr 0 s 0 ∧ m = Am.put st.m 0 s (.cells (r.ev st.f).cells)
  | .store n p r => (r.ev st.f).cells.length = n ∧ (r.ev st.f).cells.all AV.leaf = true ∧ astore st.m (p.ev st.f) (r.ev st.f).cells = some m ∧ x = .tup []
  | .storev l s n p r => (∃ o, p.ev st.f = .ptr l s o) ∧ (r.ev st.f).cells.length = n ∧ (r.ev st.f).cells.all AV.leaf = true ∧ astore st.m (p.ev st.f) (r.ev st.f).cells = some m ∧ x = .tup []
  | .app sz bytes el s r => ∃ l site g n xs ys, s.ev st.f = .vec l site g 0 n false ∧ look st.m l site = .vec g sz xs ∧ tyOk site el = true ∧ n ≤ xs.length ∧ elemsOf st.m (r.ev st.f) = some ys ∧ ys.all (fun e => e.cells.length == sz) = true ∧ n + ys.length ≤ maxLen ∧ (n + ys.length) * bytes ≤ 140737488355328 ∧
      x = .vec l site (g + 1) 0 (n + ys.length) false ∧ m = Am.put st.m l site (.vec (g + 1) sz (xs.take n ++ ys))
  | .appl sz bytes el s r => ∃ site g n xs ys, s.ev st.f = .vec 0 site g 0 n false ∧ look st.m 0 site = .vec g sz xs ∧ tyOk site el = true ∧ n ≤ xs.length ∧ elemsOf st.m (r.ev st.f) = some ys ∧ ys.all (fun e => e.cells.length == sz) = true ∧ n + ys.length ≤ maxLen ∧ (n + ys.length) * bytes ≤ 140737488355328 ∧
      x = .list (xs.take n ++ ys) ∧ m = Am.put st.m 0 site (.vec (g + 1 + 1) sz [])
  | .bsl sz len z ps => (∃ y, fill st.f ps (zeros z sz len) = some y ∧ AV.rfL y = true ∧ y.all AV.leaf = true ∧ x = .list (chunk sz len (y.map nn0))) ∧ m = st.m
  | .bslv site sz len z ps => ∃ y, fill st.f ps (zeros z sz len) = some y ∧ AV.rfL y = true ∧ y.all AV.leaf = true ∧ rowOrNone (look st.m 0 site) = true ∧ x = .vec 0 site (newGen st.m 0 site) 0 len false ∧ m = Am.put st.m 0 site (.vec (newGen st.m 0 site) sz (chunk sz len (y.map nn0)))
  | .lit0 _ => x = .lcap [] ∧ m = st.m
  | .appe sz bytes _ s r => (∃ xs ys, s.ev st.f = .lcap xs ∧ r.ev st.f = .list ys ∧ xs.all (fun e => e.cells.length == sz) = true ∧ ys.all (fun e => e.cells.length == sz) = true ∧ xs.length + ys.length ≤ maxLen ∧ (xs.length + ys.length) * bytes ≤ 140737488355328 ∧ x = .list (xs ++ ys)) ∧ m = st.m
  | .bsl0 site sz => rowOrNone (look st.m 0 site) = true ∧ x = .vec 0 site (newGen st.m 0 site) 0 0 false ∧ m = Am.put st.m 0 site (.vec (newGen st.m 0 site) sz [])
  | .appc site sz bytes _ s r => ∃ xs ys, s.ev st.f = .lcap xs ∧ elemsOf st.m (r.ev st.f) = some ys ∧ ys ≠ [] ∧ xs.all (fun e => e.cells.length == sz) = true ∧ ys.all (fun e => e.cells.length == sz) = true ∧ xs.length + ys.length ≤ maxLen ∧ (xs.length + ys.length) * bytes ≤ 140737488355328 ∧ rowOrNone (look st.m 0 site) = true ∧
      x = .vec 0 site (newGen st.m 0 site) 0 (xs.length + ys.length) false ∧ m = Am.put st.m 0 site (.vec (newGen st.m 0 site) sz (xs ++ ys))
  | .callF f args => ∃ k fa fb, f.ev st.f = .fn (.func k) fa fb ∧ ACalls P k (fa ++ args.map (RA.ev st.f) ++ fb) st.m (fun y m' => y = x ∧ m' = m)
  | .callK l s f args => ∃ k fa fb, f.ev st.f = .fn (.func k) fa fb ∧ ACalls P k (fa ++ args.map (RA.ev st.f) ++ fb) st.m (fun y m' => y = x ∧ m' = m) ∧ look m l s = look st.m l s
  | .usd r => (∃ l s g n sz xs, 2000 ≤ s ∧ r.ev st.f = .vec l s g 0 n false ∧ look st.m l s = .vec g sz xs ∧ x = (if n = 0 then .anyp else .vptr l s g 0 0)) ∧ m = st.m
  | .ustr el p r => (p.ev st.f = .anyp ∧ r.ev st.f = .int .i64 0 ∧ x = .str [] ∧ m = st.m) ∨
      ∃ l g n xs s, p.ev st.f = .vptr l (el + 2000) g 0 0 ∧ r.ev st.f = .int .i64 ((n : Nat) : Int) ∧ look st.m l (el + 2000) = .vec g 1 xs ∧ n ≤ xs.length ∧ n ≠ 0 ∧ xs.take n = bytesAV s ∧ x = .str s ∧ m = Am.put st.m l (el + 2000) (.vec (g + 1) 1 [])
  | _ => False

def RO.keeps : RO → Bool
  | .appS .. => false
  | .mk .. => false
  | .s2b .. => false
  | .dfr .. => false
  | .slc0 .. => false
  | .isnil .. => false
  | .callR .. => false
  | .callG .. => false
  | .xb .. => false
  | .rngs .. => false
  | .nxts .. => false
  | .mkm .. => false
  | .mput .. => false
  | .clr .. => false
  | _ => true

theorem aop_good {d : Option Nat} {op : RO} {st : St} {K : St → Prop} (hk : op.keeps = true) : aop P d op st K ↔ ∃ x m, mgood P op st x m ∧ K { st with m := m, f := updO st.f d x } := by
  cases op <;> simp only [RO.keeps, Bool.false_eq_true] at hk <;> simp only [aop, mgood, pgood]
  case val => exact ⟨fun ⟨x, h, k⟩ => ⟨x, _, ⟨h, rfl⟩, k⟩, fun ⟨x, m, ⟨h, e⟩, k⟩ => by subst e; exact ⟨x, h, k⟩⟩
  case allocN => exact ⟨fun ⟨h, k⟩ => ⟨_, _, ⟨h, rfl, rfl⟩, k⟩, fun ⟨x, m, ⟨h, e, e'⟩, k⟩ => by subst e e'; exact ⟨h, k⟩⟩
  case boxN => exact ⟨fun ⟨h, h', k⟩ => ⟨_, _, ⟨h, h', rfl, rfl⟩, k⟩, fun ⟨x, m, ⟨h, h', e, e'⟩, k⟩ => by subst e e'; exact ⟨h, h', k⟩⟩
  case store => exact ⟨fun ⟨h1, h2, m', h3, k⟩ => ⟨_, m', ⟨h1, h2, h3, rfl⟩, k⟩, fun ⟨x, m, ⟨h1, h2, h3, e⟩, k⟩ => by subst e; exact ⟨h1, h2, m, h3, k⟩⟩
  case storev => exact ⟨fun ⟨h0, h1, h2, m', h3, k⟩ => ⟨_, m', ⟨h0, h1, h2, h3, rfl⟩, k⟩, fun ⟨x, m, ⟨h0, h1, h2, h3, e⟩, k⟩ => by subst e; exact ⟨h0, h1, h2, m, h3, k⟩⟩
  case app => exact ⟨fun ⟨l, site, g, n, xs, ys, h1, h2, ht, h3, h4, h5, h6, h7, k⟩ => ⟨_, _, ⟨l, site, g, n, xs, ys, h1, h2, ht, h3, h4, h5, h6, h7, rfl, rfl⟩, k⟩, fun ⟨x, m, ⟨l, site, g, n, xs, ys, h1, h2, ht, h3, h4, h5, h6, h7, e, e'⟩, k⟩ => by subst e e'; exact ⟨l, site, g, n, xs, ys, h1, h2, ht, h3, h4, h5, h6, h7, k⟩⟩
  case appl => exact ⟨fun ⟨site, g, n, xs, ys, h1, h2, ht, h3, h4, h5, h6, h7, k⟩ => ⟨_, _, ⟨site, g, n, xs, ys, h1, h2, ht, h3, h4, h5, h6, h7, rfl, rfl⟩, k⟩, fun ⟨x, m, ⟨site, g, n, xs, ys, h1, h2, ht, h3, h4, h5, h6, h7, e, e'⟩, k⟩ => by subst e e'; exact ⟨site, g, n, xs, ys, h1, h2, ht, h3, h4, h5, h6, h7, k⟩⟩
  case call => exact ⟨fun ⟨k, fa, fb, ys, v, h1, h2, h3, h4, h5, h6, kk⟩ => ⟨v, _, ⟨⟨k, fa, fb, ys, h1, h2, h3, h4, h5, h6⟩, rfl⟩, kk⟩, fun ⟨x, m, ⟨⟨k, fa, fb, ys, h1, h2, h3, h4, h5, h6⟩, e⟩, kk⟩ => by subst e; exact ⟨k, fa, fb, ys, x, h1, h2, h3, h4, h5, h6, kk⟩⟩
  case usd => exact ⟨fun ⟨l, s, g, n, sz, xs, h0, h1, h2, k⟩ => ⟨_, _, ⟨⟨l, s, g, n, sz, xs, h0, h1, h2, rfl⟩, rfl⟩, k⟩, fun ⟨x, m, ⟨⟨l, s, g, n, sz, xs, h0, h1, h2, e⟩, e'⟩, k⟩ => by subst e e'; exact ⟨l, s, g, n, sz, xs, h0, h1, h2, k⟩⟩
  case ustr =>
    constructor
    · rintro (⟨h1, h2, k⟩ | ⟨l, g, n, xs, s, h1, h2, h3, h4, h5, h6, k⟩)
      · exact ⟨_, _, .inl ⟨h1, h2, rfl, rfl⟩, k⟩
      · exact ⟨_, _, .inr ⟨l, g, n, xs, s, h1, h2, h3, h4, h5, h6, rfl, rfl⟩, k⟩
    · rintro ⟨x, m, ⟨h1, h2, e, e'⟩ | ⟨l, g, n, xs, s, h1, h2, h3, h4, h5, h6, e, e'⟩, k⟩
      · subst e e'; exact .inl ⟨h1, h2, k⟩
      · subst e e'; exact .inr ⟨l, g, n, xs, s, h1, h2, h3, h4, h5, h6, k⟩
  case bsl => exact ⟨fun ⟨y, h1, h2, h3, k⟩ => ⟨_, _, ⟨⟨y, h1, h2, h3, rfl⟩, rfl⟩, k⟩, fun ⟨x, m, ⟨⟨y, h1, h2, h3, e⟩, e'⟩, k⟩ => by subst e e'; exact ⟨y, h1, h2, h3, k⟩⟩
  case bslv => exact ⟨fun ⟨y, h1, h2, h3, h4, k⟩ => ⟨_, _, ⟨y, h1, h2, h3, h4, rfl, rfl⟩, k⟩, fun ⟨x, m, ⟨y, h1, h2, h3, h4, e, e'⟩, k⟩ => by subst e e'; exact ⟨y, h1, h2, h3, h4, k⟩⟩
  case lit0 => exact ⟨fun k => ⟨_, _, ⟨rfl, rfl⟩, k⟩, fun ⟨x, m, ⟨e, e'⟩, k⟩ => by subst e e'; exact k⟩
  case appe => exact ⟨fun ⟨xs, ys, h1, h2, h3, h4, h5, h6, k⟩ => ⟨_, _, ⟨⟨xs, ys, h1, h2, h3, h4, h5, h6, rfl⟩, rfl⟩, k⟩, fun ⟨x, m, ⟨⟨xs, ys, h1, h2, h3, h4, h5, h6, e⟩, e'⟩, k⟩ => by subst e e'; exact ⟨xs, ys, h1, h2, h3, h4, h5, h6, k⟩⟩
  case bsl0 => exact ⟨fun ⟨h1, k⟩ => ⟨_, _, ⟨h1, rfl, rfl⟩, k⟩, fun ⟨x, m, ⟨h1, e, e'⟩, k⟩ => by subst e e'; exact ⟨h1, k⟩⟩
  case appc => exact ⟨fun ⟨xs, ys, h1, h2, h3, h4, h5, h6, h7, h8, k⟩ => ⟨_, _, ⟨xs, ys, h1, h2, h3, h4, h5, h6, h7, h8, rfl, rfl⟩, k⟩, fun ⟨x, m, ⟨xs, ys, h1, h2, h3, h4, h5, h6, h7, h8, e, e'⟩, k⟩ => by subst e e'; exact ⟨xs, ys, h1, h2, h3, h4, h5, h6, h7, h8, k⟩⟩
  case callK => exact ⟨fun ⟨k, fa, fb, v, m', h1, h2, h3, kk⟩ => ⟨v, m', ⟨k, fa, fb, h1, h2, h3⟩, kk⟩, fun ⟨x, m, ⟨k, fa, fb, h1, h2, h3⟩, kk⟩ => ⟨k, fa, fb, x, m, h1, h2, h3, kk⟩⟩
  case callF => exact ⟨fun ⟨k, fa, fb, v, m', h1, h2, kk⟩ => ⟨v, m', ⟨k, fa, fb, h1, h2⟩, kk⟩, fun ⟨x, m, ⟨k, fa, fb, h1, h2⟩, kk⟩ => ⟨k, fa, fb, x, m, h1, h2, kk⟩⟩

def sgood (P : Program) (it : Item) (st : St) (x : AV) (m : Mem) : Prop :=
  match it.g with
  | none => mgood P it.op st x m
  | some (j, want) => match st.f j with
    | .bool b => (b = want ∧ mgood P it.op st x m) ∨ (b = (!want) ∧ x = .tup [] ∧ m = st.m)
    | .tup l => l = [] ∧ x = .tup [] ∧ m = st.m
    | _ => False

theorem astep_good {it : Item} {st : St} {K : St → Prop} (hk : it.op.keeps = true) : astep P it st K ↔ ∃ x m, sgood P it st x m ∧ K { st with m := m, f := updO st.f it.dst x } := by
  obtain ⟨d, op, g⟩ := it
  cases g with
  | none => exact aop_good hk
  | some p =>
    obtain ⟨j, want⟩ := p
    simp only [astep, sgood]
    cases hj : st.f j with
    | bool b =>
      simp only
      rw [aop_good hk]
      constructor
      · intro ⟨h1, h2⟩
        by_cases hb : b = want
        · obtain ⟨x, m, h, k⟩ := h1 hb; exact ⟨x, m, .inl ⟨hb, h⟩, k⟩
        · have hb' : b = !want := by cases b <;> cases want <;> first | rfl | exact absurd rfl hb
          exact ⟨_, _, .inr ⟨hb', rfl, rfl⟩, h2 hb'⟩
      · rintro ⟨x, m, ⟨hb, h⟩ | ⟨hb, rfl, rfl⟩, k⟩
        · exact ⟨fun _ => ⟨x, m, h, k⟩, fun e => by rw [hb] at e; cases want <;> cases e⟩
        · exact ⟨fun e => (by rw [hb] at e; cases want <;> cases e), fun _ => k⟩
    | tup l =>
      constructor
      · rintro ⟨h, k⟩
        exact ⟨_, _, ⟨h, rfl, rfl⟩, k⟩
      · rintro ⟨x, m, ⟨h, rfl, rfl⟩, k⟩
        exact ⟨h, k⟩
    | _ => exact ⟨fun h => h.elim, fun ⟨_, _, h, _⟩ => h.elim⟩

theorem mgood_same {op : RO} {f f' : Fr} {m m' : Mem} {ds ds' : List DF} {x : AV} (h : Same op.sl f f') (k : mgood P op ⟨f, m, ds⟩ x m') : mgood P op ⟨f', m, ds'⟩ x m' := by
  cases op with
  | val vo => simp only [mgood, vop_same (vo := vo) h] at k ⊢; exact k
  | call g args => simp only [mgood, pgood, RA.ev_same (r := g) h.left, evs_same (rs := args) h.right] at k ⊢; exact k
  | callK l s g args => simp only [mgood, RA.ev_same (r := g) h.left, evs_same (rs := args) h.right] at k ⊢; exact k
  | callF g args => simp only [mgood, RA.ev_same (r := g) h.left, evs_same (rs := args) h.right] at k ⊢; exact k
  | allocN s z => exact k
  | boxN s r => simp only [mgood, RA.ev_same (r := r) h] at k ⊢; exact k
  | store n p r => simp only [mgood, RA.ev_same (r := p) h.left, RA.ev_same (r := r) h.right] at k ⊢; exact k
  | storev l s n p r => simp only [mgood, RA.ev_same (r := p) h.left, RA.ev_same (r := r) h.right] at k ⊢; exact k
  | usd r => simp only [mgood, RA.ev_same (r := r) h] at k ⊢; exact k
  | ustr el p r => simp only [mgood, RA.ev_same (r := p) h.left, RA.ev_same (r := r) h.right] at k ⊢; exact k
  | app sz bytes el s r => simp only [mgood, RA.ev_same (r := s) h.left, RA.ev_same (r := r) h.right] at k ⊢; exact k
  | appl sz bytes el s r => simp only [mgood, RA.ev_same (r := s) h.left, RA.ev_same (r := r) h.right] at k ⊢; exact k
  | appc site sz bytes el s r => simp only [mgood, RA.ev_same (r := s) h.left, RA.ev_same (r := r) h.right] at k ⊢; exact k
  | bsl sz len z ps => simp only [mgood, fill_same (ps := ps) h] at k ⊢; exact k
  | bslv site sz len z ps => simp only [mgood, fill_same (ps := ps) h] at k ⊢; exact k
  | bsl0 site sz => exact k
  | lit0 sz => exact k
  | appe sz bytes el s r => simp only [mgood, RA.ev_same (r := s) h.left, RA.ev_same (r := r) h.right] at k ⊢; exact k
  | _ => exact k.elim

theorem sgood_same {it : Item} {f f' : Fr} {m m' : Mem} {ds ds' : List DF} {x : AV} (h : Same it.sl f f') (k : sgood P it ⟨f, m, ds⟩ x m') : sgood P it ⟨f', m, ds'⟩ x m' := by
  obtain ⟨d, op, g⟩ := it
  cases g with
  | none => exact mgood_same (Same.left h) k
  | some p =>
    obtain ⟨j, want⟩ := p
    have hj : f j = f' j := (Same.right h) j (by simp)
    simp only [sgood] at k ⊢
    rw [← hj]
    cases he : f j with
    | bool b => rw [he] at k; exact k.imp (fun h1 => ⟨h1.1, mgood_same (Same.left h) h1.2⟩) id
    | tup l => rw [he] at k; exact k
    | _ => rw [he] at k; exact k

theorem pure_mem {op : RO} (hp : op.pure = true) {f : Fr} {m m' m1 : Mem} {ds ds' : List DF} {x : AV} (h : Agree op.mc m m') (k : mgood P op ⟨f, m, ds⟩ x m1) : m1 = m ∧ mgood P op ⟨f, m', ds'⟩ x m' := by
  cases op with
  | bsl sz len z ps => obtain ⟨k, e⟩ := k; exact ⟨e, k, rfl⟩
  | lit0 sz => obtain ⟨k, e⟩ := k; exact ⟨e, k, rfl⟩
  | appe sz bytes el s r => obtain ⟨k, e⟩ := k; exact ⟨e, k, rfl⟩
  | val vo => obtain ⟨k, e⟩ := k; exact ⟨e, by rw [← vop_mem (f := f) h]; exact k, rfl⟩
  | call g args =>
    obtain ⟨⟨k, fa, fb, ys, h1, h2, h3, h4, h5, h6⟩, e⟩ := k
    refine ⟨e, ⟨k, fa, fb, ys, h1, ?_, h3, h4, h5, h6⟩, rfl⟩
    rw [← stillL_rows h]; exact h2
  | usd r =>
    obtain ⟨⟨l, s, g, n, sz, xs, h0, h1, h2, h3⟩, e⟩ := k
    refine ⟨e, ⟨l, s, g, n, sz, xs, h0, h1, ?_, h3⟩, rfl⟩
    have h4 : (look m l s).row = (look m' l s).row := h l s
    have h2 : look m l s = .vec g sz xs := h2
    show look m' l s = .vec g sz xs
    rw [h2] at h4
    cases hl : look m' l s with
    | vec g' sz' xs' => rw [hl] at h4; simp only [Ob.row, Option.some.injEq, Prod.mk.injEq] at h4; obtain ⟨rfl, rfl, rfl⟩ := h4; rfl
    | none => rw [hl] at h4; cases h4
    | cells _ => rw [hl] at h4; cases h4
    | iter _ _ => rw [hl] at h4; cases h4
  | _ => cases hp

theorem pure_smem {it : Item} (hp : it.op.pure = true) {f : Fr} {m m' m1 : Mem} {ds ds' : List DF} {x : AV} (h : Agree it.op.mc m m') (k : sgood P it ⟨f, m, ds⟩ x m1) : m1 = m ∧ sgood P it ⟨f, m', ds'⟩ x m' := by
  obtain ⟨d, op, g⟩ := it
  cases g with
  | none => exact pure_mem hp h k
  | some p =>
    obtain ⟨j, want⟩ := p
    simp only [sgood] at k ⊢
    cases he : f j with
    | bool b =>
      rw [he] at k
      rcases k with ⟨h1, k⟩ | ⟨h1, h2, h3⟩
      · obtain ⟨a, b⟩ := pure_mem hp h k
        exact ⟨a, .inl ⟨h1, b⟩⟩
      · exact ⟨h3, .inr ⟨h1, h2, trivial⟩⟩
    | tup l => rw [he] at k; exact ⟨k.2.2, k.1, k.2.1, trivial⟩
    | _ => rw [he] at k; exact k.elim

def RO.lets (op : RO) (c : MC) : Bool :=
  match op with
  | .val _ => true
  | .call _ _ => true
  | .store .. => c == .no || c == .shape
  | .storev l s _ _ _ => match c with
    | .cell l' s' => l' != l || s' != s
    | .outer => l == 0
    | .all => false
    | _ => true
  | .allocN s _ => match c with
    | .cell l' s' => l' != 0 || s' != s
    | .all => false
    | _ => true
  | .boxN s _ => match c with
    | .cell l' s' => l' != 0 || s' != s
    | .all => false
    | _ => true
  | .app .. => match c with
    | .no => true
    | .cell _ _ => true
    | _ => false
  | .appl .. => match c with
    | .no => true
    | .cell _ _ => true
    | .outer => true
    | _ => false
  | .bsl .. => true
  | .lit0 _ => true
  | .appe .. => true
  | .bslv s _ _ _ _ => match c with
    | .no => true
    | .cell l' s' => l' != 0 || s' != s
    | .outer => true
    | _ => false
  | .bsl0 s _ => match c with
    | .no => true
    | .cell l' s' => l' != 0 || s' != s
    | .outer => true
    | _ => false
  | .appc s _ _ _ _ _ => match c with
    | .no => true
    | .cell l' s' => l' != 0 || s' != s
    | .outer => true
    | _ => false
  | .callF .. => c == .no
  | .callK l s _ _ => match c with
    | .no => true
    | .cell l' s' => l' == l && s' == s
    | _ => false
  | .usd _ => true
  | .ustr .. => c == .no
  | _ => false

theorem agree_cells {m : Mem} {l s : Nat} {o o' : Ob} (hl : look m l s = o) (ho : o.row = none) (ho' : o'.row = none) (hlt : l < m.length) {c : MC} (hc : match c with
    | .cell l' s' => (l' != l || s' != s) = true
    | .outer => (l == 0) = true
    | .all => False
    | _ => True) : Agree c m (Am.put m l s o') := by
  have key : ∀ l' s', (l' = l ∧ s' = s) ∨ look (Am.put m l s o') l' s' = look m l' s' := by
    intro l' s'
    by_cases hh : l' = l ∧ s' = s
    · exact .inl hh
    · exact .inr (look_put_ne (by omega))
  have hsh : ∀ {x : Ob}, x.row = none → x.sh = none := by intro x; cases x <;> simp [Ob.row, Ob.sh]
  cases c with
  | no => trivial
  | shape =>
    intro l' s'
    rcases key l' s' with ⟨rfl, rfl⟩ | e
    · rw [look_put_same hlt, hl, hsh ho, hsh ho']
    · rw [e]
  | rows =>
    intro l' s'
    rcases key l' s' with ⟨rfl, rfl⟩ | e
    · rw [look_put_same hlt, hl, ho, ho']
    · rw [e]
  | cell l' s' =>
    show look m l' s' = look _ l' s' ∨ _
    rcases key l' s' with ⟨rfl, rfl⟩ | e
    · simp at hc
    · exact .inl e.symm
  | outer =>
    intro l' s'
    have hc : l = 0 := by simpa using hc
    exact (look_put_ne (by omega)).symm
  | all => exact hc.elim

theorem noOb_look {m : Mem} {s : Nat} (h : noOb m s = true) : look m 0 s = .none := by
  unfold noOb at h
  split at h
  · assumption
  · cases h

end

end Go.Proofs.YtdgbidbkcigkhaaGreatDoor.Am

namespace Go.Proofs.YtdgbidbkcigkhaaGreatDoor.Am
open Go

theorem Agree.symm {c : MC} {m m' : Mem} (h : Agree c m m') : Agree c m' m := by
  cases c with
  | no => trivial
  | shape => exact fun l s => (h l s).symm
  | rows => exact fun l s => (h l s).symm
  | cell l s => exact Or.imp Eq.symm And.symm h
  | outer => exact fun l s => (h l s).symm
  | all => exact Eq.symm h

theorem astore_shape {m m' : Mem} {p : AV} {ys : List AV} (h : astore m p ys = some m') : Agree .shape m m' := by
  cases p with
  | ptr l s o =>
    simp only [astore] at h
    split at h
    · rename_i xs hlk
      split at h
      · split at h
        · cases h
          exact agree_cells (c := .shape) hlk rfl rfl (look_lt (by rw [hlk]; simp)) trivial
        · cases h
      · cases h
    · cases h
  | vptr l s g i o =>
    simp only [astore] at h
    split at h
    · rename_i g' sz xs hlk
      split at h
      · rename_i hg
        subst hg
        split at h
        · split at h
          · cases h
            intro l' s'
            by_cases hh : l' = l ∧ s' = s
            · obtain ⟨rfl, rfl⟩ := hh
              rw [look_put_same (look_lt (by rw [hlk]; simp)), hlk]
              rfl
            · rw [look_put_ne (by omega)]
          · cases h
        · cases h
      · cases h
    · cases h
  | _ => simp [astore] at h

section
variable {P : Program} {N : Nat}

theorem put_none {m : Mem} {s : Nat} {xs : List AV} (h : noOb m s = true) {c : MC} (hc : match c with
    | .cell l' s' => (l' != 0 || s' != s) = true
    | .all => False
    | _ => True) : Agree c m (Am.put m 0 s (.cells xs)) := by
  cases m with
  | nil => exact Agree.refl c _
  | cons fr m => exact agree_cells (noOb_look h) rfl rfl (by simp) (by cases c <;> first | exact hc | rfl)

theorem mgood_lets {op : RO} {c : MC} (hc : op.lets c = true) {st : St} {x : AV} {m : Mem} (h : mgood P op st x m) : Agree c st.m m := by
  cases op with
  | val vo => rw [h.2]; exact Agree.refl c _
  | call f args => rw [h.2]; exact Agree.refl c _
  | usd r => rw [h.2]; exact Agree.refl c _
  | callK l s f args =>
    obtain ⟨_, _, _, _, _, he⟩ := h
    cases c with
    | no => trivial
    | cell l' s' =>
      simp only [RO.lets, Bool.and_eq_true, beq_iff_eq] at hc
      obtain ⟨rfl, rfl⟩ := hc
      exact .inl he.symm
    | _ => simp [RO.lets] at hc
  | ustr el p r =>
    simp only [RO.lets, beq_iff_eq] at hc
    subst hc; trivial
  | store n p r =>
    simp only [RO.lets, Bool.or_eq_true, beq_iff_eq] at hc
    rcases hc with rfl | rfl
    · trivial
    · exact astore_shape h.2.2.1
  | storev l s n p r =>
    obtain ⟨⟨o, ho⟩, h1, h2, h3, h4⟩ := h
    rw [ho] at h3
    simp only [astore] at h3
    split at h3
    · rename_i xs hlk
      split at h3
      · split at h3
        · cases h3
          refine agree_cells hlk rfl rfl (look_lt (by rw [hlk]; simp)) ?_
          cases c <;> first | trivial | exact hc | cases hc
        · cases h3
      · cases h3
    · cases h3
  | allocN s z =>
    rw [h.2.2]
    refine put_none h.1 ?_
    cases c <;> first | trivial | exact hc | cases hc
  | boxN s r =>
    rw [h.2.2.2]
    refine put_none h.1 ?_
    cases c <;> first | trivial | exact hc | cases hc
  | app sz bytes el s r =>
    obtain ⟨l, site, g, n, xs, ys, _, hlk, _, _, _, _, _, _, _, rfl⟩ := h
    cases c with
    | no => trivial
    | cell l' s' =>
      show look st.m l' s' = look _ l' s' ∨ _
      by_cases hh : l' = l ∧ s' = site
      · obtain ⟨rfl, rfl⟩ := hh
        refine .inr ⟨by rw [hlk]; rfl, ?_⟩
        rw [look_put_same (look_lt (by rw [hlk]; simp))]; rfl
      · exact .inl (look_put_ne (by omega)).symm
    | _ => simp [RO.lets] at hc
  | appl sz bytes el s r =>
    obtain ⟨site, g, n, xs, ys, _, hlk, _, _, _, _, _, _, _, rfl⟩ := h
    cases c with
    | no => trivial
    | cell l' s' =>
      show look st.m l' s' = look _ l' s' ∨ _
      by_cases hh : l' = 0 ∧ s' = site
      · obtain ⟨rfl, rfl⟩ := hh
        refine .inr ⟨by rw [hlk]; rfl, ?_⟩
        rw [look_put_same (look_lt (by rw [hlk]; simp))]; rfl
      · exact .inl (look_put_ne (by omega)).symm
    | outer => exact fun l' s' => (look_put_ne (.inl (Nat.succ_ne_zero l'))).symm
    | _ => simp [RO.lets] at hc
  | bsl sz len z ps => rw [h.2]; exact Agree.refl c _
  | lit0 sz => rw [h.2]; exact Agree.refl c _
  | appe sz bytes el s r => rw [h.2]; exact Agree.refl c _
  | bslv site sz len z ps =>
    obtain ⟨y, _, _, _, _, _, rfl⟩ := h
    cases c with
    | no => trivial
    | cell l' s' =>
      simp only [RO.lets, Bool.or_eq_true, bne_iff_ne] at hc
      exact .inl (look_put_ne (by omega)).symm
    | outer => exact fun l' s' => (look_put_ne (.inl (Nat.succ_ne_zero l'))).symm
    | _ => simp [RO.lets] at hc
  | bsl0 site sz =>
    obtain ⟨_, _, rfl⟩ := h
    cases c with
    | no => trivial
    | cell l' s' =>
      simp only [RO.lets, Bool.or_eq_true, bne_iff_ne] at hc
      exact .inl (look_put_ne (by omega)).symm
    | outer => exact fun l' s' => (look_put_ne (.inl (Nat.succ_ne_zero l'))).symm
    | _ => simp [RO.lets] at hc
  | appc site sz bytes el s r =>
    obtain ⟨xs, ys, _, _, _, _, _, _, _, _, _, rfl⟩ := h
    cases c with
    | no => trivial
    | cell l' s' =>
      simp only [RO.lets, Bool.or_eq_true, bne_iff_ne] at hc
      exact .inl (look_put_ne (by omega)).symm
    | outer => exact fun l' s' => (look_put_ne (.inl (Nat.succ_ne_zero l'))).symm
    | _ => simp [RO.lets] at hc
  | callF f args =>
    simp only [RO.lets, beq_iff_eq] at hc
    subst hc; trivial
  | _ => exact h.elim

theorem sgood_lets {it : Item} {c : MC} (hc : it.op.lets c = true) {st : St} {x : AV} {m : Mem} (h : sgood P it st x m) : Agree c st.m m := by
  obtain ⟨d, op, g⟩ := it
  cases g with
  | none => exact mgood_lets hc h
  | some p =>
    obtain ⟨j, want⟩ := p
    simp only [sgood] at h
    cases he : st.f j with
    | bool b =>
      rw [he] at h
      rcases h with ⟨_, h⟩ | ⟨_, _, h⟩
      · exact mgood_lets hc h
      · rw [h]; exact Agree.refl c _
    | tup l => rw [he] at h; rw [h.2.2]; exact Agree.refl c _
    | _ => rw [he] at h; exact h.elim

def apart (a b : Item) : Bool :=
  (match a.dst with
   | some d => !(b.sl.contains d) && b.dst != some d
   | none => true) &&
  (match b.dst with
   | some d => !(a.sl.contains d)
   | none => true)

def fresh2 (a b : Item) : Bool :=
  match a.op, b.op, a.g, b.g with
  | .allocN s _, .allocN t _, none, none => s != t
  | _, _, _, _ => false

def indep (a b : Item) : Bool :=
  a.op.keeps && b.op.keeps && apart a b && ((a.op.pure && b.op.lets a.op.mc) || (b.op.pure && a.op.lets b.op.mc) || fresh2 a b)

theorem noOb_put {m : Mem} {s t : Nat} {o : Ob} (h : s ≠ t) : noOb (Am.put m 0 s o) t = noOb m t := by
  unfold noOb
  rw [look_put_ne (.inr (Ne.symm h))]
theorem put_swap {m : Mem} {s t : Nat} {o q : Ob} (h : s ≠ t) : Am.put (Am.put m 0 s o) 0 t q = Am.put (Am.put m 0 t q) 0 s o := by
  cases m with
  | nil => rfl
  | cons fr m =>
    simp only [Am.put]
    congr 1
    funext i
    by_cases h1 : i = t
    · subst h1
      rw [upd_same, upd_ne _ _ (Ne.symm h), upd_same]
    · rw [upd_ne _ _ h1]
      by_cases h2 : i = s
      · subst h2; rw [upd_same, upd_same]
      · rw [upd_ne _ _ h2, upd_ne _ _ h2, upd_ne _ _ h1]
theorem fresh2_comm {a b : Item} (h : fresh2 a b = true) {st : St} {f : Fr} {x y : AV} {m m2 : Mem} (ga : sgood P a st x m) (gb : sgood P b { st with m := m, f := f } y m2) :
    ∃ m1, sgood P b st y m1 ∧ ∀ f', sgood P a { st with m := m1, f := f' } x m2 := by
  obtain ⟨da, oa, ga'⟩ := a
  obtain ⟨db, ob, gb'⟩ := b
  unfold fresh2 at h
  dsimp only at h
  split at h
  · rename_i s z t w
    have hne : s ≠ t := by simpa using h
    obtain ⟨h1, rfl, rfl⟩ := ga
    obtain ⟨h2, rfl, rfl⟩ := gb
    dsimp only at h2
    rw [noOb_put hne] at h2
    refine ⟨_, ⟨h2, rfl, rfl⟩, fun f' => ⟨?_, rfl, ?_⟩⟩
    · dsimp only; rw [noOb_put (Ne.symm hne)]; exact h1
    · exact put_swap hne
  · cases h

theorem updO_same {l : List Nat} {f : Fr} {d : Option Nat} {x : AV} (h : ∀ k, d = some k → k ∉ l) : Same l f (updO f d x) := by
  intro t ht
  cases d with
  | none => rfl
  | some k =>
    have : t ≠ k := fun e => h k rfl (e ▸ ht)
    show f t = upd f k x t
    rw [upd_ne _ _ this]

theorem updO_comm {f : Fr} {d e : Option Nat} {x y : AV} (h : ∀ k, d = some k → e ≠ some k) : updO (updO f d x) e y = updO (updO f e y) d x := by
  cases d with
  | none => rfl
  | some d =>
    cases e with
    | none => rfl
    | some e =>
      have hne : d ≠ e := fun hh => h d rfl (hh ▸ rfl)
      funext i
      show upd (upd f d x) e y i = upd (upd f e y) d x i
      by_cases h1 : i = e
      · subst h1
        rw [upd_same, upd_ne _ _ (Ne.symm hne), upd_same]
      · rw [upd_ne _ _ h1]
        by_cases h2 : i = d
        · subst h2; rw [upd_same, upd_same]
        · rw [upd_ne _ _ h2, upd_ne _ _ h2, upd_ne _ _ h1]

theorem apart_spec {a b : Item} (h : apart a b = true) : (∀ k, a.dst = some k → k ∉ b.sl) ∧ (∀ k, a.dst = some k → b.dst ≠ some k) ∧ (∀ k, b.dst = some k → k ∉ a.sl) := by
  unfold apart at h
  simp only [Bool.and_eq_true] at h
  refine ⟨fun k e => ?_, fun k e => ?_, fun k e => ?_⟩
  · have := h.1; rw [e] at this; simp at this; exact this.1
  · have := h.1; rw [e] at this; simp at this; exact this.2
  · have := h.2; rw [e] at this; simpa using this

theorem astep_comm {a b : Item} (h : indep a b = true) {st : St} {K : St → Prop} (k : astep P a st fun s => astep P b s K) : astep P b st fun s => astep P a s K := by
  unfold indep at h
  simp only [Bool.and_eq_true, Bool.or_eq_true] at h
  obtain ⟨⟨⟨ka, kb⟩, hap⟩, hor⟩ := h
  obtain ⟨h1, h2, h3⟩ := apart_spec hap
  rw [astep_good ka] at k
  obtain ⟨x, m, ga, k⟩ := k
  rw [astep_good kb] at k
  obtain ⟨y, m2, gb, k⟩ := k
  rw [astep_good kb]
  have hs1 : ∀ f : Fr, Same b.sl f (updO f a.dst x) := fun f => updO_same h1
  have hs3 : ∀ f : Fr, Same a.sl f (updO f b.dst y) := fun f => updO_same h3
  have hsym : ∀ {l f f'}, Same l f f' → Same l f' f := fun h t ht => (h t ht).symm
  have hK : K { st with m := m2, f := updO (updO st.f b.dst y) a.dst x } := by
    rw [← updO_comm h2]; exact k
  rcases hor with (⟨pa, lb⟩ | ⟨pb, la⟩) | hf
  · have e : m = st.m := (pure_smem (m' := st.m) (ds' := st.ds) pa (Agree.refl _ _) ga).1
    subst e
    have gb' : sgood P b st y m2 := sgood_same (hsym (hs1 st.f)) gb
    refine ⟨y, m2, gb', ?_⟩
    rw [astep_good ka]
    have ga' : sgood P a { st with m := m2 } x m2 := (pure_smem pa (sgood_lets lb gb') ga).2
    exact ⟨x, m2, sgood_same (hs3 st.f) ga', hK⟩
  · have hag := sgood_lets la ga
    obtain ⟨e, gb1⟩ := pure_smem (m' := st.m) (ds' := st.ds) pb hag.symm gb
    have e : m2 = m := e
    subst e
    have gb' : sgood P b st y st.m := sgood_same (hsym (hs1 st.f)) gb1
    refine ⟨y, st.m, gb', ?_⟩
    rw [astep_good ka]
    exact ⟨x, m2, sgood_same (hs3 st.f) ga, hK⟩
  · obtain ⟨m1, gb', ga'⟩ := fresh2_comm hf ga gb
    refine ⟨y, m1, gb', ?_⟩
    rw [astep_good ka]
    exact ⟨x, m2, ga' _, hK⟩

theorem single_ok {ops : Array Oper} {o : Oper} {i : Nat} (hi : ops[i]? = some o) {it : Item} (hc : chkI P N ops o it = true) {st : St} {K : St → Prop} (h : astep P it st K) {G : Gh} {B : Nat} {a : Act} {w : World} (hr : Rel G B N st a w) {KK : Act → World → Prop} {QQ : Exit → Act → World → Prop}
    (hk : ∀ G' st' a' w', K st' → Rel G' B N st' a' w' → Ext 1 G w G' w' → KK a' w') : wpOp P ops QQ i KK a w := by
  have h1 : AOps P N [it] st K := astep_ok (astep_mono (fun _ hs => AOps.nil hs) h)
  have h2 := h1 ops [o] (by simp [chkIs, hc]) G B a w hr (fun e a w => match e with
    | .normal => KK a w
    | e => QQ e a w) (fun G' st' a' w' h1 h2 h3 => hk G' st' a' w' h1 h2 h3)
  unfold wpOp
  simp only [hi]
  unfold wpList at h2
  split
  · rename_i hw
    rw [if_pos hw] at h2
    rcases h2 with h2 | h2
    · left
      unfold Oper.wp at h2 ⊢
      generalize (execOp a.eval o).run P w = r at h2 ⊢
      cases r with
      | ok n w' =>
        cases n <;> simp only [Oper.upon] at h2 ⊢ <;> first
          | exact h2
          | exact Calls.mono h2 (fun e w'' he => by cases e <;> exact he)
      | halt x w' => cases x <;> simp only [Oper.upon] at h2 ⊢ <;> exact h2
    · exact .inr h2
  · rename_i hw
    rw [if_neg hw] at h2
    exact h2

def dflt : Item := ⟨none, .val (.mov (.c .top)), none⟩
def pickI (its : List Item) (l : List Nat) : List Item := l.map fun i => its.getD i dflt

theorem bubble {its : List Item} {i : Nat} {post : List Nat} {Q : St → Prop} : ∀ {pre : List Nat} {st : St}, (∀ p, p ∈ pre → indep (its.getD p dflt) (its.getD i dflt) = true) →
    aops P (pickI its (pre ++ i :: post)) st Q → astep P (its.getD i dflt) st fun s => aops P (pickI its (pre ++ post)) s Q
  | [], _, _, h => h
  | p :: pre, st, hp, h => by
    have h' : astep P (its.getD p dflt) st fun s => aops P (pickI its (pre ++ i :: post)) s Q := h
    have h2 := astep_mono (fun s hs => bubble (fun q hq => hp q (List.mem_cons_of_mem _ hq)) hs) h'
    exact astep_comm (hp p (List.mem_cons_self ..)) h2

inductive Bef (ops : Array Oper) : Nat → Nat → Prop
  | one {i : Nat} {o : Oper} {e : Edge} (ho : ops[i]? = some o) (he : e ∈ o.after) (hb : Region.binds .any e = true) : Bef ops e.on i
  | more {i p : Nat} {o : Oper} {e : Edge} (ho : ops[i]? = some o) (he : e ∈ o.after) (hb : Region.binds .any e = true) (h : Bef ops p e.on) : Bef ops p i

def maskE (acc : List Nat) (m : Nat) (e : Edge) : Nat := if Region.binds .any e then (m ||| 2 ^ e.on) ||| acc.getD e.on 0 else m
def maskOf (acc : List Nat) (o : Oper) : Nat := o.after.toList.foldl (maskE acc) 0
def masks : List Oper → List Nat → List Nat
  | [], acc => acc
  | o :: os, acc => masks os (acc ++ [maskOf acc o])

theorem maskE_fold {acc : List Nat} {p : Nat} : ∀ (l : List Edge) (m : Nat), (l.foldl (maskE acc) m).testBit p = true → m.testBit p = true ∨ ∃ e ∈ l, Region.binds .any e = true ∧ (p = e.on ∨ (acc.getD e.on 0).testBit p = true)
  | [], m, h => .inl h
  | e :: l, m, h => by
    rw [List.foldl_cons] at h
    rcases maskE_fold l _ h with h1 | ⟨e', h1, h2, h3⟩
    · unfold maskE at h1
      split at h1
      · rename_i hb
        rw [Nat.testBit_or, Nat.testBit_or, Bool.or_eq_true, Bool.or_eq_true] at h1
        rcases h1 with (h1 | h1) | h1
        · exact .inl h1
        · rw [Nat.testBit_two_pow] at h1
          exact .inr ⟨e, List.mem_cons_self .., hb, .inl (of_decide_eq_true h1).symm⟩
        · exact .inr ⟨e, List.mem_cons_self .., hb, .inr h1⟩
      · exact .inl h1
    · exact .inr ⟨e', List.mem_cons_of_mem _ h1, h2, h3⟩

theorem masks_ok {ops : Array Oper} : ∀ (l : List Oper) (acc : List Nat), ops.toList = ops.toList.take acc.length ++ l → acc.length + l.length = ops.size → (∀ i p, (acc.getD i 0).testBit p = true → Bef ops p i) → ∀ i p, ((masks l acc).getD i 0).testBit p = true → Bef ops p i
  | [], acc, _, _, h => h
  | o :: l, acc, e, hn, h => by
    have hlen : acc.length < ops.toList.length := by simp at hn ⊢; omega
    have hat : ops[acc.length]? = some o := by
      rw [← Array.getElem?_toList, e, List.getElem?_append_right (by simp; omega)]
      simp
      have : acc.length - min acc.length ops.size = 0 := by simp at hlen; omega
      rw [this]; rfl
    refine masks_ok l (acc ++ [maskOf acc o]) ?_ (by simp at hn ⊢; omega) fun i p hb => ?_
    · rw [List.length_append, List.length_singleton, List.take_succ_eq_append_getElem hlen, List.append_assoc]
      have : ops.toList[acc.length] = o := by
        have := List.getElem?_eq_getElem hlen
        rw [Array.getElem?_toList, hat] at this
        cases this; rfl
      rw [this]
      exact e
    · rw [List.getD_eq_getElem?_getD] at hb
      by_cases hi : i < acc.length
      · rw [List.getElem?_append_left hi, ← List.getD_eq_getElem?_getD] at hb
        exact h i p hb
      · by_cases hi2 : i = acc.length
        · subst hi2
          rw [List.getElem?_append_right (Nat.le_refl _)] at hb
          simp only [Nat.sub_self, List.getElem?_cons_zero, Option.getD_some] at hb
          rcases maskE_fold _ _ hb with h1 | ⟨e', h1, h2, h3⟩
          · simp at h1
          · rcases h3 with rfl | h3
            · exact .one hat (by simpa using h1) h2
            · exact .more hat (by simpa using h1) h2 (h _ _ h3)
        · rw [List.getElem?_eq_none (by simp; omega)] at hb
          simp at hb

def chkDraw (ops : Array Oper) (its : List Item) : Bool :=
  (List.range ops.size).all fun i => match ops[i]? with
    | some o => o.after.all (fun e => !Region.binds .any e || decide (e.on < i)) && (List.range i).all fun p => ((masks ops.toList []).getD i 0).testBit p || indep (its.getD p dflt) (its.getD i dflt)
    | none => true

theorem Bef.listed {ops : Array Oper} {L : Nat → Prop} (hcl : ∀ q, L q → ∀ o e, ops[q]? = some o → e ∈ o.after → Region.binds .any e = true → L e.on) {p i : Nat} (h : Bef ops p i) (hi : ∀ o e, ops[i]? = some o → e ∈ o.after → Region.binds .any e = true → L e.on) : L p := by
  induction h with
  | one ho he hb => exact hi _ _ ho he hb
  | more ho he hb _ ih => exact ih (hcl _ (hi _ _ ho he hb))

def unl (n : Nat) (listed : Array Bool) : List Nat := (List.range n).filter fun i => !listed.getD i true

theorem chkIs_at {ops : Array Oper} : ∀ {l : List Oper} {its : List Item}, chkIs P N ops l its = true → l.length = its.length ∧ ∀ (i : Nat) (o : Oper), l[i]? = some o → chkI P N ops o (its.getD i dflt) = true
  | [], its, h => by
    cases its with
    | nil => exact ⟨rfl, by simp⟩
    | cons it its => simp [chkIs] at h
  | o :: l, its, h => by
    cases its with
    | nil => simp [chkIs] at h
    | cons it its =>
      simp only [chkIs, Bool.and_eq_true] at h
      obtain ⟨e, h2⟩ := chkIs_at h.2
      refine ⟨by simp [e], fun i o' ho => ?_⟩
      cases i with
      | zero => simp at ho; subst ho; exact h.1
      | succ i => simpa using h2 i o' (by simpa using ho)

theorem draw_any {ops : Array Oper} {its : List Item} (hc : chkIs P N ops ops.toList its = true) (hd : chkDraw ops its = true) {B : Nat} {Q : St → Prop} {QQ : Exit → Act → World → Prop} :
    ∀ (fuel : Nat) (listed : Array Bool), listed.size = ops.size → (∀ q, listed.getD q false = true → ∀ o e, ops[q]? = some o → e ∈ o.after → Region.binds .any e = true → listed.getD e.on false = true) → (unl ops.size listed).length ≤ fuel → ∀ (st : St) (G : Gh) (a : Act) (w : World), aops P (pickI its (unl ops.size listed)) st Q → Rel G B N st a w →
      (∀ G' st' a' w', Q st' → Rel G' B N st' a' w' → Ext 1 G w G' w' → QQ .normal a' w') → wpAny P .any ops QQ fuel listed a w := by
  obtain ⟨hlen, hcs⟩ := chkIs_at hc
  have hready : ∀ (listed : Array Bool) i, i ∈ Region.ready .any ops listed → i ∈ unl ops.size listed := by
    intro listed i hi
    obtain ⟨h0, o, ho, _⟩ := mem_ready.1 hi
    exact List.mem_filter.2 ⟨List.mem_range.2 (Array.getElem?_eq_some_iff.1 ho).1, by simp [h0]⟩
  have hat : ∀ i, i < ops.size → ∃ o, ops[i]? = some o ∧ (∀ e ∈ o.after, Region.binds .any e = true → e.on < i) ∧ ∀ p, p < i → Bef ops p i ∨ indep (its.getD p dflt) (its.getD i dflt) = true := by
    intro i hi
    refine ⟨ops[i], Array.getElem?_eq_getElem hi, ?_⟩
    have h1 := List.all_eq_true.1 hd i (List.mem_range.2 hi)
    rw [Array.getElem?_eq_getElem hi] at h1
    simp only [Bool.and_eq_true] at h1
    refine ⟨fun e he hb => ?_, fun p hp => ?_⟩
    · have h2 := Array.all_eq_true_iff_forall_mem.1 h1.1 e he
      simpa [hb] using h2
    · have h2 := List.all_eq_true.1 h1.2 p (List.mem_range.2 hp)
      rw [Bool.or_eq_true] at h2
      rcases h2 with h2 | h2
      · exact .inl (masks_ok ops.toList [] (by simp) (by simp) (fun i p hb => by simp at hb) i p h2)
      · exact .inr h2
  -- the first that is left is ready
  have hfirst : ∀ (listed : Array Bool), listed.size = ops.size → Region.ready .any ops listed = [] → unl ops.size listed = [] := by
    intro listed hsz hr
    cases hu : unl ops.size listed with
    | nil => rfl
    | cons i rest =>
      exfalso
      have hpw : (unl ops.size listed).Pairwise (· < ·) := List.Pairwise.filter _ List.pairwise_lt_range
      have hi : i ∈ unl ops.size listed := by rw [hu]; exact List.mem_cons_self ..
      obtain ⟨hi1, hi2⟩ := List.mem_filter.1 hi
      obtain ⟨o, ho, h1, _⟩ := hat i (List.mem_range.1 hi1)
      have : i ∈ Region.ready .any ops listed := by
        refine mem_ready.2 ⟨by simpa using hi2, o, ho, fun e he hb => ?_⟩
        have hlt := h1 e he hb
        cases hg : listed.getD e.on false with
        | true => rfl
        | false =>
          have hin : e.on ∈ unl ops.size listed := by
            refine List.mem_filter.2 ⟨List.mem_range.2 (Nat.lt_trans hlt (List.mem_range.1 hi1)), ?_⟩
            have hlt' : e.on < listed.size := by rw [hsz]; exact Nat.lt_trans hlt (List.mem_range.1 hi1)
            simp [Array.getElem?_eq_getElem hlt'] at hg ⊢
            exact hg
          rw [hu] at hin hpw
          rcases List.mem_cons.1 hin with e' | e'
          · omega
          · have := (List.pairwise_cons.1 hpw).1 _ e'
            omega
      rw [hr] at this
      cases this
  intro fuel
  induction fuel with
  | zero =>
    intro listed hsz hcl hl st G a w h hr hq
    have hu : unl ops.size listed = [] := List.eq_nil_of_length_eq_zero (by omega)
    refine ⟨?_, ?_⟩
    · cases hx : Region.ready .any ops listed with
      | nil => rfl
      | cons i r =>
        have := hready listed i (by rw [hx]; exact List.mem_cons_self ..)
        rw [hu] at this
        cases this
    · rw [hu] at h
      exact hq G st a w h hr (Ext.refl 1 G w)
  | succ fuel ih =>
    intro listed hsz hcl hl st G a w h hr hq
    refine ⟨fun hx => ?_, fun i hi => ?_⟩
    · rw [hfirst listed hsz hx] at h
      exact hq G st a w h hr (Ext.refl 1 G w)
    · have hiu := hready listed i hi
      obtain ⟨pre, post, hsplit⟩ := List.append_of_mem hiu
      have hpw : (unl ops.size listed).Pairwise (· < ·) := List.Pairwise.filter _ List.pairwise_lt_range
      rw [hsplit] at h hpw
      obtain ⟨_, hp2, hp3⟩ := List.pairwise_append.1 hpw
      obtain ⟨hi1, hi2⟩ := List.mem_filter.1 hiu
      obtain ⟨o, ho, h1, h2⟩ := hat i (List.mem_range.1 hi1)
      obtain ⟨_, o', ho', h3⟩ := mem_ready.1 hi
      rw [ho] at ho'
      cases ho'
      have hind : ∀ p, p ∈ pre → indep (its.getD p dflt) (its.getD i dflt) = true := by
        intro p hp
        rcases h2 p (hp3 p hp i (List.mem_cons_self ..)) with hbef | h
        · exfalso
          have hl1 := hbef.listed (L := fun q => listed.getD q false = true) hcl (fun o2 e ho2 he hb => by rw [ho] at ho2; cases ho2; exact h3 e he hb)
          have hpu : p ∈ unl ops.size listed := by rw [hsplit]; exact List.mem_append_left _ hp
          obtain ⟨hr1, hr2⟩ := List.mem_filter.1 hpu
          have hlt' : p < listed.size := by rw [hsz]; exact List.mem_range.1 hr1
          simp [Array.getElem?_eq_getElem hlt'] at hl1 hr2
          rw [hl1] at hr2
          cases hr2
        · exact h
      have hb := bubble (P := P) hind h
      have hnext : unl ops.size (listed.setIfInBounds i true) = pre ++ post := by
        have e1 : unl ops.size (listed.setIfInBounds i true) = (unl ops.size listed).filter fun j => j != i := by
          unfold unl
          rw [List.filter_filter]
          refine List.filter_congr fun j hj => ?_
          by_cases hji : j = i
          · subst hji
            have hlt' : j < listed.size := by rw [hsz]; exact List.mem_range.1 hj
            simp [hlt']
          · rw [getD_set_ne true (fun e => hji e.symm)]
            simp [hji]
        rw [e1, hsplit, List.filter_append, List.filter_cons]
        have e2 : pre.filter (fun j => j != i) = pre := List.filter_eq_self.2 fun j hj => by
          have := hp3 j hj i (List.mem_cons_self ..)
          simp; omega
        have e3 : post.filter (fun j => j != i) = post := List.filter_eq_self.2 fun j hj => by
          have := (List.pairwise_cons.1 hp2).1 j hj
          simp; omega
        rw [e2, e3]
        simp
      have hset : ∀ q, listed.getD q false = true → (listed.setIfInBounds i true).getD q false = true := fun q hq' => by
        by_cases hqi : q = i
        · subst hqi
          have hlt' : q < listed.size := by rw [hsz]; exact List.mem_range.1 hi1
          simp [hlt']
        · rw [getD_set_ne false (fun e => hqi e.symm)]; exact hq'
      have hcl' : ∀ q, (listed.setIfInBounds i true).getD q false = true → ∀ o e, ops[q]? = some o → e ∈ o.after → Region.binds .any e = true → (listed.setIfInBounds i true).getD e.on false = true := fun q hq' o2 e ho2 he2 hb2 => by
        by_cases hqi : q = i
        · subst hqi
          rw [ho] at ho2; cases ho2
          exact hset _ (h3 e he2 hb2)
        · rw [getD_set_ne false (fun e => hqi e.symm)] at hq'
          exact hset _ (hcl q hq' o2 e ho2 he2 hb2)
      refine single_ok ho (hcs i o (by simpa using ho)) hb hr fun G' st' a' w' hk hr' he => ?_
      refine ih (listed.setIfInBounds i true) (by simpa using hsz) hcl' ?_ st' G' a' w' (by rw [hnext]; exact hk) hr' fun G2 st2 a2 w2 hq2 hr2 he2 => hq G2 st2 a2 w2 hq2 hr2 (he.trans he2)
      rw [hnext]
      rw [hsplit] at hl
      simp only [List.length_append, List.length_cons] at hl ⊢
      omega

theorem pickI_all {its : List Item} : pickI its (List.range its.length) = its := by
  apply List.ext_getElem
  · simp [pickI]
  · intro i h1 h2
    simp [pickI, h2]

theorem draw_ok {ops : Array Oper} {its : List Item} (hm : P.follows .mixedOrders = true) (hc : chkIs P N ops ops.toList its = true) (hd : chkDraw ops its = true) {st : St} {Q : St → Prop} (h : aops P its st Q) {G : Gh} {B : Nat} {a : Act} {w : World} (hr : Rel G B N st a w) {QQ : Exit → Act → World → Prop} {id : Nat}
    (hq : ∀ G' st' a' w', Q st' → Rel G' B N st' a' w' → Ext 1 G w G' w' → QQ .normal a' w') : (Code.region id ops true).wp P QQ a w := by
  refine wp_region_any hm ?_
  have hlen := (chkIs_at hc).1
  simp only [Array.length_toList] at hlen
  have hu : unl ops.size (Array.replicate ops.size false) = List.range its.length := by
    unfold unl
    rw [hlen]
    refine List.filter_eq_self.2 fun i hi => ?_
    simp [List.mem_range.1 hi]
  refine draw_any hc hd ops.size (Array.replicate ops.size false) (by simp) (fun q hq' => by rw [Array.getD_eq_getD_getElem?] at hq'; simp [Array.getElem?_replicate] at hq'; split at hq' <;> cases hq') (by rw [hu]; simp [hlen]) st G a _ (by rw [hu, pickI_all]; exact h) hr.drew fun G' st' a' w' h1 h2 h3 => hq G' st' a' w' h1 h2 ((Ext.drew G w).trans h3)

end

end Go.Proofs.YtdgbidbkcigkhaaGreatDoor.Am

namespace Go.Proofs.YtdgbidbkcigkhaaGreatDoor.Am
open Go

theorem wp_scope_ghost {P : Program} {Q : Exit → Act → World → Prop} {a : Act} {w : World} {c rest : Code} (l : Nat) (J : Nat → Act → World → Prop) (hf : findLabel c l = some rest)
    (first : c.wp P (Exit.jump l (fun a' w' => ∃ n, J n a' w') Q) a w)
    (pass : ∀ n a w, J n a w → rest.wp P (Exit.jump l (fun a' w' => ∃ k, k < n ∧ J k a' w') Q) a w) : (Code.scope c).wp P Q a w := by
  intro b k cs
  have hg : gotoIn l (.inScope c :: k) = some (.code rest :: .inScope c :: k) := by simp [gotoIn, hf]
  have key : ∀ n a w, J n a w → ∃ e a' w', Q e a' w' ∧ Arrives P (lone (b.at a (.code rest :: .inScope c :: k)) cs w) b k cs e a' w' := by
    intro n
    induction n using Nat.strongRecOn with
    | _ n ih =>
      intro a w hJ
      obtain ⟨e, a₁, w₁, hq, harr⟩ := pass n a w hJ b (.inScope c :: k) cs
      cases e with
      | normal => exact ⟨.normal, a₁, w₁, hq, Steps.trans harr (.one step_inScope)⟩
      | exit id => exact ⟨.exit id, a₁, w₁, hq, fun k' hk => harr k' (by simp [exitTo, hk])⟩
      | goto l' =>
        obtain ⟨rfl, j, hlt, hJ'⟩ := hq
        obtain ⟨e₂, a₂, w₂, hq₂, harr₂⟩ := ih j hlt a₁ w₁ hJ'
        exact ⟨e₂, a₂, w₂, hq₂, .of_steps (harr _ hg) harr₂⟩
      | ret => exact ⟨_, a₁, w₁, hq, harr⟩
      | panic ch => exact ⟨_, a₁, w₁, hq, harr⟩
      | outgrown => exact ⟨_, a₁, w₁, hq, harr⟩
  obtain ⟨e, a₁, w₁, hq, harr⟩ := first b (.inScope c :: k) cs
  cases e with
  | normal => exact ⟨.normal, a₁, w₁, hq, .head step_scope (Steps.trans harr (.one step_inScope))⟩
  | exit id => exact ⟨.exit id, a₁, w₁, hq, fun k' hk => .head step_scope (harr k' (by simp [exitTo, hk]))⟩
  | goto l' =>
    obtain ⟨rfl, n, hJ⟩ := hq
    obtain ⟨e₂, a₂, w₂, hq₂, harr₂⟩ := key n a₁ w₁ hJ
    exact ⟨e₂, a₂, w₂, hq₂, .of_steps (.one step_scope) (.of_steps (harr _ hg) harr₂)⟩
  | ret => exact ⟨_, a₁, w₁, hq, .of_steps (.one step_scope) harr⟩
  | panic ch => exact ⟨_, a₁, w₁, hq, .of_steps (.one step_scope) harr⟩
  | outgrown => exact ⟨_, a₁, w₁, hq, .of_steps (.one step_scope) harr⟩

def chkC (P : Program) (N : Nat) : RC → Code → Bool
  | .gho _ r, c => chkC P N r c
  | .no, _ => true
  | .skip, c => match c with
    | .skip => true
    | _ => false
  | .goto l, c => match c with
    | .goto i => i == l
    | _ => false
  | .jump l a b, c => match c with
    | .scope x => chkC P N a x && (match findLabel x l with
      | some y => chkC P N b y
      | none => false)
    | _ => false
  | .reg its, c => match c with
    | .region _ ops false => chkIs P N ops ops.toList its
    | _ => false
  | .draw its, c => match c with
    | .region _ ops true => P.follows .mixedOrders && chkIs P N ops ops.toList its && chkDraw ops its
    | _ => false
  | .seq a b, c => match c with
    | .seq x y => chkC P N a x && chkC P N b y
    | _ => false
  | .cond r a b, c => match c with
    | .cond o x y => chkA o r && chkC P N a x && chkC P N b y
    | _ => false
  | .block i a, c => match c with
    | .block j x => i == j && chkC P N a x
    | _ => false
  | .loop a, c => match c with
    | .loop x => chkC P N a x
    | _ => false
  | .exit i, c => match c with
    | .exit j => i == j
    | _ => false
  | .scope a, c => match c with
    | .scope x => chkC P N a x
    | _ => false
  | .lab, c => match c with
    | .label _ => true
    | _ => false
  | .ret, c => match c with
    | .ret => true
    | _ => false

section
variable {P : Program} {N B : Nat}

theorem awp_ok : ∀ {rc : RC} {c : Code} {st : St} {Q : Exit → St → Prop}, awp P rc st Q → chkC P N rc c = true → ∀ {G : Gh} {a : Act} {w : World}, Rel G B N st a w → ∀ {QQ : Exit → Act → World → Prop},
    (∀ e G' st' a' w', Q e st' → Rel G' B N st' a' w' → Ext 1 G w G' w' → QQ e a' w') → c.wp P QQ a w := by
  intro rc
  induction rc with
  | skip =>
    intro c st Q h hc G a w hr QQ hq
    cases c <;> simp only [chkC, Bool.false_eq_true] at hc
    exact wp_skip (hq _ _ _ _ _ h hr (Ext.refl 1 G w))
  | reg its =>
    intro c st Q h hc G a w hr QQ hq
    cases c <;> simp only [chkC, Bool.false_eq_true] at hc
    rename_i id ops d
    cases d <;> simp only [Bool.false_eq_true] at hc
    refine wp_region_list ?_
    exact aops_ok (N := N) h ops ops.toList hc G B a w hr QQ fun G' st' a' w' h1 h2 h3 => hq _ _ _ _ _ h1 h2 h3
  | draw its =>
    intro c st Q h hc G a w hr QQ hq
    cases c <;> simp only [chkC, Bool.false_eq_true] at hc
    rename_i id ops d
    cases d <;> simp only [Bool.false_eq_true, Bool.and_eq_true] at hc
    exact draw_ok hc.1.1 hc.1.2 hc.2 h hr fun G' st' a' w' h1 h2 h3 => hq _ _ _ _ _ h1 h2 h3
  | seq x y ihx ihy =>
    intro c st Q h hc G a w hr QQ hq
    cases c <;> simp only [chkC, Bool.false_eq_true, Bool.and_eq_true] at hc
    refine wp_seq (ihx h hc.1 hr fun e G' st' a' w' h1 h2 h3 => ?_)
    cases e with
    | normal => exact ihy h1 hc.2 h2 fun e G2 st2 a2 w2 k1 k2 k3 => hq _ _ _ _ _ k1 k2 (h3.trans k3)
    | _ => exact hq _ _ _ _ _ h1 h2 h3
  | cond r x y ihx ihy =>
    intro c st Q h hc G a w hr QQ hq
    cases c <;> simp only [chkC, Bool.false_eq_true, Bool.and_eq_true] at hc
    rename_i o cx cy
    obtain ⟨t, ht, h1, h2⟩ := h
    have hv := chkA_ok hr hc.1.1
    rw [ht] at hv
    have hv' : a.eval o = .bool t := by
      generalize a.eval o = v at hv
      cases hv; rfl
    refine wp_cond_split hv' (fun e => ?_) (fun e => ?_)
    · exact ihx (h1 e) hc.1.2 hr hq
    · exact ihy (h2 e) hc.2 hr hq
  | block i x ih =>
    intro c st Q h hc G a w hr QQ hq
    cases c <;> simp only [chkC, Bool.false_eq_true, Bool.and_eq_true, beq_iff_eq] at hc
    obtain ⟨rfl, hc⟩ := hc
    refine wp_block (ih h hc hr fun e G' st' a' w' h1 h2 h3 => ?_)
    cases e with
    | exit j =>
      simp only [Exit.inBlock]
      simp only [Kb] at h1
      split
      · rename_i hh; rw [if_pos hh] at h1; exact hq _ _ _ _ _ h1 h2 h3
      · rename_i hh; rw [if_neg hh] at h1; exact hq _ _ _ _ _ h1 h2 h3
    | _ => exact hq _ _ _ _ _ h1 h2 h3
  | loop x ih =>
    intro c st Q h hc G a w hr QQ hq
    cases c <;> simp only [chkC, Bool.false_eq_true] at hc
    obtain ⟨I, n, h0, hI⟩ := h
    refine wp_loop_ghost (fun k a' w' => ∃ G' st', I k st' ∧ Rel G' B N st' a' w' ∧ Ext 1 G w G' w') n ⟨G, st, h0, hr, Ext.refl 1 G w⟩ ?_
    rintro k a' w' ⟨G', st', i1, i2, i3⟩
    refine ih (hI k st' i1) hc i2 fun e G2 st2 a2 w2 h1 h2 h3 => ?_
    cases e with
    | normal =>
      obtain ⟨k', hk, hi⟩ := h1
      exact ⟨k', hk, G2, st2, hi, h2, i3.trans h3⟩
    | _ => exact hq _ _ _ _ _ h1 h2 (i3.trans h3)
  | exit i =>
    intro c st Q h hc G a w hr QQ hq
    cases c <;> simp only [chkC, Bool.false_eq_true, beq_iff_eq] at hc
    subst hc
    exact wp_exit (hq _ _ _ _ _ h hr (Ext.refl 1 G w))
  | scope x ih =>
    intro c st Q h hc G a w hr QQ hq
    cases c <;> simp only [chkC, Bool.false_eq_true] at hc
    refine wp_scope_straight (ih h hc hr fun e G' st' a' w' h1 h2 h3 => ?_)
    cases e with
    | goto l => exact h1.elim
    | _ => exact hq _ _ _ _ _ h1 h2 h3
  | goto l =>
    intro c st Q h hc G a w hr QQ hq
    cases c <;> simp only [chkC, Bool.false_eq_true, beq_iff_eq] at hc
    subst hc
    exact wp_goto (hq _ _ _ _ _ h hr (Ext.refl 1 G w))
  | jump l x y ih ih2 =>
    intro c st Q h hc G a w hr QQ hq
    cases c <;> simp only [chkC, Bool.false_eq_true, Bool.and_eq_true] at hc
    obtain ⟨hc1, hc2⟩ := hc
    split at hc2
    case h_2 => cases hc2
    rename_i z hz
    obtain ⟨I, h0, hI⟩ := h
    refine wp_scope_ghost l (fun k a' w' => ∃ G' st', I k st' ∧ Rel G' B N st' a' w' ∧ Ext 1 G w G' w') hz ?_ ?_
    · refine ih h0 hc1 hr fun e G2 st2 a2 w2 h1 h2 h3 => ?_
      cases e with
      | goto i => exact ⟨h1.1, h1.2.imp fun n hn => ⟨G2, st2, hn, h2, h3⟩⟩
      | _ => exact hq _ _ _ _ _ h1 h2 h3
    · rintro k a' w' ⟨G', st', i1, i2, i3⟩
      refine ih2 (hI k st' i1) hc2 i2 fun e G2 st2 a2 w2 h1 h2 h3 => ?_
      cases e with
      | goto i => exact ⟨h1.1, h1.2.imp fun n hn => ⟨hn.1, G2, st2, hn.2, h2, i3.trans h3⟩⟩
      | _ => exact hq _ _ _ _ _ h1 h2 (i3.trans h3)
  | lab =>
    intro c st Q h hc G a w hr QQ hq
    cases c <;> simp only [chkC, Bool.false_eq_true] at hc
    exact wp_label (hq _ _ _ _ _ h hr (Ext.refl 1 G w))
  | ret =>
    intro c st Q h hc G a w hr QQ hq
    cases c <;> simp only [chkC, Bool.false_eq_true] at hc
    exact wp_ret (hq _ _ _ _ _ h hr (Ext.refl 1 G w))
  | gho g x ih =>
    intro c st Q h hc G a w hr QQ hq
    obtain ⟨st', hg, h⟩ := h
    obtain ⟨G', h1, h2⟩ := gstep_ok hr hg
    exact ih h hc h1 fun e G2 st2 a2 w2 k1 k2 k3 => hq _ _ _ _ _ k1 k2 (h2.trans k3)
  | no =>
    intro c st Q h
    exact h.elim

theorem MR.out {G : Gh} {fr : Nat → Ob} {m : Mem} {w : World} (h : MR G (fr :: m) w) {S : Nat → Prop} (hS : ∀ b, S b → (∃ s, G.vm 0 s = some b) ∨ ∃ s, G.nm 0 s = some b) : MR ((G.pub w S).dn 1) m w := by
  have hnS : ∀ l s b, G.nm (l + 1) s = some b → ¬ S b := fun l s b e hs => by
    rcases hS b hs with ⟨s', e'⟩ | ⟨s', e'⟩
    · exact h.inj3 _ _ _ _ _ e e'
    · have := (h.inj1 _ _ _ _ _ e e').1
      omega
  have hvS : ∀ l s b, G.vm (l + 1) s = some b → ¬ S b := fun l s b e hs => by
    rcases hS b hs with ⟨s', e'⟩ | ⟨s', e'⟩
    · have := (h.inj2 _ _ _ _ _ e e').1
      omega
    · exact h.inj3 _ _ _ _ _ e' e
  have hgle : Gle G (G.pub w S) := Gh.pub_gle h.stab
  refine ⟨fun b o v e => ?_, fun l s xs e => ?_, fun l s b e => ?_, fun l s g sz xs e => ?_, fun l s b e => ?_, fun l s e => ?_, fun l s l' s' b e e' => ?_, fun l s l' s' b e e' => ?_, fun l s l' s' b e e' => ?_, fun l s t p e => h.iter (l + 1) s t p e⟩
  · have e : (G.pub w S).stab b o = some v := e
    by_cases hs : S b ∧ ∀ o, GTab b o = none
    · rw [Gh.pub_c hs] at e; exact rd_sv e
    · rw [Gh.pub_n hs] at e; exact h.stab b o v e
  · obtain ⟨b, cs, e', hc, hr⟩ := h.cells (l + 1) s xs e
    refine ⟨b, cs, e', hc, ?_⟩
    rw [Gh.dn_dn]
    exact hr.mono (hgle.dn (l + 1))
  · obtain ⟨h1, h2⟩ := h.nm (l + 1) s b e
    refine ⟨h1, fun o => ?_⟩
    show (G.pub w S).stab b o = none
    rw [Gh.pub_out (hnS _ _ _ e)]; exact h2 o
  · obtain ⟨a1, a2, a3, a4⟩ := h.vec (l + 1) s g sz xs e
    exact ⟨a1, a2, a3, a4.imp id fun ⟨b, e', r⟩ => ⟨b, e', r.of rfl fun vs hv => RepL.rfd (G := G) (G' := (G.pub w S).dn 1) hgle.stab a3.rf hv⟩⟩
  · obtain ⟨h1, h2⟩ := h.vm (l + 1) s b e
    refine ⟨h1, fun o => ?_⟩
    show (G.pub w S).stab b o = none
    rw [Gh.pub_out (hvS _ _ _ e)]; exact h2 o
  · exact h.gone (l + 1) s e
  · obtain ⟨h1, h2⟩ := h.inj1 _ _ _ _ _ e e'; exact ⟨by omega, h2⟩
  · obtain ⟨h1, h2⟩ := h.inj2 _ _ _ _ _ e e'; exact ⟨by omega, h2⟩
  · exact h.inj3 _ _ _ _ _ e e'

def AEnds (rs : List RR) (n : Nat) (R : AV → Mem → Prop) : Exit → St → Prop := fun e st =>
  (e = .normal ∨ e = .ret) ∧ st.ds = [] ∧ ∃ x y fr m, resV st rs = some x ∧ leave st.m x = some y ∧ st.m = fr :: m ∧ m.length = n ∧ R y m

theorem slots_enter {G : Gh} {args : List AV} {vs : List Value} (h : RepL G args vs) {N : Nat} (i : Nat) : Rep G.up (argF (AV.shL args) i) (((vs.toArray ++ Array.replicate (N - vs.toArray.size) undef) : Array Value).getD i undef) := by
  have h' : RepL G.up (AV.shL args) vs := RepL.sh (G := G.up) (by rw [Gh.up_dn]; exact h)
  have hl := h'.length
  unfold argF
  by_cases hi : i < vs.length
  · obtain ⟨x, e, hx⟩ := h'.back (List.getElem?_eq_getElem hi)
    rw [e]
    simp only [Option.getD_some, Array.getD_eq_getD_getElem?]
    rw [Array.getElem?_append_left (by simpa using hi)]
    simpa [hi] using hx
  · rw [List.getElem?_eq_none (by omega)]
    simp only [Option.getD_none, Array.getD_eq_getD_getElem?]
    rw [Array.getElem?_append_right (by simpa using hi)]
    cases hx : (Array.replicate (N - vs.toArray.size) undef)[i - vs.toArray.size]? with
    | none => exact .tup .nil
    | some v =>
      have := Array.getElem?_eq_some_iff.1 hx
      obtain ⟨_, h2⟩ := this
      simp at h2
      subst h2
      exact .tup .nil

theorem rel_enter {fn : Func} {args : List AV} {m : Mem} {G : Gh} {w : World} {vs : List Value} (hvs : RepL G args vs) (hm : MR G m w) (hN : fn.ntmps = N) (ha : args.length ≤ N) :
    Rel G.up w.heap.size N (St.enter args m) { tmps := vs.toArray ++ Array.replicate (fn.ntmps - vs.toArray.size) undef, defers := [] } w := by
  have hlen := hvs.length
  refine ⟨hm.up, ?_, fun i => slots_enter hvs i, .nil, fun s b e => ?_, Nat.le_refl _, by simp [St.enter]⟩
  · simp; omega
  · rcases e with e | e <;> cases e

theorem ends_ok {fn : Func} {rs : List RR} {G G' : Gh} {m m' : Mem} {w w' : World} {st' : St} {a' : Act} {fr : Nat → Ob} {x y : AV} {R : AV → Mem → Prop} (hr : chkR P fn.results.toList rs = true) (hr' : Rel G' w.heap.size N st' a' w') (he : Ext 1 G.up w G' w')
    (hx : resV st' rs = some x) (hy : leave st'.m x = some y) (hst : st'.m = fr :: m') (hml : m'.length = m.length) (hR : R y m') :
    ∃ v, (results fn a'.tmps).run P w' = .ok v w' ∧ (∃ G'' x v' m'', (Ending.returned v) = .returned v' ∧ R x m'' ∧ Rep G'' x v' ∧ MR G'' m'' w' ∧ Ext 0 G w G'' w' ∧ m''.length = m.length) := by
  obtain ⟨v, hrun, hv⟩ := resV_ok (P := P) hr' hr hx
  let S : Nat → Prop := fun b => (∃ s, G'.vm 0 s = some b) ∨ ∃ s, G'.nm 0 s = some b
  have hmr := hr'.mr
  have hSt : ∀ l s b, (true && l != 0) = false → G'.vm l s = some b → S b := by
    intro l s b hl e
    have : l = 0 := by simpa using hl
    subst this
    exact .inl ⟨s, e⟩
  unfold leave at hy
  rw [Option.bind_eq_some_iff] at hy
  obtain ⟨z, hz, hy⟩ := hy
  have hv2 := Rep.un (still_ok hmr (own := true) (S := S) hSt (fun _ s b _ _ _ e _ => .inr ⟨s, e⟩) hv z hz) y hy
  rw [hst] at hmr
  have hout := hmr.out (S := S) (fun b hs => hs)
  have hmine : ∀ b, ((G'.pub w' S).dn 1).mine b → G'.mine b := by
    rintro b (⟨l, s, e⟩ | ⟨l, s, e⟩)
    · exact .inl ⟨l + 1, s, e⟩
    · exact .inr ⟨l + 1, s, e⟩
  have hext : Ext 0 G w ((G'.pub w' S).dn 1) w' := by
    refine ⟨he.os, he.tape, he.output, he.size, fun b o v e => ?_, fun l s _ => he.nm (l + 1) s (by omega), fun l s => he.vg (l + 1) s, fun l s e => he.vs (l + 1) s e, fun b hb hnm => ?_, fun b hb => ?_, fun l s b e => ?_⟩
    · exact (Gh.pub_gle (S := S) hr'.mr.stab).stab b o v (he.stab b o v e)
    · obtain ⟨h1, h2⟩ := he.old b hb (fun hx => hnm (Gh.up_mine.1 hx))
      refine ⟨h1, fun o => ?_⟩
      have hnS : ¬ S b := by
        rintro (⟨s, e⟩ | ⟨s, e⟩)
        · have := hr'.base s b (.inr e)
          omega
        · have := hr'.base s b (.inl e)
          omega
      show (G'.pub w' S).stab b o = G.stab b o
      rw [Gh.pub_out hnS]; exact h2 o
    · rcases he.mine b (hmine b hb) with h1 | h1
      · exact .inl (Gh.up_mine.1 h1)
      · exact .inr h1
    · rcases he.mv (l + 1) s b e with ⟨i, t, hi, h1⟩ | h1
      · cases i with
        | zero => cases h1
        | succ i => exact .inl ⟨i, t, by omega, h1⟩
      · exact .inr h1
  exact ⟨v, hrun, _, y, v, m', rfl, hR, hv2, hout, hext, hml⟩

theorem acalls_of_awp {k : FuncId} {fn : Func} {c : Code} {rc : RC} {rs : List RR} {args : List AV} {m : Mem} {R : AV → Mem → Prop} (hf : P.funcs[k]? = some fn) (hb : fn.body = some c) (hn : (fn.name == "runtime.NumGoroutine") = false) (hN : fn.ntmps = N) (hc : chkC P N rc c = true) (hr : chkR P fn.results.toList rs = true)
    (ha : args.length ≤ N) (h : awp P rc (St.enter args m) (AEnds rs m.length R)) : ACalls P k args m R := by
  refine ⟨⟨fn, hf, hn, by rw [hb]; rfl⟩, fun G w vs hvs hm => ?_⟩
  refine calls_of_wp hf hb ?_
  refine awp_ok h hc (rel_enter hvs hm hN ha) fun e G' st' a' w' hq hr' he => ?_
  obtain ⟨hex, hds, x, y, fr, m', hx, hy, hst, hml, hR⟩ := hq
  have hdef : a'.defers = [] := by
    have := hr'.ds
    rw [hds] at this
    cases hd : a'.defers with
    | nil => rfl
    | cons d l => rw [hd] at this; cases this
  have hfin := ends_ok (R := R) hr hr' he hx hy hst hml hR
  rcases hex with rfl | rfl
  · exact ⟨hdef, hfin⟩
  · exact ⟨hdef, hfin⟩

def ACallsD (P : Program) (k : FuncId) (args : List AV) (m : Mem) (R : AV → Mem → Prop) : Prop :=
  Callable P k ∧ ∀ (G : Gh) (w : World) (vs : List Value), RepL G args vs → MR G m w → ∀ u, CallsD P k ⟨vs⟩ u w fun e u' w' => u' = u ∧ ∃ G' x v m', e = .returned v ∧ R x m' ∧ Rep G' x v ∧ MR G' m' w' ∧ Ext 0 G w G' w' ∧ m'.length = m.length

theorem acallsD_of_awp {k : FuncId} {fn : Func} {c : Code} {rc : RC} {rs : List RR} {args : List AV} {m : Mem} {R : AV → Mem → Prop} (hf : P.funcs[k]? = some fn) (hb : fn.body = some c) (hn : (fn.name == "runtime.NumGoroutine") = false) (hN : fn.ntmps = N) (hc : chkC P N rc c = true) (hr : chkR P fn.results.toList rs = true)
    (ha : args.length ≤ N) (h : awp P rc (St.enter args m) (AEnds rs m.length R)) : ACallsD P k args m R := by
  refine ⟨⟨fn, hf, hn, by rw [hb]; rfl⟩, fun G w vs hvs hm u => ?_⟩
  refine callsD_of_wp (R := fun e w' => ∃ G' x v m', e = .returned v ∧ R x m' ∧ Rep G' x v ∧ MR G' m' w' ∧ Ext 0 G w G' w' ∧ m'.length = m.length) hf hb ?_
  refine awp_ok h hc (rel_enter hvs hm hN ha) fun e G' st' a' w' hq hr' he => ?_
  obtain ⟨hex, hds, x, y, fr, m', hx, hy, hst, hml, hR⟩ := hq
  have hdef : a'.defers = [] := by
    have := hr'.ds
    rw [hds] at this
    cases hd : a'.defers with
    | nil => rfl
    | cons d l => rw [hd] at this; cases this
  have hfin := ends_ok (R := R) hr hr' he hx hy hst hml hR
  rcases hex with rfl | rfl
  · exact ⟨hdef, hfin⟩
  · exact ⟨hdef, hfin⟩

def ALeaves (P : Program) (rs : List RR) (n : Nat) (R : AV → Mem → Prop) (f : Fr) : List DF → Mem → Prop
  | [], m => ∃ x y fr m', resV ⟨f, m, []⟩ rs = some x ∧ leave m x = some y ∧ m = fr :: m' ∧ m'.length = n ∧ R y m'
  | d :: ds, m => ∃ k, d.fn = .func k ∧ ACallsD P k (d.args ++ d.cap) m fun _ m1 => ALeaves P rs n R f ds m1

theorem leaves_ok {fn : Func} {rs : List RR} {G : Gh} {m : Mem} {w : World} {R : AV → Mem → Prop} (hr : chkR P fn.results.toList rs = true) (hm : MR G m w) (f : Fr) : ∀ (ds : List DF) (m1 : Mem) (G1 : Gh) (a : Act) (w1 : World), ALeaves P rs m.length R f ds m1 → Rel G1 w.heap.size N ⟨f, m1, ds⟩ a w1 → Ext 1 G.up w G1 w1 →
    Leaves P fn a.tmps (fun e w' => ∃ G' x v m', e = .returned v ∧ R x m' ∧ Rep G' x v ∧ MR G' m' w' ∧ Ext 0 G w G' w' ∧ m'.length = m.length) a.defers .returning w1
  | [], m1, G1, a, w1, h, hrel, he => by
    obtain ⟨x, y, fr, m', hx, hy, hst, hml, hR⟩ := h
    have hdef : a.defers = [] := by
      have := hrel.ds
      cases hd : a.defers with
      | nil => rfl
      | cons d l => rw [hd] at this; cases this
    rw [hdef]
    exact ends_ok (R := R) hr hrel he hx hy hst hml hR
  | d :: ds, m1, G1, a, w1, h, hrel, he => by
    obtain ⟨k, hk, ⟨fn', hf', hn', hb'⟩, hcall⟩ := h
    cases hd : a.defers with
    | nil => have := hrel.ds; rw [hd] at this; cases this
    | cons dv dvs =>
      have hds := hrel.ds
      rw [hd] at hds
      cases hds with
      | cons hd1 hds' =>
        cases hd1 with
        | mk hcap hargs =>
          rename_i fnn cap args vc va
          have hk : fnn = .func k := hk
          subst hk
          have hc2 := hcall G1 w1 (va ++ vc) (hargs.append hcap) hrel.mr .returning
          refine ⟨by simp, .func k, ⟨vc⟩, k, ⟨va ++ vc⟩, rfl, ?_, ?_⟩
          · simp only [invoke, callFunc, Sem.run_bind, run_program, Result.andThen_ok, hf', hn', Bool.false_eq_true, if_false, hb']
            simp
          · intro c cs hu
            obtain ⟨e, u', w', fr', ⟨hu', G2, x, v, m2, rfl, hR2, hv2, hm2, he2, hl2⟩, h1, h2, h3⟩ := hc2 c cs hu
            subst hu'
            refine ⟨_, _, w', fr', ?_, h1, h2, h3⟩
            show Leaves P fn a.tmps _ dvs (settle .returning) w'
            have hrel2 := hrel.after hm2 he2 hl2
            have hrel3 : Rel G2 w.heap.size N ⟨f, m2, ds⟩ { a with defers := dvs } w' :=
              ⟨hrel2.mr, hrel2.size, hrel2.slots, hds'.mono he2.gle, hrel2.base, hrel2.top, hrel2.ne⟩
            exact leaves_ok hr hm f ds m2 G2 { a with defers := dvs } w' hR2 hrel3 (he.trans (he2.mono (Nat.zero_le _)))

theorem acalls_of_awpD {k : FuncId} {fn : Func} {c : Code} {rc : RC} {rs : List RR} {args : List AV} {m : Mem} {R : AV → Mem → Prop} (hf : P.funcs[k]? = some fn) (hb : fn.body = some c) (hn : (fn.name == "runtime.NumGoroutine") = false) (hN : fn.ntmps = N) (hc : chkC P N rc c = true) (hr : chkR P fn.results.toList rs = true)
    (ha : args.length ≤ N) (h : awp P rc (St.enter args m) (fun e st => (e = .normal ∨ e = .ret) ∧ ALeaves P rs m.length R st.f st.ds st.m)) : ACalls P k args m R := by
  refine ⟨⟨fn, hf, hn, by rw [hb]; rfl⟩, fun G w vs hvs hm => ?_⟩
  refine calls_of_wp_defers hf hb ?_
  refine awp_ok h hc (rel_enter hvs hm hN ha) fun e G' st' a' w' hq hr' he => ?_
  obtain ⟨hex, hlv⟩ := hq
  have := leaves_ok (N := N) hr hm st'.f st'.ds st'.m G' a' w' hlv hr' he
  rcases hex with rfl | rfl
  · exact this
  · exact this

end

def CK (P : Program) (k N : Nat) (rc : RC) (rs : List RR) : Prop :=
  ∃ fn c, P.funcs[k]? = some fn ∧ fn.body = some c ∧ (fn.name == "runtime.NumGoroutine") = false ∧ fn.ntmps = N ∧ chkC P N rc c = true ∧ chkR P fn.results.toList rs = true
theorem CK.go {P : Program} {k N : Nat} {rc : RC} {rs : List RR} {args : List AV} {m : Mem} {R : AV → Mem → Prop} (h : CK P k N rc rs) (ha : args.length ≤ N) (w : awp P rc (St.enter args m) (AEnds rs m.length R)) : ACalls P k args m R := by
  obtain ⟨fn, c, h1, h2, h3, h4, h5, h6⟩ := h
  exact acalls_of_awp h1 h2 h3 h4 h5 h6 ha w
theorem ck {P : Program} {k N : Nat} {fn : Func} {rc : RC} {rs : List RR} (hf : P.funcs[k]? = some fn) (hN : fn.ntmps = N) (h : (fn.body.isSome && !(fn.name == "runtime.NumGoroutine") && chkC P N rc (fn.body.getD .skip) && chkR P fn.results.toList rs) = true := by decide +kernel) : CK P k N rc rs := by
  simp only [Bool.and_eq_true, Bool.not_eq_true', Option.isSome_iff_exists] at h
  obtain ⟨⟨⟨⟨c, hc⟩, h1⟩, h2⟩, h3⟩ := h
  rw [hc] at h2
  exact ⟨fn, c, hf, hc, h1, hN, h2, h3⟩
theorem CK.dd {P : Program} {k N : Nat} {rc : RC} {rs : List RR} {args : List AV} {m : Mem} {R : AV → Mem → Prop} (h : CK P k N rc rs) (ha : args.length ≤ N) (w : awp P rc (St.enter args m) (AEnds rs m.length R)) : ACallsD P k args m R := by
  obtain ⟨fn, c, h1, h2, h3, h4, h5, h6⟩ := h
  exact acallsD_of_awp h1 h2 h3 h4 h5 h6 ha w
theorem CK.gd {P : Program} {k N : Nat} {rc : RC} {rs : List RR} {args : List AV} {m : Mem} {R : AV → Mem → Prop} (h : CK P k N rc rs) (ha : args.length ≤ N) (w : awp P rc (St.enter args m) (fun e st => (e = .normal ∨ e = .ret) ∧ ALeaves P rs m.length R st.f st.ds st.m)) : ACalls P k args m R := by
  obtain ⟨fn, c, h1, h2, h3, h4, h5, h6⟩ := h
  exact acalls_of_awpD h1 h2 h3 h4 h5 h6 ha w
theorem CK.rl {P : Program} {k N : Nat} {rc : RC} {rs : List RR} {args : List AV} {R : AV → Prop} (h : CK P k N rc rs) (ha : args.length ≤ N) (w : awp P rc (St.enter args []) (AEnds rs 0 fun x _ => R x)) : Fn? P k args R := h.go ha w
theorem CK.fn {P : Program} {k N : Nat} {rc : RC} {rs : List RR} {args : List AV} {v : AV} (h : CK P k N rc rs) (ha : args.length ≤ N) (w : awp P rc (St.enter args []) (AEnds rs 0 fun x _ => x = v)) : Fn1 P k args v := h.go ha w

end Go.Proofs.YtdgbidbkcigkhaaGreatDoor.Am

namespace Go.Proofs.YtdgbidbkcigkhaaGreatDoor.Am
open Go

section
variable {P : Program} {f : Fr} {m : Mem} {ds : List DF} {K : St → Prop} {Q : Exit → St → Prop} {its : List Item} {d : Nat}

def Kc (P : Program) (b : RC) (Q : Exit → St → Prop) : Exit → St → Prop := Ks (fun st' => awp P b st' Q) Q
def Kl (I : Nat → St → Prop) (n : Nat) (Q : Exit → St → Prop) : Exit → St → Prop := Ks (fun s => ∃ k, k < n ∧ I k s) Q

theorem e_skip {st : St} : awp P .skip st Q = Q .normal st := id rfl
theorem e_no {st : St} : awp P .no st Q = False := id rfl
theorem e_lab {st : St} : awp P .lab st Q = Q .normal st := id rfl
theorem e_ret {st : St} : awp P .ret st Q = Q .ret st := id rfl
theorem e_exit {st : St} {i : Nat} : awp P (.exit i) st Q = Q (.exit i) st := id rfl
theorem e_reg {st : St} : awp P (.reg its) st Q = aops P its st (Q .normal) := id rfl
theorem e_draw {st : St} : awp P (.draw its) st Q = aops P its st (Q .normal) := id rfl
theorem e_seq {st : St} {a b : RC} : awp P (.seq a b) st Q = awp P a st (Kc P b Q) := id rfl
theorem e_block {st : St} {i : Nat} {a : RC} : awp P (.block i a) st Q = awp P a st (Kb i Q) := id rfl
theorem e_scope {st : St} {a : RC} : awp P (.scope a) st Q = awp P a st (Kg Q) := id rfl
def bget : AV → Bool
  | .bool b => b
  | _ => false
def isB : AV → Prop
  | .bool _ => True
  | _ => False
theorem e_bget (b : Bool) : bget (.bool b) = b := id rfl
theorem e_isB (b : Bool) : isB (.bool b) = True := id rfl
def csel (P : Program) (v : AV) (a b : RC) (st : St) (Q : Exit → St → Prop) : Prop := isB v ∧ (bget v = true → awp P a st Q) ∧ (bget v = false → awp P b st Q)
theorem e_csel_t {a b : RC} {st : St} : csel P (.bool true) a b st Q = awp P a st Q := by simp [csel, isB, bget]
theorem e_csel_f {a b : RC} {st : St} : csel P (.bool false) a b st Q = awp P b st Q := by simp [csel, isB, bget]
theorem csel_of {t : Bool} {a b : RC} {st : St} (h1 : t = true → awp P a st Q) (h2 : t = false → awp P b st Q) : csel P (.bool t) a b st Q := ⟨trivial, h1, h2⟩
theorem e_cond {c : RA} {a b : RC} : awp P (.cond c a b) ⟨f, m, ds⟩ Q = csel P (c.ev f) a b ⟨f, m, ds⟩ Q := by
  simp only [awp, csel]
  generalize c.ev f = v
  cases v <;> simp [bget, isB]

theorem e_kc_n {b : RC} {st : St} : Kc P b Q .normal st = awp P b st Q := id rfl
theorem e_kc_x {b : RC} {st : St} {i : Nat} : Kc P b Q (.exit i) st = Q (.exit i) st := id rfl
theorem e_kc_r {b : RC} {st : St} : Kc P b Q .ret st = Q .ret st := id rfl
theorem e_kb_n {st : St} {i : Nat} : Kb i Q .normal st = Q .normal st := id rfl
theorem e_kb_x {st : St} {i j : Nat} : Kb i Q (.exit j) st = if j = i then Q .normal st else Q (.exit j) st := id rfl
theorem e_kb_r {st : St} {i : Nat} : Kb i Q .ret st = Q .ret st := id rfl
theorem e_kg_n {st : St} : Kg Q .normal st = Q .normal st := id rfl
theorem e_kg_x {st : St} {j : Nat} : Kg Q (.exit j) st = Q (.exit j) st := id rfl
theorem e_kg_r {st : St} : Kg Q .ret st = Q .ret st := id rfl
theorem e_kl_n {I : Nat → St → Prop} {n : Nat} {st : St} : Kl I n Q .normal st = ∃ k, k < n ∧ I k st := id rfl
theorem e_kl_x {I : Nat → St → Prop} {n : Nat} {st : St} {j : Nat} : Kl I n Q (.exit j) st = Q (.exit j) st := id rfl
theorem e_kl_r {I : Nat → St → Prop} {n : Nat} {st : St} : Kl I n Q .ret st = Q .ret st := id rfl

theorem awp_loop {a : RC} {st : St} (I : Nat → St → Prop) (n : Nat) (h0 : I n st) (h : ∀ n st', I n st' → awp P a st' (Kl I n Q)) : awp P (.loop a) st Q := ⟨I, n, h0, h⟩

theorem e_nil {st : St} : aops P [] st K = K st := id rfl
def vget (x : Option AV) : AV := x.getD .top
def isV (x : Option AV) : Prop := x.isSome = true
theorem e_vget (x : AV) : vget (some x) = x := id rfl
theorem e_isV (x : AV) : isV (some x) = True := by simp [isV]
theorem e_val {vo : VO} : aops P (⟨some d, .val vo, none⟩ :: its) ⟨f, m, ds⟩ K = (isV (vop f m vo) ∧ aops P its ⟨upd f d (vget (vop f m vo)), m, ds⟩ K) := by
  simp only [aops, astep, aop, updO]
  generalize vop f m vo = v
  cases v <;> simp [vget, isV]

def mget (x : Option Mem) : Mem := x.getD []
def isM (x : Option Mem) : Prop := x.isSome = true
theorem e_mget (x : Mem) : mget (some x) = x := id rfl
theorem e_isM (x : Mem) : isM (some x) = True := by simp [isM]
theorem e_store {n : Nat} {p r : RA} : aops P (⟨none, .store n p r, none⟩ :: its) ⟨f, m, ds⟩ K = ((r.ev f).cells.length = n ∧ (r.ev f).cells.all AV.leaf = true ∧ isM (astore m (p.ev f) (r.ev f).cells) ∧ aops P its ⟨f, mget (astore m (p.ev f) (r.ev f).cells), ds⟩ K) := by
  simp only [aops, astep, aop, updO]
  generalize astore m (p.ev f) (r.ev f).cells = v
  cases v <;> simp [mget, isM]
def isPv (l s : Nat) (v : AV) : Prop := ∃ o, v = .ptr l s o
theorem e_isPv (l s o : Nat) : isPv l s (.ptr l s o) = True := eq_true ⟨o, rfl⟩
theorem e_storev {l s n : Nat} {p r : RA} : aops P (⟨none, .storev l s n p r, none⟩ :: its) ⟨f, m, ds⟩ K = (isPv l s (p.ev f) ∧ (r.ev f).cells.length = n ∧ (r.ev f).cells.all AV.leaf = true ∧ isM (astore m (p.ev f) (r.ev f).cells) ∧ aops P its ⟨f, mget (astore m (p.ev f) (r.ev f).cells), ds⟩ K) := by
  simp only [aops, astep, aop, updO, isPv]
  generalize astore m (p.ev f) (r.ev f).cells = v
  cases v <;> simp [mget, isM]
theorem e_allocN {s : Nat} {z : List AV} : aops P (⟨some d, .allocN s z, none⟩ :: its) ⟨f, m, ds⟩ K = (noOb m s = true ∧ aops P its ⟨upd f d (.ptr 0 s 0), Am.put m 0 s (.cells z), ds⟩ K) := id rfl
theorem e_boxN {s : Nat} {r : RA} : aops P (⟨some d, .boxN s r, none⟩ :: its) ⟨f, m, ds⟩ K = (noOb m s = true ∧ (r.ev f).cells.all AV.leaf = true ∧ aops P its ⟨upd f d (.ptr 0 s 0), Am.put m 0 s (.cells (r.ev f).cells), ds⟩ K) := id rfl

theorem e_bsl {sz len : Nat} {z : List AV} {ps : List (Nat × Nat × RA)} {y : List AV} (hy : fill f ps (zeros z sz len) = some y) (h1 : AV.rfL y = true) (h2 : y.all AV.leaf = true) : aops P (⟨some d, .bsl sz len z ps, none⟩ :: its) ⟨f, m, ds⟩ K = aops P its ⟨upd f d (.list (chunk sz len (y.map nn0))), m, ds⟩ K := by
  apply propext
  constructor
  · rintro ⟨y', h, _, _, k⟩
    have h : fill f ps (zeros z sz len) = some y' := h
    rw [hy] at h; cases h
    exact k
  · intro k
    exact ⟨y, hy, h1, h2, k⟩
theorem e_bsl1 {z : AV} {r : RA} {k : IntKind} {n : Int} (hr : r.ev f = .int k n) : aops P (⟨some d, .bsl 1 1 [z] [(0, 1, r)], none⟩ :: its) ⟨f, m, ds⟩ K = aops P its ⟨upd f d (.list [.int k n]), m, ds⟩ K := by
  refine e_bsl (y := [.int k n]) ?_ rfl rfl
  simp [fill, hr, AV.cells, AV.leaf, zeros, List.range_succ, splice]

theorem aops_bsl1 {z : AV} {r : RA} {k : IntKind} {n : Int} (hr : r.ev f = .int k n) (h : aops P its ⟨upd f d (.list [.int k n]), m, ds⟩ K) : aops P (⟨some d, .bsl 1 1 [z] [(0, 1, r)], none⟩ :: its) ⟨f, m, ds⟩ K := by
  rw [e_bsl1 hr]; exact h

theorem aops_bslA {sz : Nat} {z l : List AV} {r : RA} (hr : r.ev f = .agg l) (hl : l.length = sz) (h1 : sz ≠ 1) (hf : AV.rfL l = true) (hlf : l.all AV.leaf = true) (h : aops P its ⟨upd f d (.list [.agg (l.map nn0)]), m, ds⟩ K) :
    aops P (⟨some d, .bsl sz 1 z [(0, sz, r)], none⟩ :: its) ⟨f, m, ds⟩ K := by
  have hz : (zeros z sz 1).length = sz := by simp [zeros]
  have hy : fill f [(0, sz, r)] (zeros z sz 1) = some l := by
    simp only [fill, hr, AV.cells, hl, hlf, Nat.zero_add, hz, Nat.le_refl, and_self, if_true, splice, List.take_zero, List.nil_append]
    rw [List.drop_of_length_le (by omega), List.append_nil]
  rw [e_bsl hy hf hlf]
  have hc : chunk sz 1 (l.map nn0) = [.agg (l.map nn0)] := by
    simp only [chunk, if_neg h1]
    rw [List.take_of_length_le (by rw [List.length_map]; omega)]
  rw [hc]
  exact h

theorem ACallsD.mono {k : FuncId} {args : List AV} {m : Mem} {R R' : AV → Mem → Prop} (h : ACallsD P k args m R) (hr : ∀ x m', R x m' → R' x m') : ACallsD P k args m R' :=
  ⟨h.1, fun G w vs h1 h2 u c cs hu => by
    obtain ⟨e, u', w', fr, ⟨h3, G', x, v, m', h4, h5, h6⟩, h7⟩ := h.2 G w vs h1 h2 u c cs hu
    exact ⟨e, u', w', fr, ⟨h3, G', x, v, m', h4, hr _ _ h5, h6⟩, h7⟩⟩

theorem awp_vec {slot site sz : Nat} {a : RC} {fr : Nat → Ob} (h1 : f slot = .nils) (h2 : fr site = .none) (h : awp P a ⟨upd f slot (.vec 0 site 1 0 0 false), upd fr site (.vec 1 sz []) :: m, ds⟩ Q) : awp P (.gho (.vec slot site sz) a) ⟨f, fr :: m, ds⟩ Q := by
  refine ⟨_, ?_, h⟩
  have e : look (fr :: m) 0 site = .none := h2
  simp [gstep, h1, e, rowOrNone, newGen, Am.put]

theorem aops_app {sz bytes el : Nat} {s r : RA} {site g n : Nat} {fr : Nat → Ob} {xs ys : List AV} (hs : s.ev f = .vec 0 site g 0 n false) (hl : fr site = .vec g sz xs) (ht : tyOk site el = true) (hn : n = xs.length) (hr : r.ev f = .list ys) (hz : ys.all (fun e => e.cells.length == sz) = true) (hm : n + ys.length ≤ maxLen) (hb : (n + ys.length) * bytes ≤ 140737488355328)
    (h : aops P its ⟨upd f d (.vec 0 site (g + 1) 0 (n + ys.length) false), upd fr site (.vec (g + 1) sz (xs ++ ys)) :: m, ds⟩ K) : aops P (⟨some d, .app sz bytes el s r, none⟩ :: its) ⟨f, fr :: m, ds⟩ K := by
  refine ⟨0, site, g, n, xs, ys, hs, hl, ht, by omega, ?_, hz, hm, hb, ?_⟩
  · show elemsOf (fr :: m) (r.ev f) = some ys
    rw [hr]; rfl
  · subst hn
    rw [List.take_length]
    exact h

theorem aops_call {k : Nat} {args : List RA} {ys : List AV} {v : AV} (hk : Fn1 P k ys v) (hy : AV.stillL false m (args.map (RA.ev f)) = some ys) (h1 : AV.rfL ys = true) (h2 : v.rf = true) (h3 : AV.rfL (args.map (RA.ev f)) = true ∨ v.nl = true) (h : aops P its ⟨upd f d v, m, ds⟩ K) :
    aops P (⟨some d, .call (.f k) args, none⟩ :: its) ⟨f, m, ds⟩ K := by
  refine ⟨k, [], [], ys, v, rfl, ?_, h1, hk, h2, ?_, h⟩
  · simpa using hy
  · simpa using h3

theorem aops_xb {cnt : Bool} {k : Nat} {s c : RA} {t : List UInt8} {b : Int} (hs : s.ev f = .str t) (hb : c.ev f = .int .u8 b) (h : aops P its ⟨upd f d (.int .i64 (xbv cnt t b)), m, ds⟩ K) : aops P (⟨some d, .xb cnt k s c, none⟩ :: its) ⟨f, m, ds⟩ K :=
  ⟨t, b, hs, hb, h⟩

theorem aops_rngs {s : Nat} {r : RA} {fr : Nat → Ob} {t : List UInt8} (ht : r.ev f = .str t) (hn : fr s = .none) (h : aops P its ⟨upd f d (.ptr 0 s 0), upd fr s (.iter (.str t) 0) :: m, ds⟩ K) :
    aops P (⟨some d, .rngs s r, none⟩ :: its) ⟨f, fr :: m, ds⟩ K := by
  refine ⟨t, ht, ?_, h⟩
  show (match fr s with | .none => true | _ => false) = true
  rw [hn]

theorem aops_nxts {s p : Nat} {r : RA} {fr : Nat → Ob} {t : List UInt8} (hr : r.ev f = .ptr 0 s 0) (hl : fr s = .iter (.str t) p)
    (h1 : p < t.length → aops P its ⟨upd f d (.tup [.bool true, .int .i64 (p : Nat), .int .i32 ((udec t p).1 : Nat)]), upd fr s (.iter (.str t) (p + (udec t p).2)) :: m, ds⟩ K)
    (h2 : t.length ≤ p → aops P its ⟨upd f d (.tup [.bool false]), fr :: m, ds⟩ K) :
    aops P (⟨some d, .nxts r, none⟩ :: its) ⟨f, fr :: m, ds⟩ K :=
  ⟨0, s, t, p, hr, hl, h1, h2⟩

theorem aops_callF {k : Nat} {args : List RA} {ys : List AV} {v : AV} {m' : Mem} (hk : ACalls P k ys m fun x m1 => x = v ∧ m1 = m') (hy : args.map (RA.ev f) = ys) (h : aops P its ⟨upd f d v, m', ds⟩ K) :
    aops P (⟨some d, .callF (.f k) args, none⟩ :: its) ⟨f, m, ds⟩ K := by
  refine ⟨k, [], [], v, m', rfl, ?_, h⟩
  show ACalls P k (args.map (RA.ev f) ++ []) m fun x m1 => x = v ∧ m1 = m'
  rw [List.append_nil, hy]
  exact hk

theorem aops_mk {site el sz bytes : Nat} {z : List AV} {l c : RA} {kl kc : IntKind} {n k : Nat} {fr : Nat → Ob} (hl : l.ev f = .int kl (n : Int)) (hc : c.ev f = .int kc (k : Int)) (hnk : n ≤ k) (hk : k ≤ 9223372036854775807) (hb : bytes * k ≤ 281474976710656) (hs : fr site = .none)
    (h : aops P its ⟨upd f d (.vec 0 site 1 0 n false), upd fr site (.vec 1 sz (List.replicate n (zeroE sz z))) :: m, ds⟩ K) : aops P (⟨some d, .mk site el sz bytes z l c, none⟩ :: its) ⟨f, fr :: m, ds⟩ K := by
  have e : look (fr :: m) 0 site = .none := hs
  refine ⟨kl, kc, n, k, hl, hc, hnk, hk, hb, ?_, ?_⟩
  · show rowOrNone (look (fr :: m) 0 site) = true
    rw [e]; rfl
  · have hg : newGen (fr :: m) 0 site = 1 := by unfold newGen; rw [e]
    simp only [hg]
    exact h

theorem e_drop {s : Nat} {a : RC} {fr : Nat → Ob} : awp P (.gho (.drop s) a) ⟨f, fr :: m, ds⟩ Q = ((fr s).isRow = false ∧ awp P a ⟨fun i => (f i).scrub s, upd (fun i => (fr i).scrub s) s .none :: m, ds.map (DF.scrub s)⟩ Q) := by
  apply propext
  have hn : noRow (fr :: m) s = !(fr s).isRow := by
    unfold noRow
    show (match fr s with | .vec .. => false | _ => true) = _
    cases fr s <;> rfl
  constructor
  · rintro ⟨st', h1, h2⟩
    simp only [gstep, hn] at h1
    cases hr : (fr s).isRow with
    | true => rw [hr] at h1; cases h1
    | false => rw [hr] at h1; cases h1; exact ⟨rfl, h2⟩
  · rintro ⟨h1, h2⟩
    refine ⟨_, ?_, h2⟩
    simp only [gstep, hn, h1]
    rfl
theorem e_scr_top (s : Nat) : AV.top.scrub s = .top := id rfl
theorem e_scr_int (s : Nat) (k : IntKind) (n : Int) : (AV.int k n).scrub s = .int k n := id rfl
theorem e_scr_bool (s : Nat) (b : Bool) : (AV.bool b).scrub s = .bool b := id rfl
theorem e_scr_str (s : Nat) (b : List UInt8) : (AV.str b).scrub s = .str b := id rfl
theorem e_scr_nils (s : Nat) : AV.nils.scrub s = .nils := id rfl
theorem e_scr_nilp (s : Nat) : AV.nilp.scrub s = .nilp := id rfl
theorem e_scr_nili (s : Nat) : AV.nili.scrub s = .nili := id rfl
theorem e_scr_nilf (s : Nat) : AV.nilf.scrub s = .nilf := id rfl
theorem e_scr_list (s : Nat) (l : List AV) : (AV.list l).scrub s = .list l := id rfl
theorem e_scr_vec (s l t g o n : Nat) (q : Bool) : (AV.vec l t g o n q).scrub s = .vec l t g o n q := id rfl
theorem e_scr_agg (s : Nat) (l : List AV) : (AV.agg l).scrub s = .agg (AV.scrubL s l) := id rfl
theorem e_scr_tup (s : Nat) (l : List AV) : (AV.tup l).scrub s = .tup (AV.scrubL s l) := id rfl
theorem e_scr_ptr (s t o : Nat) : (AV.ptr 0 t o).scrub s = bif Nat.beq t s then .top else .ptr 0 t o := id rfl
theorem e_scr_ptr1 (s l t o : Nat) : (AV.ptr (l + 1) t o).scrub s = .ptr (l + 1) t o := id rfl
theorem e_scr_nil (s : Nat) : AV.scrubL s [] = [] := id rfl
theorem e_scr_cons (s : Nat) (x : AV) (l : List AV) : AV.scrubL s (x :: l) = x.scrub s :: AV.scrubL s l := id rfl
theorem e_scr_cells (s : Nat) (l : List AV) : (Ob.cells l).scrub s = .cells (AV.scrubL s l) := id rfl
theorem e_scr_row (s g z : Nat) (l : List AV) : (Ob.vec g z l).scrub s = .vec g z l := id rfl
theorem e_scr_none (s : Nat) : Ob.none.scrub s = .none := id rfl
theorem e_scr_isRow (s : Nat) (o : Ob) : (o.scrub s).isRow = o.isRow := by cases o <;> rfl
theorem e_row_cells (l : List AV) : (Ob.cells l).isRow = false := id rfl
theorem e_row_none : Ob.none.isRow = false := id rfl

def gsel (P : Program) (v : AV) (w : Bool) (d : Option Nat) (ro : RO) (its : List Item) (st : St) (K : St → Prop) : Prop :=
  match v with
  | .bool b => (b = w → aops P (⟨d, ro, none⟩ :: its) st K) ∧ (b = (!w) → aops P its { st with f := updO st.f d (.tup []) } K)
  | .tup l => l = [] ∧ aops P its { st with f := updO st.f d (.tup []) } K
  | _ => False
theorem gsel_t {b : Bool} {d : Option Nat} {ro : RO} {st : St} (h1 : b = true → aops P (⟨d, ro, none⟩ :: its) st K) (h2 : b = false → aops P its { st with f := updO st.f d (.tup []) } K) : gsel P (.bool b) true d ro its st K := ⟨h1, h2⟩
theorem gsel_f {b : Bool} {d : Option Nat} {ro : RO} {st : St} (h1 : b = false → aops P (⟨d, ro, none⟩ :: its) st K) (h2 : b = true → aops P its { st with f := updO st.f d (.tup []) } K) : gsel P (.bool b) false d ro its st K := ⟨h1, h2⟩
theorem e_gsel_t {d : Option Nat} {ro : RO} {st : St} : gsel P (.bool true) true d ro its st K = aops P (⟨d, ro, none⟩ :: its) st K := by simp [gsel]
theorem e_gsel_f {d : Option Nat} {ro : RO} {st : St} : gsel P (.bool false) false d ro its st K = aops P (⟨d, ro, none⟩ :: its) st K := by simp [gsel]
theorem e_gsel_tf {ro : RO} : gsel P (.bool true) false (some d) ro its ⟨f, m, ds⟩ K = aops P its ⟨upd f d (.tup []), m, ds⟩ K := by simp [gsel, updO]
theorem e_gsel_ft {ro : RO} : gsel P (.bool false) true (some d) ro its ⟨f, m, ds⟩ K = aops P its ⟨upd f d (.tup []), m, ds⟩ K := by simp [gsel, updO]
theorem e_gsel_n {ro : RO} {w : Bool} : gsel P (.tup []) w (some d) ro its ⟨f, m, ds⟩ K = aops P its ⟨upd f d (.tup []), m, ds⟩ K := by simp [gsel, updO]
theorem e_gsel_tf0 {ro : RO} {st : St} : gsel P (.bool true) false none ro its st K = aops P its st K := by simp [gsel, updO]
theorem e_gsel_ft0 {ro : RO} {st : St} : gsel P (.bool false) true none ro its st K = aops P its st K := by simp [gsel, updO]
theorem e_gsel_n0 {ro : RO} {w : Bool} {st : St} : gsel P (.tup []) w none ro its st K = aops P its st K := by simp [gsel, updO]
theorem e_g {ro : RO} {j : Nat} {w : Bool} {d : Option Nat} : aops P (⟨d, ro, some (j, w)⟩ :: its) ⟨f, m, ds⟩ K = gsel P (f j) w d ro its ⟨f, m, ds⟩ K := by
  simp only [aops, astep, gsel]
  all_goals (generalize f j = v; cases v <;> rfl)

theorem e_ends_r {rs : List RR} {n : Nat} {R : AV → Mem → Prop} {fr : Nat → Ob} : AEnds rs n R .ret ⟨f, fr :: m, ds⟩ = (ds = [] ∧ isV (resV ⟨f, fr :: m, ds⟩ rs) ∧ isV (leave (fr :: m) (vget (resV ⟨f, fr :: m, ds⟩ rs))) ∧ m.length = n ∧ R (vget (leave (fr :: m) (vget (resV ⟨f, fr :: m, ds⟩ rs)))) m) := by
  apply propext
  constructor
  · rintro ⟨_, h1, x, y, fr', m', h2, h3, h4, h5, h6⟩
    cases h4
    have h1 : ds = [] := h1
    rw [h2, e_vget, h3]
    exact ⟨h1, rfl, rfl, h5, h6⟩
  · rintro ⟨h1, h2, h3, h4, h5⟩
    generalize hv : resV ⟨f, fr :: m, ds⟩ rs = v at h2 h3 h5
    cases v with
    | none => cases h2
    | some x =>
      rw [e_vget] at h3 h5
      cases hl : leave (fr :: m) x with
      | none => rw [hl] at h3; cases h3
      | some y =>
        rw [hl] at h5
        exact ⟨.inr rfl, h1, x, y, fr, m, hv, hl, rfl, h4, h5⟩
theorem e_ends_n {rs : List RR} {n : Nat} {R : AV → Mem → Prop} {st : St} : AEnds rs n R .normal st = AEnds rs n R .ret st := by
  simp [AEnds]

theorem e_upd {α : Type} (f : Nat → α) (d : Nat) (x : α) (i : Nat) : upd f d x i = bif Nat.beq i d then x else f i := id rfl
theorem e_nbeq (a b : Nat) : Nat.beq a b = (a == b) := by
  cases h : Nat.beq a b with
  | true => rw [Nat.eq_of_beq_eq_true h]; simp
  | false => have := Nat.ne_of_beq_eq_false h; simp [this]
theorem awp_vecc {s idx site sz : Nat} {a : RC} {fr : Nat → Ob} {xs : List AV} (h1 : fr s = .cells xs) (h2 : xs[idx]? = some .nils) (h3 : fr site = .none) (hne : Nat.beq site s = false) (h : awp P a ⟨f, upd (upd fr site (.vec 1 sz [])) s (.cells (xs.set idx (.vec 0 site 1 0 0 false))) :: m, ds⟩ Q) : awp P (.gho (.vecc s idx site sz) a) ⟨f, fr :: m, ds⟩ Q := by
  refine ⟨_, ?_, h⟩
  have e1 : look (fr :: m) 0 s = .cells xs := h1
  have e : look (fr :: m) 0 site = .none := h3
  simp [gstep, e1, h2, e, rowOrNone, newGen, Am.put, hne]
theorem upd_upd {α : Type} (f : Nat → α) (d : Nat) (x y : α) : upd (upd f d x) d y = upd f d y := by
  funext i
  by_cases h : i = d
  · subst h; rw [upd_same, upd_same]
  · rw [upd_ne _ _ h, upd_ne _ _ h, upd_ne _ _ h]
theorem upd_comm {α : Type} (f : Nat → α) (d e : Nat) (x y : α) (hde : d ≠ e) : upd (upd f d x) e y = upd (upd f e y) d x := by
  funext i
  by_cases h : i = d
  · subst h; rw [upd_same, upd_ne _ _ hde, upd_same]
  · by_cases h2 : i = e
    · subst h2; rw [upd_same, upd_ne _ _ h, upd_same]
    · rw [upd_ne _ _ h2, upd_ne _ _ h, upd_ne _ _ h, upd_ne _ _ h2]
theorem e_t (n : Nat) : (RA.t n).ev f = f n := id rfl
theorem e_c (x : AV) : (RA.c x).ev f = x := id rfl
theorem e_f (k : Nat) : (RA.f k).ev f = .fn (.func k) [] [] := id rfl

end

end Go.Proofs.YtdgbidbkcigkhaaGreatDoor.Am

namespace Go.Proofs.YtdgbidbkcigkhaaGreatDoor.Br
open Go Am Go.RowKit Go.WideShapes Go.ChangeShapes Go.ChangeAt

theorem calls_of_fn1 {P : Program} {k : FuncId} {args : List AV} {v : Bool} (h : Fn1 P k args (.bool v)) {stab : Nat → Nat → Option SV} (ht : ∀ b o v, GTab b o = some v → stab b o = some v) {w : World} (hs : ∀ b o u, stab b o = some u → rd w b o u) {vs : List Value} (hr : RepL (Gh.bare stab ht) args vs) :
    Calls P k ⟨vs⟩ w fun e w' => e = .returned (.bool v) ∧ Below w.heap.size w w' :=
  (h.2 (Gh.bare stab ht) w vs hr (MR.bare hs)).mono fun e w' ⟨G', x, u, m', he, hx, hu, _, hex, _⟩ => by
    subst hx
    cases hu
    exact ⟨he, hex.os, hex.tape, hex.output, hex.size, fun b hb => (hex.old b hb Gh.bare_mine).1⟩

theorem rep_str {G : Gh} (s : ByteArray) : Rep G (.str s.data.toList) (.string s) := by
  obtain ⟨⟨l⟩⟩ := s
  exact .str l

theorem u64_lo {n : Int} (h : (Lit.int .u64 n).wf = true) : 0 ≤ n := by
  simp [Lit.wf, IntKind.min, IntKind.max, IntKind.bits, IntKind.signed] at h
  omega
section
variable {H : Type} {enc : TypeId × Value → H} {P : Program}
theorem post_of_below {f : Func} {s : ChangeSpec} {apart fresh handsOn again : Bool} {W W' : World} {args : Array Value} {v : Value} {ds gs : List (DataW H)} {before pa pv : List MemPlace}
    (hW : DataW.Whole enc P f.params.toList s.vars apart W args.toList ds gs before)
    (hres : ∀ (b : Nat) (sp : Nat → Bool) (hd : Bool), DataW.TrodAll enc P W' b sp hd f.resultTypes.toList (v.resultList f.resultTypes.size) (s.fn H (ds ++ gs)).results [])
    (hargs : ∀ sp : Nat → Bool, (∀ p ∈ before, sp p.block = true) → DataW.TrodAll enc P W' 0 sp true f.params.toList args.toList (s.fn H (ds ++ gs)).args pa)
    (hvars : ∀ sp : Nat → Bool, (∀ p ∈ before, sp p.block = true) → DataW.TrodVars enc P W' sp s.vars (s.fn H (ds ++ gs)).vars pv)
    (hps : before = pa ++ pv) (hb : Below W.heap.size W W')
    (hok : ∀ (j : Nat) (t : TypeId) (r : Value), f.resultTypes[j]? = some t → (v.resultList f.resultTypes.size)[j]? = some r → Value.okWide P W' .any 0 t r) :
    s.post enc P f apart fresh handsOn again W args v W' := by
  have hlt : ∀ p ∈ before, p.block < W.heap.size := fun p hp => hW.lt p hp
  have hold : ∀ p ∈ before, (fun b => decide (b < W.heap.size)) p.block = true := fun p hp => by simpa using hlt p hp
  refine ⟨ds, gs, before, [], pa, pv, hW, hres _ _ _, hargs _ hold, hvars _ hold, World.keptBut_mono (fun p hp => ⟨hp, ?_⟩) (hb.frame (· ∈ before)), fun _ => ?_⟩
  · rw [hps, List.mem_append] at hp
    exact Or.inr hp
  · obtain ⟨_, _, _, _, _, hz, hn⟩ := hW
    refine ⟨hok, _, _, ([] ++ pa) ++ pv, ⟨[] ++ pa, pv, trodAll_append (hargs _ (fun _ _ => rfl)) (hres _ _ _), hvars _ (fun _ _ => rfl), rfl, ?_, ?_⟩, ?_⟩
    · intro b off hp
      have hin : MemPlace.cell b off ∈ before := by rw [hps]; simpa using hp
      rw [hb.frozen (hlt _ hin)]
      exact hz b off hin
    · intro ha
      have := hn ha
      rw [hps] at this
      simpa using this
    · intro p hp _
      rw [hps]
      simpa using hp
end

end Go.Proofs.YtdgbidbkcigkhaaGreatDoor.Br

namespace Go.Proofs.YtdgbidbkcigkhaaGreatDoor.Br
open Go Am Go.RowKit Go.WideShapes Go.ChangeShapes Go.ChangeAt

section
variable {H : Type} {enc : TypeId × Value → H} {P : Program} {w : World} {base : Nat} {sp : Nat → Bool} {held : Bool}

def dall (g : DataW H → Option (List Value)) : List (DataW H) → Option (List Value)
  | [] => some []
  | d :: ds => match g d, dall g ds with
    | some a, some b => some (a ++ b)
    | _, _ => none
def dflds (P : Program) (g : TypeId → DataW H → Option (List Value)) : Nat → Nat → List Field → List (DataW H) → Option (List Value)
  | o, n, [], [] => bif o == n then some [] else none
  | o, n, f :: fs, d :: ds => bif f.offset == o then match g f.type d, dflds P g (o + P.cellsOf f.type) n fs ds with
    | some a, some b => some (a ++ b)
    | _, _ => none else none
  | _, _, _, _ => none
def dcells (P : Program) : Nat → TypeId → DataW H → Option (List Value)
  | 0, _, _ => none
  | k + 1, t, d => match P.underlying t with
    | some (.int ik) => match d with
      | .lit (.int ik' n) => bif ik' == ik then some [.int ik n] else none
      | _ => none
    | some (.array n e) => match d with
      | .agg ds => bif P.cellsOf t == n * P.cellsOf e then dall (dcells P k e) ds else none
      | _ => none
    | some (.struct fs) => match d with
      | .agg ds => dflds P (dcells P k) 0 (P.cellsOf t) fs.toList ds
      | _ => none
    | _ => none

theorem dall_ok {g : DataW H → Option (List Value)} {c : Nat} : ∀ {ds : List (DataW H)} {cs ls : List Value}, cs.length = ds.length * c → (∀ i d l, ds[i]? = some d → g d = some l → (cs.drop (i * c)).take c = l) → dall g ds = some ls → cs = ls
  | [], cs, ls, hl, _, h => by
    cases h
    exact List.eq_nil_of_length_eq_zero (by simpa using hl)
  | d :: ds, cs, ls, hl, hx, h => by
    rw [dall] at h
    split at h
    · rename_i a b ea eb
      cases h
      rw [List.length_cons, Nat.succ_mul] at hl
      have h0 := hx 0 d a rfl ea
      rw [Nat.zero_mul, List.drop_zero] at h0
      have h1 : cs.drop c = b := dall_ok (c := c) (by rw [List.length_drop]; omega) (fun i d' l hd hg => by
        have := hx (i + 1) d' l (by simpa using hd) hg
        rw [List.drop_drop]
        rwa [Nat.succ_mul, Nat.add_comm] at this) eb
      rw [← h0, ← h1, List.take_append_drop]
    · cases h
theorem dflds_ok {g : TypeId → DataW H → Option (List Value)} {cs : List Value} : ∀ {fs : List Field} {ds : List (DataW H)} {o : Nat} {ls : List Value}, (∀ (i : Nat) (f : Field) (d : DataW H) l, fs[i]? = some f → ds[i]? = some d → g f.type d = some l → (cs.drop f.offset).take (P.cellsOf f.type) = l) → dflds P g o cs.length fs ds = some ls → cs.drop o = ls
  | [], [], o, ls, _, h => by
    rw [dflds] at h
    cases ho : o == cs.length with
    | false => rw [ho] at h; cases h
    | true =>
      rw [ho] at h
      cases h
      rw [beq_iff_eq] at ho
      rw [ho, List.drop_length]
  | f :: fs, d :: ds, o, ls, hx, h => by
    rw [dflds] at h
    cases ho : f.offset == o with
    | false => rw [ho] at h; cases h
    | true =>
      rw [ho, cond_true] at h
      rw [beq_iff_eq] at ho
      split at h
      · rename_i a b ea eb
        cases h
        have h0 := hx 0 f d a rfl rfl ea
        have h1 := dflds_ok (fun i f' d' l h1 h2 h3 => hx (i + 1) f' d' l (by simpa using h1) (by simpa using h2) h3) eb
        rw [ho] at h0
        rw [← h0, ← h1, ← List.drop_drop, List.take_append_drop]
      · cases h
  | [], _ :: _, _, _, _, h => by rw [dflds] at h; cases h; all_goals simp
  | _ :: _, [], _, _, _, h => by rw [dflds] at h; cases h; all_goals simp

theorem dcells_ok : ∀ (k m : Nat) (t : TypeId) (cs : List Value) (d : DataW H) (p : List MemPlace) (ls : List Value), DataW.trod enc P w base sp held m t cs = some (d, p) → dcells P k t d = some ls → cs = ls
  | 0, _, _, _, _, _, _, _, h => by cases h
  | k + 1, m, t, cs, d, p, ls, ht, h => by
    rw [dcells] at h
    split at h
    · rename_i ik hu
      obtain ⟨n, rfl, e, _⟩ := DataW.trod_int hu ht
      cases e
      simp only [BEq.rfl, cond_true, Option.some.injEq] at h
      exact h
    · rename_i n e hu
      obtain ⟨xs, m', rfl, ex, hlen, hxl, hx⟩ := DataW.trod_array hu ht
      cases ex
      dsimp only at h
      cases hc : P.cellsOf t == n * P.cellsOf e with
      | false => rw [hc] at h; cases h
      | true =>
        rw [hc, cond_true] at h
        rw [beq_iff_eq] at hc
        refine dall_ok (c := P.cellsOf e) (by rw [List.length_map, hxl, hlen, hc]) (fun i d l hd hg => ?_) h
        rw [List.getElem?_map, Option.map_eq_some_iff] at hd
        obtain ⟨x, h1, rfl⟩ := hd
        have h2 := hx i (by rw [← hxl]; exact (List.getElem?_eq_some_iff.1 h1).1)
        rw [h1] at h2
        exact dcells_ok k m' e _ x.1 x.2 l h2 hg
    · rename_i fs hu
      obtain ⟨xs, m', rfl, ex, hlen, hxl, hx⟩ := DataW.trod_struct hu ht
      cases ex
      dsimp only at h
      rw [← hlen] at h
      have := dflds_ok (P := P) (cs := cs) (fun i f d l hf hd hg => by
        rw [List.getElem?_map, Option.map_eq_some_iff] at hd
        obtain ⟨x, h1, rfl⟩ := hd
        have h2 := hx i f (by simpa using hf)
        rw [h1] at h2
        exact dcells_ok k m' f.type _ x.1 x.2 l h2 hg) h
      rwa [List.drop_zero] at this
    · cases h

def vEq : Value → Value → Bool
  | .int k n, .int k' n' => k == k' && n == n'
  | _, _ => false
theorem vEq_eq : ∀ {a b : Value}, vEq a b = true → a = b := by
  intro a b h
  unfold vEq at h
  split at h
  · rw [Bool.and_eq_true, beq_iff_eq, beq_iff_eq] at h
    rw [h.1, h.2]
  · cases h
def vsEq : List Value → List Value → Bool
  | [], [] => true
  | a :: l, b :: r => vEq a b && vsEq l r
  | _, _ => false
theorem vsEq_eq : ∀ {a b : List Value}, vsEq a b = true → a = b
  | [], [], _ => rfl
  | a :: l, b :: r, h => by
    rw [vsEq, Bool.and_eq_true] at h
    rw [vEq_eq h.1, vsEq_eq h.2]
  | [], _ :: _, h => by cases h
  | _ :: _, [], h => by cases h

theorem laid_at {n : String} {d : DataW Unit} : ∀ {l : List (String × DataW Unit)} {ps : List MemPlace}, DataW.LaidVars P w l ps → (n, d) ∈ l →
    ∃ g t cs fuel p, P.globalNamed n = some g ∧ (P.globals[g]?).map (·.type) = some t ∧ w.var? P n = some cs ∧ DataW.trod (fun _ => ()) P w 0 (fun _ => true) false fuel t cs.toList = some (d, p)
  | [], _, _, hm => by cases hm
  | x :: r, ps, h, hm => by
    obtain ⟨g, t, cs, fuel, p, q, k1, k2, k3, k4, k5, _⟩ := h
    rcases List.mem_cons.1 hm with e | e
    · subst e
      exact ⟨g, t, cs, fuel, p, k1, k2, k3, k4⟩
    · exact laid_at k5 e

def tabOk (P : Program) (laid : List (String × DataW Unit)) : Bool :=
  TabC.all fun x => laid.any fun y => P.globalNamed y.1 == some x.1 && (match (P.globals[x.1]?).map (·.type) with
    | some t => (match dcells P 6 t y.2 with
      | some l => vsEq l x.2
      | none => false)
    | none => false)

theorem lookup_mem {b : Nat} {l : List Value} : ∀ {T : List (Nat × List Value)}, T.lookup b = some l → (b, l) ∈ T
  | [], h => by cases h
  | (c, m) :: T, h => by
    rw [List.lookup] at h
    split at h
    · rename_i e
      cases h
      rw [beq_iff_eq] at e
      subst e
      exact List.mem_cons_self ..
    · exact List.mem_cons_of_mem _ (lookup_mem h)

theorem laid_of {laid : List (String × DataW Unit)} (h : laidMet P laid w) (ht : tabOk P laid = true) : Laid w := by
  intro b o v e
  obtain ⟨ps, hv, _⟩ := h
  unfold GTab at e
  cases hl : TabC.lookup b with
  | none => rw [hl] at e; cases e
  | some l =>
    rw [hl] at e
    have h1 := List.all_eq_true.1 ht _ (lookup_mem hl)
    obtain ⟨⟨n, d⟩, hy, h2⟩ := List.any_eq_true.1 h1
    rw [Bool.and_eq_true] at h2
    obtain ⟨h2, h3⟩ := h2
    have h2 : P.globalNamed n = some b := by simpa using h2
    obtain ⟨g, t, cs, fuel, p, k1, k2, k3, k4⟩ := laid_at hv hy
    rw [h2] at k1
    cases k1
    dsimp only at h3
    rw [k2] at h3
    dsimp only at h3
    split at h3
    · rename_i l' hc
      have h4 := dcells_ok 6 fuel t cs.toList d p l' k4 hc
      rw [vsEq_eq h3] at h4
      unfold World.var? at k3
      rw [h2] at k3
      simp only [Option.bind_some] at k3
      split at k3
      · rename_i cs' t' fz hh
        cases k3
        dsimp only at e
        split at e
        · rename_i ho
          cases e
          exact ⟨cs, t', fz, hh, by rw [ho, ← h4]; simp, rfl⟩
        · obtain ⟨u, hu, rfl⟩ := Option.map_eq_some_iff.1 e
          show w.cell? ⟨b, o, none⟩ = some u
          rw [cell_of_row w b o cs t' fz hh, ← Array.getElem?_toList, h4]
          exact hu
      · cases k3
    · cases h3
end

end Go.Proofs.YtdgbidbkcigkhaaGreatDoor.Br

namespace Go.Proofs.YtdgbidbkcigkhaaGreatDoor.Am
open Go

variable {P : Program} {f : Fr} {m : Mem} {ds : List DF} {its : List Item} {d : Nat}

theorem awp_pub {Q : Exit → St → Prop} {a : RC} {slot site g sz n : Nat} {fr : Nat → Ob} {xs : List AV} (h1 : f slot = .vec 0 site g 0 n false) (h2 : fr site = .vec g sz xs) (hn : n ≤ xs.length)
    (h : awp P a ⟨upd f slot (.list (xs.take n)), upd fr site (.vec (g + 1) sz []) :: m, ds⟩ Q) : awp P (.gho (.pub slot site) a) ⟨f, fr :: m, ds⟩ Q := by
  refine ⟨_, ?_, h⟩
  have e : look (fr :: m) 0 site = .vec g sz xs := h2
  simp only [gstep, h1, e]
  rw [show Nat.beq site site = true from Nat.beq_refl site, show Nat.beq g g = true from Nat.beq_refl g, show Nat.ble (0 + n) xs.length = true from Nat.ble_eq_true_of_le (by omega)]
  rfl

def drops : List Nat → RC → RC
  | [], a => a
  | s :: l, a => .gho (.drop s) (drops l a)
def scrs : List Nat → AV → AV
  | [], x => x
  | s :: l, x => scrs l (x.scrub s)
def oscrs : List Nat → Ob → Ob
  | [], x => x
  | s :: l, x => oscrs l (x.scrub s)

theorem oscrs_none (l : List Nat) : oscrs l .none = .none := by
  induction l with
  | nil => rfl
  | cons s l ih => exact ih

theorem awp_drops {Q : Exit → St → Prop} {a : RC} (l : List Nat) : ∀ {f : Fr} {fr : Nat → Ob}, (∀ s ∈ l, (fr s).isRow = false) →
    (∀ f' fr', (∀ i, f' i = scrs l (f i)) → (∀ i, i ∉ l → fr' i = oscrs l (fr i)) → (∀ i ∈ l, fr' i = .none) → awp P a ⟨f', fr' :: m, []⟩ Q) → awp P (drops l a) ⟨f, fr :: m, []⟩ Q := by
  induction l with
  | nil => intro f fr _ h; exact h f fr (fun _ => rfl) (fun _ _ => rfl) (fun _ h => by cases h)
  | cons s l ih =>
    intro f fr hr h
    show awp P (.gho (.drop s) (drops l a)) _ _
    rw [e_drop]
    refine ⟨hr s (by simp), ?_⟩
    show awp P (drops l a) ⟨_, _ :: m, []⟩ Q
    refine ih ?_ ?_
    · intro t ht
      by_cases e : t = s
      · subst e; rw [upd_same]; rfl
      · rw [upd_ne _ _ e, e_scr_isRow]; exact hr t (by simp [ht])
    · intro f' fr' h1 h2 h3
      refine h f' fr' h1 ?_ ?_
      · intro i hi
        rw [h2 i (fun h => hi (List.mem_cons_of_mem _ h)), upd_ne _ _ (fun e => hi (by rw [e]; exact List.mem_cons_self))]; rfl
      · intro i hi
        by_cases hl : i ∈ l
        · exact h3 i hl
        · have e : i = s := by
            rcases List.mem_cons.1 hi with e | e
            · exact e
            · exact absurd e hl
          rw [h2 i hl, e, upd_same, oscrs_none]

def ngen : Ob → Nat
  | .vec g _ _ => g + 1
  | _ => 1

theorem newGen_fr {fr : Nat → Ob} {s : Nat} : newGen (fr :: m) 0 s = ngen (fr s) := by
  unfold newGen ngen
  rfl

theorem aops_isnil {K : St → Prop} {neg : Bool} {r : RA} {ys : List AV} (hr : r.ev f = .list ys) (h0 : aops P its ⟨upd f d (.bool neg), m, ds⟩ K) (h1 : ys = [] ∨ flat ys = [] → aops P its ⟨upd f d (.bool (!neg)), m, ds⟩ K) : aops P (⟨some d, .isnil neg r, none⟩ :: its) ⟨f, m, ds⟩ K := by
  refine ⟨ys, ?_, fun _ => h0, fun e => h1 ?_⟩
  · show elemsOf m (r.ev f) = some ys
    rw [hr]; rfl
  · rcases e with e | e
    · have e : r.ev f = .nils := e
      rw [hr] at e; cases e
    · exact .inr e

theorem aops_bsl0 {K : St → Prop} {site sz : Nat} {fr : Nat → Ob} (hs : rowOrNone (fr site) = true)
    (h : aops P its ⟨upd f d (.vec 0 site (ngen (fr site)) 0 0 false), upd fr site (.vec (ngen (fr site)) sz []) :: m, ds⟩ K) : aops P (⟨some d, .bsl0 site sz, none⟩ :: its) ⟨f, fr :: m, ds⟩ K :=
  ⟨hs, h⟩

theorem awp_give {Q : Exit → St → Prop} {a : RC} {slot site l S g sz o n : Nat} {q : Bool} {fr : Nat → Ob} {xs : List AV} (h1 : f slot = .vec 0 site g o n q) (h2 : fr site = .vec g sz xs) (hl : l < m.length) (hS : S < 2000) (hr : rowOrNone (look m l S) = true)
    (h : awp P a ⟨upd f slot (.vec (l + 1) S (newGen m l S) o n q), upd fr site (.vec (g + 1) sz []) :: Am.put m l S (.vec (newGen m l S) sz xs), ds⟩ Q) : awp P (.gho (.give slot site (l + 1) S) a) ⟨f, fr :: m, ds⟩ Q := by
  refine ⟨_, ?_, h⟩
  have e : look (fr :: m) 0 site = .vec g sz xs := h2
  have e1 : rowOrNone (look (fr :: m) (l + 1) S) = true := hr
  have e2 : newGen (fr :: m) (l + 1) S = newGen m l S := rfl
  simp only [gstep, h1, e, e1, e2]
  rw [show Nat.beq site site = true from Nat.beq_refl site, show Nat.beq g g = true from Nat.beq_refl g, show Nat.blt (l + 1) (fr :: m).length = true from Nat.ble_eq_true_of_le (by simp; omega), show Nat.blt S 2000 = true from Nat.ble_eq_true_of_le hS]
  rfl

theorem aops_callV {K : St → Prop} {k : Nat} {r : RA} {args : List RA} {fa fb ys : List AV} {v : AV} {m' : Mem} (hr : r.ev f = .fn (.func k) fa fb) (hk : ACalls P k ys m fun x m1 => x = v ∧ m1 = m') (hy : fa ++ args.map (RA.ev f) ++ fb = ys) (h : aops P its ⟨upd f d v, m', ds⟩ K) :
    aops P (⟨some d, .callF r args, none⟩ :: its) ⟨f, m, ds⟩ K := by
  refine ⟨k, fa, fb, v, m', hr, ?_, h⟩
  show ACalls P k (fa ++ args.map (RA.ev f) ++ fb) m fun x m1 => x = v ∧ m1 = m'
  rw [hy]
  exact hk

theorem aops_callW {K : St → Prop} {k : Nat} {r : RA} {args : List RA} {fa fb ys : List AV} {v : AV} (hr : r.ev f = .fn (.func k) fa fb) (hk : Fn1 P k ys v) (hy : AV.stillL false m (fa ++ args.map (RA.ev f) ++ fb) = some ys) (h1 : AV.rfL ys = true) (h2 : v.rf = true)
    (h3 : AV.rfL (fa ++ args.map (RA.ev f) ++ fb) = true ∨ v.nl = true) (h : aops P its ⟨upd f d v, m, ds⟩ K) : aops P (⟨some d, .call r args, none⟩ :: its) ⟨f, m, ds⟩ K :=
  ⟨k, fa, fb, ys, v, hr, hy, h1, hk, h2, h3, h⟩

end Go.Proofs.YtdgbidbkcigkhaaGreatDoor.Am

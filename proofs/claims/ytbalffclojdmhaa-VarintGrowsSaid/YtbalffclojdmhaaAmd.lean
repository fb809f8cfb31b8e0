/- Loads, stores, new variables. -/
import Derived.Test.YtbalffclojdmhaaAmc
namespace Go.Proofs.Ytbalffclojdmhaa.Am
open Go

theorem add_plain (b o i : Nat) : (⟨b, o, none⟩ : Addr).add i = ⟨b, o + i, none⟩ := by
  unfold Addr.add
  split
  · rename_i h; subst h; rfl
  · rfl

def AV.shNL : Nat → List AV → List AV
  | 0, x => x
  | n + 1, x => AV.shL (AV.shNL n x)

theorem RepL.shNL (n : Nat) : ∀ {G : Gh} {x : List AV} {v : List Value}, RepL (G.dn n) x v → RepL G (AV.shNL n x) v := by
  induction n with
  | zero => intro G x v h; exact h
  | succ n ih =>
    intro G x v h
    show RepL G (AV.shL (AV.shNL n x)) v
    refine RepL.sh (ih ?_)
    rw [Gh.dn_dn]
    exact h

def AV.unNL : Nat → List AV → Option (List AV)
  | 0, x => some x
  | n + 1, x => (AV.unL x).bind (AV.unNL n)

theorem RepL.unNL (n : Nat) : ∀ {G : Gh} {x y : List AV} {v : List Value}, RepL G x v → AV.unNL n x = some y → RepL (G.dn n) y v := by
  induction n with
  | zero => intro G x y v h e; cases e; exact h
  | succ n ih =>
    intro G x y v h e
    simp only [AV.unNL, Option.bind_eq_some_iff] at e
    obtain ⟨z, e1, e2⟩ := e
    have := ih (h.un z e1) e2
    rw [Gh.dn_dn] at this
    exact this

theorem AV.unL_length : ∀ {x y : List AV}, AV.unL x = some y → y.length = x.length
  | [], y, e => by cases e; rfl
  | x :: l, y, e => by
      simp only [AV.unL] at e
      split at e
      · rename_i a b ea eb
        cases e
        simp [AV.unL_length eb]
      · cases e
theorem AV.unNL_length (n : Nat) : ∀ {x y : List AV}, AV.unNL n x = some y → y.length = x.length := by
  induction n with
  | zero => intro x y e; cases e; rfl
  | succ n ih =>
    intro x y e
    simp only [AV.unNL, Option.bind_eq_some_iff] at e
    obtain ⟨z, e1, e2⟩ := e
    rw [ih e2, AV.unL_length e1]

theorem Rep.cells_leaf {G : Gh} {x : AV} {v : Value} (h : Rep G x v) (hl : x.leaf = true) : v.cells = #[v] := by
  have := h.leaf hl
  cases v <;> first | rfl | (simp [Value.oneCell'] at this)

/-- The cells of a value are those of its reading. -/
theorem Rep.cells {G : Gh} {x : AV} {v : Value} (h : Rep G x v) (hl : x.cells.all AV.leaf = true) : RepL G x.cells v.cells.toList := by
  cases h with
  | agg h => exact h
  | top => simp [AV.cells, AV.leaf] at hl
  | tup => simp [AV.cells, AV.leaf] at hl
  | vec hv hg h =>
    have e := Rep.cells_leaf (Rep.vec hv hg h) rfl
    rw [e]; exact .cons (.vec hv hg h) .nil
  | vptr hv hg h =>
    have e := Rep.cells_leaf (Rep.vptr hv hg h) rfl
    rw [e]; exact .cons (.vptr hv hg h) .nil
  | int => exact .cons (.int _ _) .nil
  | bool => exact .cons (.bool _) .nil
  | str => exact .cons (.str _) .nil
  | nils => exact .cons .nils .nil
  | nilp => exact .cons .nilp .nil
  | nilf => exact .cons .nilf .nil
  | nili => exact .cons .nili .nil
  | nilm => exact .cons .nilm .nil
  | list a b c d e f g i => exact .cons (.list a b c d e f g i) .nil
  | iface h => exact .cons (.iface h) .nil
  | fn a b => exact .cons (.fn a b) .nil
  | ptr h => exact .cons (.ptr h) .nil
  | rptr a b c d => exact .cons (.rptr a b c d) .nil

theorem RepL.leaves {G : Gh} {l : List AV} {vs : List Value} (h : RepL G l vs) (hl : l.all AV.leaf = true) : ∀ v ∈ vs, v.oneCell' = true := by
  intro v hv
  obtain ⟨i, hi⟩ := List.mem_iff_getElem?.1 hv
  obtain ⟨x, hx, r⟩ := h.back hi
  exact r.leaf (List.all_eq_true.1 hl x (List.mem_of_getElem? hx))

/-- Block b alone may have turned. -/
structure Turned (b : Nat) (w w' : World) : Prop where
  os : w'.os = w.os
  tape : w'.tape = w.tape
  output : w'.output = w.output
  size : w'.heap.size = w.heap.size
  heap : ∀ k, k ≠ b → w'.heap[k]? = w.heap[k]?

theorem Turned.refl (b : Nat) (w : World) : Turned b w w := ⟨rfl, rfl, rfl, rfl, fun _ _ => rfl⟩
theorem Turned.trans {b : Nat} {w w1 w2 : World} (h : Turned b w w1) (j : Turned b w1 w2) : Turned b w w2 :=
  ⟨j.os.trans h.os, j.tape.trans h.tape, j.output.trans h.output, j.size.trans h.size, fun k hk => (j.heap k hk).trans (h.heap k hk)⟩
theorem Turned.set (w : World) (b i : Nat) (v : Value) : Turned b w (w.setCell ⟨b, i, none⟩ v) :=
  ⟨rfl, rfl, rfl, by simp, fun k hk => by
    simp only [World.setCell, Array.getElem?_modify]
    rw [if_neg (fun e => hk e.symm)]⟩
theorem Turned.cell {b : Nat} {w w' : World} (h : Turned b w w') {k : Nat} (hk : k ≠ b) (o : Nat) : w'.cell? ⟨k, o, none⟩ = w.cell? ⟨k, o, none⟩ :=
  World.cell?_of_block (a := ⟨k, o, none⟩) (h.heap k hk)

theorem run_storeCells_soft (P : Program) (b off : Nat) : ∀ (vs : List Value) (i : Nat) (w : World) (cur : Array Value), Soft w b cur → off + i + vs.length ≤ cur.size → (∀ v ∈ vs, v.oneCell' = true) →
    ∃ w', (storeCells ⟨b, off, none⟩ vs i).run P w = .ok () w' ∧ Soft w' b (cur.toList.take (off + i) ++ vs ++ cur.toList.drop (off + i + vs.length)).toArray ∧ Turned b w w'
  | [], i, w, cur, hc, hf, h1 => ⟨w, rfl, by simpa using hc, Turned.refl b w⟩
  | v :: vs, i, w, cur, hc, hf, h1 => by
    simp only [List.length_cons] at hf
    obtain ⟨w', hr, hs, ht⟩ := run_storeCells_soft P b off vs (i + 1) (w.setCell ⟨b, off + i, none⟩ v) (cur.setIfInBounds (off + i) v) (hc.set (off + i) v) (by simp; omega) (fun u hu => h1 u (List.mem_cons_of_mem _ hu))
    refine ⟨w', ?_, ?_, (Turned.set w b (off + i) v).trans ht⟩
    · have hcell : w.cell? ⟨b, off + i, none⟩ = some (cur[off + i]'(by omega)) := by rw [hc.cell]; exact Array.getElem?_eq_getElem _
      have hfr : w.frozen? ⟨b, off + i, none⟩ = false := hc.frozen (by omega)
      simp only [storeCells, add_plain, Sem.run_bind, run_store P w _ v _ (h1 v (List.mem_cons_self ..)), hcell, hfr, Bool.false_eq_true, if_false, Result.andThen_ok]
      exact hr
    · have e : ((cur.setIfInBounds (off + i) v).toList.take (off + (i + 1)) ++ vs ++ (cur.setIfInBounds (off + i) v).toList.drop (off + (i + 1) + vs.length)) = cur.toList.take (off + i) ++ (v :: vs) ++ cur.toList.drop (off + i + (vs.length + 1)) := by
        rw [Array.toList_setIfInBounds]
        have hlt : off + i < cur.toList.length := by simp; omega
        rw [show off + (i + 1) = off + i + 1 by omega, List.take_succ_eq_append_getElem (by simpa using hlt)]
        rw [List.drop_set_of_lt (by omega), List.take_set_of_le (Nat.le_refl _)]
        simp only [List.getElem_set_self, List.append_assoc, List.cons_append, List.nil_append]
        congr 4
        omega
      rw [e] at hs
      exact hs

/-- Some cells of a list written anew. -/
def splice (xs : List AV) (o : Nat) (ys : List AV) : List AV := xs.take o ++ ys ++ xs.drop (o + ys.length)

theorem splice_length {xs ys : List AV} {o : Nat} (h : o + ys.length ≤ xs.length) : (splice xs o ys).length = xs.length := by
  simp [splice]; omega

theorem RepL.splice {G : Gh} {xs ys : List AV} {vs us : List Value} (h : RepL G xs vs) (h' : RepL G ys us) (o : Nat) : RepL G (splice xs o ys) (vs.take o ++ us ++ vs.drop (o + us.length)) := by
  rw [h'.length]
  exact ((h.take o).append h').append (h.drop _)

/-- The memory behind a store into variable s of frame l. -/
theorem MR.stored {G : Gh} {m : Mem} {w w' : World} (h : MR G m w) {l s b : Nat} {xs : List AV} (hx : look m l s = .cells xs) (hb : G.nm l s = some b) (ht : Turned b w w') {ys : List AV} {cs : Array Value} (hs : Soft w' b cs) (hy : RepL (G.dn l) ys cs.toList) :
    MR G (Am.put m l s (.cells ys)) w' where
  stab k o v e := by
    have hk : k ≠ b := by rintro rfl; rw [(h.nm l s k hb).2 o] at e; cases e
    rw [ht.cell hk]
    exact h.stab k o v e
  cells l' s' zs e := by
    by_cases hh : l' = l ∧ s' = s
    · obtain ⟨rfl, rfl⟩ := hh
      rw [look_put_same (look_lt (by rw [hx]; simp))] at e
      cases e
      exact ⟨b, cs, hb, hs, hy⟩
    · rw [look_put_ne (by omega)] at e
      obtain ⟨b', cs', e', hc, hr⟩ := h.cells l' s' zs e
      exact ⟨b', cs', e', hc.of (ht.heap b' (fun eb => hh (by subst eb; exact h.inj1 _ _ _ _ _ e' hb))), hr⟩
  nm l' s' b' e := by
    obtain ⟨⟨zs, hz⟩, h2⟩ := h.nm l' s' b' e
    refine ⟨?_, h2⟩
    by_cases hh : l' = l ∧ s' = s
    · obtain ⟨rfl, rfl⟩ := hh
      exact ⟨ys, look_put_same (look_lt (by rw [hx]; simp))⟩
    · exact ⟨zs, by rw [look_put_ne (by omega)]; exact hz⟩
  vec l' s' g sz zs e := by
    by_cases hh : l' = l ∧ s' = s
    · obtain ⟨rfl, rfl⟩ := hh
      rw [look_put_same (look_lt (by rw [hx]; simp))] at e
      cases e
    · rw [look_put_ne (by omega)] at e
      obtain ⟨a1, a2, a3, a4⟩ := h.vec l' s' g sz zs e
      refine ⟨a1, a2, a3, a4.imp id fun ⟨b', e', r⟩ => ⟨b', e', r.of (ht.heap b' ?_) fun _ h => h⟩⟩
      rintro rfl
      exact h.inj3 _ _ _ _ _ hb e'
  vm l' s' b' e := by
    obtain ⟨⟨g, sz, zs, hz⟩, h2⟩ := h.vm l' s' b' e
    refine ⟨?_, h2⟩
    by_cases hh : l' = l ∧ s' = s
    · obtain ⟨rfl, rfl⟩ := hh
      rw [hx] at hz; cases hz
    · exact ⟨g, sz, zs, by rw [look_put_ne (by omega)]; exact hz⟩
  gone l' s' e := by
    by_cases hh : l' = l ∧ s' = s
    · obtain ⟨rfl, rfl⟩ := hh
      exact h.gone l' s' (by rw [hx]; rfl)
    · rw [look_put_ne (by omega)] at e
      exact h.gone l' s' e
  inj1 := h.inj1
  inj2 := h.inj2
  inj3 := h.inj3

theorem Ext.turned {k : Nat} {G : Gh} {w w' : World} {b : Nat} (ht : Turned b w w') (hm : G.mine b) : Ext k G w G w' :=
  ⟨ht.os, ht.tape, ht.output, by rw [ht.size]; exact Nat.le_refl _, fun _ _ _ h => h, fun _ _ _ => rfl, fun _ _ => Nat.le_refl _, fun _ _ _ => ⟨rfl, rfl, rfl⟩,
    fun b' _ hn => ⟨ht.heap b' (fun e => hn (e ▸ hm)), fun _ => rfl⟩, fun _ h => .inl h, fun _ _ _ h => .inl h⟩

theorem look_scrub_zero {m : Mem} {s t : Nat} : look (scrubM s m) 0 t = (look m 0 t).scrub s := by
  cases m <;> rfl
theorem look_scrub_succ {m : Mem} {s l t : Nat} : look (scrubM s m) (l + 1) t = look m (l + 1) t := by
  cases m <;> rfl
theorem scrubM_ne {m : Mem} {s : Nat} (h : m ≠ []) : scrubM s m ≠ [] := by
  cases m with
  | nil => exact absurd rfl h
  | cons fr m => simp [scrubM]
theorem Ob.scrub_cells {o : Ob} {s : Nat} {xs : List AV} (h : o.scrub s = .cells xs) : ∃ ys, o = .cells ys ∧ xs = AV.scrubL s ys := by
  cases o <;> simp [Ob.scrub] at h
  exact ⟨_, rfl, h.symm⟩
theorem Ob.scrub_vec {o : Ob} {s g sz : Nat} {xs : List AV} (h : o.scrub s = .vec g sz xs) : o = .vec g sz xs := by
  cases o <;> simp [Ob.scrub] at h
  obtain ⟨rfl, rfl, rfl⟩ := h
  rfl

/-- The ghost behind a new variable s of the frame, in block b. -/
def Gh.fresh (G : Gh) (s b : Nat) : Gh :=
  { G with nm := fun l t => if l = 0 ∧ t = s then some b else G.nm l t }

theorem Gh.fresh_new (G : Gh) (s b : Nat) : Gnew s G (G.fresh s b) where
  stab _ _ _ h := h
  nm l t b' h e := by
    show (if l = 0 ∧ t = s then some b else G.nm l t) = some b'
    rw [if_neg (fun hh => h hh.1 hh.2)]; exact e
  vg l t := Nat.le_refl _
  vs l t e := ⟨rfl, rfl, rfl⟩

theorem Gh.fresh_dn (G : Gh) (s b l : Nat) : Gle (G.dn (l + 1)) ((G.fresh s b).dn (l + 1)) where
  stab _ _ _ h := h
  nm i t b' e := by
    show (if i + (l + 1) = 0 ∧ t = s then some b else G.nm (i + (l + 1)) t) = some b'
    rw [if_neg (by omega)]; exact e
  vg i t := Nat.le_refl _
  vs i t e := ⟨rfl, rfl, rfl⟩

/-- No row lies at site s of the frame. -/
def noRow (m : Mem) (s : Nat) : Bool :=
  match look m 0 s with
  | .vec .. => false
  | _ => true

theorem Rel.fresh {G : Gh} {B N : Nat} {st : St} {a : Act} {w : World} (h : Rel G B N st a w) (s : Nat) (hrow : noRow st.m s = true) {l : List AV} {cs : Array Value} (hl : RepL G l cs.toList) (t : TypeId) :
    Rel (G.fresh s w.heap.size) B N (st.fresh s l) a (w.alloc (.cells cs t)) ∧ Ext 1 G w (G.fresh s w.heap.size) (w.alloc (.cells cs t)) := by
  have hnew := Gh.fresh_new G s w.heap.size
  have hold : ∀ k, k < w.heap.size → (w.alloc (.cells cs t)).heap[k]? = w.heap[k]? := fun k hk => RowKit.Below.heap_alloc w _ k hk
  have hnm : ∀ l' s' b', (G.fresh s w.heap.size).nm l' s' = some b' → (l' = 0 ∧ s' = s ∧ b' = w.heap.size) ∨ (¬ (l' = 0 ∧ s' = s) ∧ G.nm l' s' = some b' ∧ b' < w.heap.size) := by
    intro l' s' b' e
    simp only [Gh.fresh] at e
    split at e
    · rename_i hh; cases e; exact .inl ⟨hh.1, hh.2, rfl⟩
    · rename_i hh; exact .inr ⟨hh, e, (h.mr.mine (.inl ⟨_, _, e⟩)).1⟩
  have hvm : ∀ l' s' b', (G.fresh s w.heap.size).vm l' s' = some b' → ¬ (l' = 0 ∧ s' = s) ∧ G.vm l' s' = some b' ∧ b' < w.heap.size := by
    intro l' s' b' e
    have e : G.vm l' s' = some b' := e
    refine ⟨?_, e, (h.mr.mine (.inr ⟨_, _, e⟩)).1⟩
    rintro ⟨rfl, rfl⟩
    obtain ⟨⟨g, sz, xs, hx⟩, _⟩ := h.mr.vm 0 s' b' e
    simp [noRow, hx] at hrow
  have hst : ∀ o, G.stab w.heap.size o = none := by
    intro o
    cases hs : G.stab w.heap.size o with
    | none => rfl
    | some v =>
      have := h.mr.stab _ _ _ hs
      have := World.block_lt_of_cell? w _ this
      simp at this
  have hlook : ∀ l' s', ¬ (l' = 0 ∧ s' = s) → look (st.fresh s l).m l' s' = if l' = 0 then (look st.m l' s').scrub s else look st.m l' s' := by
    intro l' s' hh
    show look (Am.put (scrubM s st.m) 0 s _) l' s' = _
    rw [look_put_ne (by omega)]
    cases l' with
    | zero => rw [look_scrub_zero]; rfl
    | succ l' => rw [look_scrub_succ]; rfl
  have hlook0 : look (st.fresh s l).m 0 s = .cells (AV.scrubL s l) := by
    show look (Am.put (scrubM s st.m) 0 s _) 0 s = _
    refine look_put_same ?_
    have := scrubM_ne (s := s) h.ne
    cases hm : scrubM s st.m with
    | nil => exact absurd hm this
    | cons _ _ => simp
  refine ⟨⟨⟨?_, ?_, ?_, ?_, ?_, ?_, ?_, ?_, ?_⟩, h.size, fun i => (h.slots i).scrub hnew, h.ds.scrub hnew, ?_, ?_, put_ne (scrubM_ne h.ne)⟩, ?_⟩
  · intro b o v e
    have hlt := World.block_lt_of_cell? w _ (h.mr.stab b o v e)
    rw [World.cell?_alloc_lt w _ _ hlt]
    exact h.mr.stab b o v e
  · intro l' s' zs e
    by_cases hh : l' = 0 ∧ s' = s
    · obtain ⟨rfl, rfl⟩ := hh
      rw [hlook0] at e
      cases e
      exact ⟨w.heap.size, cs, by simp [Gh.fresh], Soft.new w cs t, hl.scrub hnew⟩
    · rw [hlook l' s' hh] at e
      cases l' with
      | zero =>
        rw [if_pos rfl] at e
        obtain ⟨ys, e1, rfl⟩ := Ob.scrub_cells e
        obtain ⟨b', cs', e', hc, hr⟩ := h.mr.cells 0 s' ys e1
        exact ⟨b', cs', (if_neg (t := some w.heap.size) hh).trans e', hc.of (hold _ hc.lt), hr.scrub hnew⟩
      | succ l' =>
        rw [if_neg (by omega)] at e
        obtain ⟨b', cs', e', hc, hr⟩ := h.mr.cells (l' + 1) s' zs e
        exact ⟨b', cs', (if_neg (t := some w.heap.size) hh).trans e', hc.of (hold _ hc.lt), hr.mono (Gh.fresh_dn G s _ l')⟩
  · intro l' s' b' e
    rcases hnm l' s' b' e with ⟨rfl, rfl, rfl⟩ | ⟨hh, e', hlt⟩
    · exact ⟨⟨_, hlook0⟩, hst⟩
    · obtain ⟨⟨zs, hz⟩, h2⟩ := h.mr.nm l' s' b' e'
      refine ⟨?_, h2⟩
      rw [hlook l' s' hh, hz]
      cases l' with
      | zero => exact ⟨_, rfl⟩
      | succ l' => exact ⟨_, rfl⟩
  · intro l' s' g sz zs e
    by_cases hh : l' = 0 ∧ s' = s
    · obtain ⟨rfl, rfl⟩ := hh
      rw [hlook0] at e
      cases e
    · rw [hlook l' s' hh] at e
      have e1 : look st.m l' s' = .vec g sz zs := by
        cases l' with
        | zero => rw [if_pos rfl] at e; exact Ob.scrub_vec e
        | succ l' => rwa [if_neg (by omega)] at e
      obtain ⟨a1, a2, a3, a4⟩ := h.mr.vec l' s' g sz zs e1
      refine ⟨a1, a2, a3, a4.imp id fun ⟨b', e', r⟩ => ⟨b', e', r.of (hold _ ?_) fun vs hv => RepL.rfd (G := G) (G' := G.fresh s w.heap.size) (fun _ _ _ h => h) a3.rf hv⟩⟩
      exact (h.mr.mine (.inr ⟨_, _, e'⟩)).1
  · intro l' s' b' e
    obtain ⟨hh, e', hlt⟩ := hvm l' s' b' e
    obtain ⟨⟨g, sz, zs, hz⟩, h2⟩ := h.mr.vm l' s' b' e'
    refine ⟨?_, h2⟩
    rw [hlook l' s' hh, hz]
    cases l' with
    | zero => exact ⟨_, _, _, rfl⟩
    | succ l' => exact ⟨_, _, _, rfl⟩
  · intro l' s' e
    by_cases hh : l' = 0 ∧ s' = s
    · obtain ⟨rfl, rfl⟩ := hh
      refine h.mr.gone 0 s' ?_
      revert hrow
      unfold noRow
      cases look st.m 0 s' <;> intro hrow <;> first | rfl | cases hrow
    · rw [hlook l' s' hh] at e
      refine h.mr.gone l' s' ?_
      cases l' with
      | zero =>
        rw [if_pos rfl] at e
        cases hl' : look st.m 0 s' <;> rw [hl'] at e <;> first | rfl | cases e
      | succ l' => rwa [if_neg (by omega)] at e
  · intro l1 s1 l2 s2 b' e1 e2
    rcases hnm l1 s1 b' e1 with ⟨rfl, rfl, rfl⟩ | ⟨hh, e', hlt⟩ <;> rcases hnm l2 s2 _ e2 with ⟨rfl, rfl, hb⟩ | ⟨hh2, e2', hlt2⟩
    · exact ⟨rfl, rfl⟩
    · omega
    · omega
    · exact h.mr.inj1 _ _ _ _ _ e' e2'
  · intro l1 s1 l2 s2 b' e1 e2
    exact h.mr.inj2 _ _ _ _ _ (hvm _ _ _ e1).2.1 (hvm _ _ _ e2).2.1
  · intro l1 s1 l2 s2 b' e1 e2
    obtain ⟨_, e2', hlt⟩ := hvm _ _ _ e2
    rcases hnm l1 s1 b' e1 with ⟨rfl, rfl, rfl⟩ | ⟨hh, e', _⟩
    · omega
    · exact h.mr.inj3 _ _ _ _ _ e' e2'
  · intro s' b' e
    rcases e with e | e
    · rcases hnm 0 s' b' e with ⟨_, _, rfl⟩ | ⟨_, e', _⟩
      · exact h.top
      · exact h.base s' b' (.inl e')
    · exact h.base s' b' (.inr (hvm _ _ _ e).2.1)
  · have := h.top; simp; omega
  · refine ⟨rfl, rfl, rfl, by simp, fun _ _ _ h => h, fun l' s' hl' => ?_, hnew.vg, hnew.vs, fun b hb _ => ⟨hold b hb, fun _ => rfl⟩, fun b hb => ?_, fun _ _ _ h => .inl h⟩
    · simp only [Gh.fresh]; rw [if_neg (by omega)]
    · rcases hb with ⟨l', s', e⟩ | ⟨l', s', e⟩
      · rcases hnm l' s' b e with ⟨_, _, rfl⟩ | ⟨_, e', _⟩
        · exact .inr (Nat.le_refl _)
        · exact .inl (.inl ⟨_, _, e'⟩)
      · exact .inl (.inr ⟨_, _, (hvm _ _ _ e).2.1⟩)

end Go.Proofs.Ytbalffclojdmhaa.Am

/- Loads, stores, new variables. -/
import Derived.Test.YtcmdlmcmefbkeaaAmc
namespace Go.Proofs.Ytcmdlmcmefbkeaa.Am
open Go

theorem add_plain (b o i : Nat) : (⟨b, o, none⟩ : Addr).add i = ⟨b, o + i, none⟩ := by
  unfold Addr.add
  split
  · rename_i h; subst h; rfl
  · rfl

def AV.shNL : Nat → List AV → List AV
  | 0, x => x
  | n + 1, x => AV.shL (AV.shNL n x)

theorem RepL.shNL (n : Nat) : ∀ {G : Gh} {x : List AV} {v : List Value}, RepL (G.dn n) x v → RepL G (AV.shNL n x) v := by
  induction n with
  | zero => intro G x v h; exact h
  | succ n ih =>
    intro G x v h
    show RepL G (AV.shL (AV.shNL n x)) v
    refine RepL.sh (ih ?_)
    rw [Gh.dn_dn]
    exact h

def AV.unNL : Nat → List AV → Option (List AV)
  | 0, x => some x
  | n + 1, x => (AV.unL x).bind (AV.unNL n)

theorem RepL.unNL (n : Nat) : ∀ {G : Gh} {x y : List AV} {v : List Value}, RepL G x v → AV.unNL n x = some y → RepL (G.dn n) y v := by
  induction n with
  | zero => intro G x y v h e; cases e; exact h
  | succ n ih =>
    intro G x y v h e
    simp only [AV.unNL, Option.bind_eq_some_iff] at e
    obtain ⟨z, e1, e2⟩ := e
    have := ih (h.un z e1) e2
    rw [Gh.dn_dn] at this
    exact this

theorem AV.unL_length : ∀ {x y : List AV}, AV.unL x = some y → y.length = x.length
  | [], y, e => by cases e; rfl
  | x :: l, y, e => by
      simp only [AV.unL] at e
      split at e
      · rename_i a b ea eb
        cases e
        simp [AV.unL_length eb]
      · cases e
theorem AV.unNL_length (n : Nat) : ∀ {x y : List AV}, AV.unNL n x = some y → y.length = x.length := by
  induction n with
  | zero => intro x y e; cases e; rfl
  | succ n ih =>
    intro x y e
    simp only [AV.unNL, Option.bind_eq_some_iff] at e
    obtain ⟨z, e1, e2⟩ := e
    rw [ih e2, AV.unL_length e1]

theorem Rep.cells_leaf {G : Gh} {x : AV} {v : Value} (h : Rep G x v) (hl : x.leaf = true) : v.cells = #[v] := by
  have := h.leaf hl
  cases v <;> first | rfl | (simp [Value.oneCell'] at this)

/-- The cells of a value are those of its reading. -/
theorem Rep.cells {G : Gh} {x : AV} {v : Value} (h : Rep G x v) (hl : x.cells.all AV.leaf = true) : RepL G x.cells v.cells.toList := by
  cases h with
  | agg h => exact h
  | top => simp [AV.cells, AV.leaf] at hl
  | tup => simp [AV.cells, AV.leaf] at hl
  | vec hv hg h =>
    have e := Rep.cells_leaf (Rep.vec hv hg h) rfl
    rw [e]; exact .cons (.vec hv hg h) .nil
  | vptr hv hg h =>
    have e := Rep.cells_leaf (Rep.vptr hv hg h) rfl
    rw [e]; exact .cons (.vptr hv hg h) .nil
  | int => exact .cons (.int _ _) .nil
  | bool => exact .cons (.bool _) .nil
  | str => exact .cons (.str _) .nil
  | nils => exact .cons .nils .nil
  | nilp => exact .cons .nilp .nil
  | nilf => exact .cons .nilf .nil
  | nili => exact .cons .nili .nil
  | nilm => exact .cons .nilm .nil
  | anyp p => exact .cons (.anyp p) .nil
  | list a b c d e f g i => exact .cons (.list a b c d e f g i) .nil
  | iface h => exact .cons (.iface h) .nil
  | fn a b => exact .cons (.fn a b) .nil
  | ptr h => exact .cons (.ptr h) .nil
  | rptr a b c d => exact .cons (.rptr a b c d) .nil

theorem RepL.leaves {G : Gh} {l : List AV} {vs : List Value} (h : RepL G l vs) (hl : l.all AV.leaf = true) : ∀ v ∈ vs, v.oneCell' = true := by
  intro v hv
  obtain ⟨i, hi⟩ := List.mem_iff_getElem?.1 hv
  obtain ⟨x, hx, r⟩ := h.back hi
  exact r.leaf (List.all_eq_true.1 hl x (List.mem_of_getElem? hx))

/-- Block b alone may have turned. -/
structure Turned (b : Nat) (w w' : World) : Prop where
  os : w'.os = w.os
  tape : w'.tape = w.tape
  output : w'.output = w.output
  size : w'.heap.size = w.heap.size
  heap : ∀ k, k ≠ b → w'.heap[k]? = w.heap[k]?

theorem Turned.refl (b : Nat) (w : World) : Turned b w w := ⟨rfl, rfl, rfl, rfl, fun _ _ => rfl⟩
theorem Turned.trans {b : Nat} {w w1 w2 : World} (h : Turned b w w1) (j : Turned b w1 w2) : Turned b w w2 :=
  ⟨j.os.trans h.os, j.tape.trans h.tape, j.output.trans h.output, j.size.trans h.size, fun k hk => (j.heap k hk).trans (h.heap k hk)⟩
theorem Turned.set (w : World) (b i : Nat) (v : Value) : Turned b w (w.setCell ⟨b, i, none⟩ v) :=
  ⟨rfl, rfl, rfl, by simp, fun k hk => by
    simp only [World.setCell, Array.getElem?_modify]
    rw [if_neg (fun e => hk e.symm)]⟩
theorem Turned.cell {b : Nat} {w w' : World} (h : Turned b w w') {k : Nat} (hk : k ≠ b) (o : Nat) : w'.cell? ⟨k, o, none⟩ = w.cell? ⟨k, o, none⟩ :=
  World.cell?_of_block (a := ⟨k, o, none⟩) (h.heap k hk)

theorem run_storeCells_soft (P : Program) (s b off : Nat) : ∀ (vs : List Value) (i : Nat) (w : World) (cur : Array Value), Soft s w b cur → off + i + vs.length ≤ cur.size → (∀ v ∈ vs, v.oneCell' = true) →
    ∃ w', (storeCells ⟨b, off, none⟩ vs i).run P w = .ok () w' ∧ Soft s w' b (cur.toList.take (off + i) ++ vs ++ cur.toList.drop (off + i + vs.length)).toArray ∧ Turned b w w'
  | [], i, w, cur, hc, hf, h1 => ⟨w, rfl, by simpa using hc, Turned.refl b w⟩
  | v :: vs, i, w, cur, hc, hf, h1 => by
    simp only [List.length_cons] at hf
    obtain ⟨w', hr, hs, ht⟩ := run_storeCells_soft P s b off vs (i + 1) (w.setCell ⟨b, off + i, none⟩ v) (cur.setIfInBounds (off + i) v) (hc.set (off + i) v) (by simp; omega) (fun u hu => h1 u (List.mem_cons_of_mem _ hu))
    refine ⟨w', ?_, ?_, (Turned.set w b (off + i) v).trans ht⟩
    · have hcell : w.cell? ⟨b, off + i, none⟩ = some (cur[off + i]'(by omega)) := by rw [hc.cell]; exact Array.getElem?_eq_getElem _
      have hfr : w.frozen? ⟨b, off + i, none⟩ = false := hc.frozen (by omega)
      simp only [storeCells, add_plain, Sem.run_bind, run_store P w _ v _ (h1 v (List.mem_cons_self ..)), hcell, hfr, Bool.false_eq_true, if_false, Result.andThen_ok]
      exact hr
    · have e : ((cur.setIfInBounds (off + i) v).toList.take (off + (i + 1)) ++ vs ++ (cur.setIfInBounds (off + i) v).toList.drop (off + (i + 1) + vs.length)) = cur.toList.take (off + i) ++ (v :: vs) ++ cur.toList.drop (off + i + (vs.length + 1)) := by
        rw [Array.toList_setIfInBounds]
        have hlt : off + i < cur.toList.length := by simp; omega
        rw [show off + (i + 1) = off + i + 1 by omega, List.take_succ_eq_append_getElem (by simpa using hlt)]
        rw [List.drop_set_of_lt (by omega), List.take_set_of_le (Nat.le_refl _)]
        simp only [List.getElem_set_self, List.append_assoc, List.cons_append, List.nil_append]
        congr 4
        omega
      rw [e] at hs
      exact hs

/-- Some cells of a list written anew. -/
def splice (xs : List AV) (o : Nat) (ys : List AV) : List AV := xs.take o ++ ys ++ xs.drop (o + ys.length)

theorem splice_length {xs ys : List AV} {o : Nat} (h : o + ys.length ≤ xs.length) : (splice xs o ys).length = xs.length := by
  simp [splice]; omega

theorem RepL.splice {G : Gh} {xs ys : List AV} {vs us : List Value} (h : RepL G xs vs) (h' : RepL G ys us) (o : Nat) : RepL G (splice xs o ys) (vs.take o ++ us ++ vs.drop (o + us.length)) := by
  rw [h'.length]
  exact ((h.take o).append h').append (h.drop _)

/-- The memory behind a store into variable s of frame l. -/
theorem MR.stored {G : Gh} {m : Mem} {w w' : World} (h : MR G m w) {l s b : Nat} {xs : List AV} (hx : look m l s = .cells xs) (hb : G.nm l s = some b) (ht : Turned b w w') {ys : List AV} {cs : Array Value} (hs : Soft s w' b cs) (hy : RepL (G.dn l) ys cs.toList) :
    MR G (Am.put m l s (.cells ys)) w' where
  stab k o v e := by
    have hk : k ≠ b := by rintro rfl; rw [(h.nm l s k hb).2 o] at e; cases e
    rw [ht.cell hk]
    exact h.stab k o v e
  cells l' s' zs e := by
    by_cases hh : l' = l ∧ s' = s
    · obtain ⟨rfl, rfl⟩ := hh
      rw [look_put_same (look_lt (by rw [hx]; simp))] at e
      cases e
      exact ⟨b, cs, hb, hs, hy⟩
    · rw [look_put_ne (by omega)] at e
      obtain ⟨b', cs', e', hc, hr⟩ := h.cells l' s' zs e
      exact ⟨b', cs', e', hc.of (ht.heap b' (fun eb => hh (by subst eb; exact h.inj1 _ _ _ _ _ e' hb))), hr⟩
  nm l' s' b' e := by
    obtain ⟨⟨zs, hz⟩, h2⟩ := h.nm l' s' b' e
    refine ⟨?_, h2⟩
    by_cases hh : l' = l ∧ s' = s
    · obtain ⟨rfl, rfl⟩ := hh
      exact ⟨ys, look_put_same (look_lt (by rw [hx]; simp))⟩
    · exact ⟨zs, by rw [look_put_ne (by omega)]; exact hz⟩
  vec l' s' g sz zs e := by
    by_cases hh : l' = l ∧ s' = s
    · obtain ⟨rfl, rfl⟩ := hh
      rw [look_put_same (look_lt (by rw [hx]; simp))] at e
      cases e
    · rw [look_put_ne (by omega)] at e
      obtain ⟨a1, a2, a3, a4⟩ := h.vec l' s' g sz zs e
      refine ⟨a1, a2, a3, a4.imp id fun ⟨b', e', r⟩ => ⟨b', e', r.of (ht.heap b' ?_) fun _ h => h⟩⟩
      rintro rfl
      exact h.inj3 _ _ _ _ _ hb e'
  vm l' s' b' e := by
    obtain ⟨⟨g, sz, zs, hz⟩, h2⟩ := h.vm l' s' b' e
    refine ⟨?_, h2⟩
    by_cases hh : l' = l ∧ s' = s
    · obtain ⟨rfl, rfl⟩ := hh
      rw [hx] at hz; cases hz
    · exact ⟨g, sz, zs, by rw [look_put_ne (by omega)]; exact hz⟩
  gone l' s' e := by
    by_cases hh : l' = l ∧ s' = s
    · obtain ⟨rfl, rfl⟩ := hh
      exact h.gone l' s' (by rw [hx]; rfl)
    · rw [look_put_ne (by omega)] at e
      exact h.gone l' s' e
  inj1 := h.inj1
  inj2 := h.inj2
  inj3 := h.inj3

theorem Ext.turned {k : Nat} {G : Gh} {w w' : World} {b : Nat} (ht : Turned b w w') (hm : G.mine b) : Ext k G w G w' :=
  ⟨ht.os, ht.tape, ht.output, by rw [ht.size]; exact Nat.le_refl _, fun _ _ _ h => h, fun _ _ _ => rfl, fun _ _ => Nat.le_refl _, fun _ _ _ => ⟨rfl, rfl, rfl⟩,
    fun b' _ hn => ⟨ht.heap b' (fun e => hn (e ▸ hm)), fun _ => rfl⟩, fun _ h => .inl h, fun _ _ _ h => .inl h⟩

theorem look_scrub_zero {m : Mem} {s t : Nat} : look (scrubM s m) 0 t = (look m 0 t).scrub s := by
  cases m <;> rfl
theorem look_scrub_succ {m : Mem} {s l t : Nat} : look (scrubM s m) (l + 1) t = look m (l + 1) t := by
  cases m <;> rfl
theorem scrubM_ne {m : Mem} {s : Nat} (h : m ≠ []) : scrubM s m ≠ [] := by
  cases m with
  | nil => exact absurd rfl h
  | cons fr m => simp [scrubM]
theorem Ob.scrub_cells {o : Ob} {s : Nat} {xs : List AV} (h : o.scrub s = .cells xs) : ∃ ys, o = .cells ys ∧ xs = AV.scrubL s ys := by
  cases o <;> simp [Ob.scrub] at h
  exact ⟨_, rfl, h.symm⟩
theorem Ob.scrub_vec {o : Ob} {s g sz : Nat} {xs : List AV} (h : o.scrub s = .vec g sz xs) : o = .vec g sz xs := by
  cases o <;> simp [Ob.scrub] at h
  obtain ⟨rfl, rfl, rfl⟩ := h
  rfl

/-- The ghost behind a new variable s of the frame, in block b. -/
def Gh.fresh (G : Gh) (s b : Nat) : Gh :=
  { G with nm := fun l t => if l = 0 ∧ t = s then some b else G.nm l t }

theorem Gh.fresh_new (G : Gh) (s b : Nat) : Gnew s G (G.fresh s b) where
  stab _ _ _ h := h
  nm l t b' h e := by
    show (if l = 0 ∧ t = s then some b else G.nm l t) = some b'
    rw [if_neg (fun hh => h hh.1 hh.2)]; exact e
  vg l t := Nat.le_refl _
  vs l t e := ⟨rfl, rfl, rfl⟩

theorem Gh.fresh_dn (G : Gh) (s b l : Nat) : Gle (G.dn (l + 1)) ((G.fresh s b).dn (l + 1)) where
  stab _ _ _ h := h
  nm i t b' e := by
    show (if i + (l + 1) = 0 ∧ t = s then some b else G.nm (i + (l + 1)) t) = some b'
    rw [if_neg (by omega)]; exact e
  vg i t := Nat.le_refl _
  vs i t e := ⟨rfl, rfl, rfl⟩

/-- No row lies at site s of the frame. -/
def noRow (m : Mem) (s : Nat) : Bool :=
  match look m 0 s with
  | .vec .. => false
  | _ => true

end Go.Proofs.Ytcmdlmcmefbkeaa.Am

/- Rows that grow: what making one and appending to one do to a state. -/
import Derived.Test.YtcmdlmcmefbkeaaAmi
import Derived.Deep.AppendSrc
namespace Go.Proofs.Ytcmdlmcmefbkeaa.Am
open Go

/-- The ghost behind a row s of frame l made anew, or moved. -/
def Gh.row (G : Gh) (l s : Nat) (b : Option Nat) (cap g sz : Nat) : Gh :=
  { G with vm := fun i t => if i = l ∧ t = s then b else G.vm i t, vc := fun i t => if i = l ∧ t = s then cap else G.vc i t,
           vg := fun i t => if i = l ∧ t = s then g else G.vg i t, vz := fun i t => if i = l ∧ t = s then sz else G.vz i t }

theorem Gh.row_gle {G : Gh} {l s cap g sz : Nat} {b : Option Nat} (hg : G.vg l s < g) : Gle G (G.row l s b cap g sz) where
  stab _ _ _ h := h
  nm _ _ _ h := h
  vg i t := by
    show G.vg i t ≤ if i = l ∧ t = s then g else G.vg i t
    split
    · rename_i h; obtain ⟨rfl, rfl⟩ := h; omega
    · exact Nat.le_refl _
  vs i t e := by
    by_cases h : i = l ∧ t = s
    · obtain ⟨rfl, rfl⟩ := h
      simp only [Gh.row, and_self, if_true] at e
      omega
    · simp only [Gh.row, if_neg h, and_self]

/-- No variable lies there. -/
def rowOrNone (o : Ob) : Bool :=
  match o with
  | .cells _ => false
  | _ => true

theorem MR.vecput {G : Gh} {m : Mem} {w w' : World} (h : MR G m w) {l s g sz cap : Nat} {b : Option Nat} {ys : List AV} (hl : l < m.length) (ho : rowOrNone (look m l s) = true) (hg : G.vg l s < g)
    (hkeep : ∀ k, k < w.heap.size → some k ≠ G.vm l s → w'.heap[k]? = w.heap[k]?) (hb : ∀ k, b = some k → G.vm l s = some k ∨ w.heap.size ≤ k) (hel : Elems sz ys)
    (hrow : (b = none ∧ ys = []) ∨ ∃ k, b = some k ∧ RowIs G s w' k cap sz ys) : MR (G.row l s b cap g sz) (Am.put m l s (.vec g sz ys)) w' := by
  have hgle := Gh.row_gle (b := b) (cap := cap) (sz := sz) hg
  have hst : ∀ k o v, G.stab k o = some v → k < w.heap.size ∧ some k ≠ G.vm l s := by
    intro k o v e
    refine ⟨World.block_lt_of_cell? w (a := ⟨k, o, none⟩) (h.stab k o v e), fun e' => ?_⟩
    rw [(h.vm l s k e'.symm).2 o] at e
    cases e
  have hnew : ∀ k o, b = some k → G.stab k o = none := by
    intro k o e
    rcases hb k e with e' | e'
    · exact (h.vm l s k e').2 o
    · cases hs : G.stab k o with
      | none => rfl
      | some v => have := (hst k o v hs).1; omega
  have hnm : ∀ l' s' k, G.nm l' s' = some k → k < w.heap.size ∧ some k ≠ G.vm l s := by
    intro l' s' k e
    exact ⟨(h.mine (.inl ⟨_, _, e⟩)).1, fun e' => h.inj3 _ _ _ _ _ e e'.symm⟩
  have hvm : ∀ l' s' k, ¬ (l' = l ∧ s' = s) → G.vm l' s' = some k → k < w.heap.size ∧ some k ≠ G.vm l s := by
    intro l' s' k hh e
    exact ⟨(h.mine (.inr ⟨_, _, e⟩)).1, fun e' => hh (h.inj2 _ _ _ _ _ e e'.symm)⟩
  refine ⟨fun k o v e => ?_, fun l' s' zs e => ?_, fun l' s' k e => ?_, fun l' s' g' z zs e => ?_, fun l' s' k e => ?_, fun l' s' e => ?_, h.inj1, fun l1 s1 l2 s2 k e1 e2 => ?_, fun l1 s1 l2 s2 k e1 e2 => ?_⟩
  · obtain ⟨h1, h2⟩ := hst k o v e
    rw [World.cell?_of_block (a := ⟨k, o, none⟩) (hkeep k h1 h2)]
    exact h.stab k o v e
  · by_cases hh : l' = l ∧ s' = s
    · obtain ⟨rfl, rfl⟩ := hh
      rw [look_put_same hl] at e; cases e
    · rw [look_put_ne (by omega)] at e
      obtain ⟨k, cs, e', hc, hr⟩ := h.cells l' s' zs e
      obtain ⟨h1, h2⟩ := hnm _ _ _ e'
      exact ⟨k, cs, e', hc.of (hkeep k h1 h2), hr.mono (hgle.dn l')⟩
  · obtain ⟨⟨zs, hz⟩, h2⟩ := h.nm l' s' k e
    refine ⟨⟨zs, ?_⟩, h2⟩
    rw [look_put_ne ?_]
    · exact hz
    · by_cases hh : l' = l ∧ s' = s
      · obtain ⟨rfl, rfl⟩ := hh
        rw [hz] at ho; cases ho
      · omega
  · by_cases hh : l' = l ∧ s' = s
    · obtain ⟨rfl, rfl⟩ := hh
      rw [look_put_same hl] at e
      cases e
      simp only [Gh.row, and_self, if_true]
      refine ⟨trivial, trivial, hel, hrow.imp id fun ⟨k, e, r⟩ => ⟨k, e, r.of rfl fun vs hv => RepL.rfd (G := G) (G' := G.row l' s' b cap g sz) (fun _ _ _ h => h) hel.rf hv⟩⟩
    · rw [look_put_ne (by omega)] at e
      obtain ⟨a1, a2, a3, a4⟩ := h.vec l' s' g' z zs e
      simp only [Gh.row, if_neg hh]
      refine ⟨a1, a2, a3, a4.imp id fun ⟨k, e', r⟩ => ⟨k, e', r.of (hkeep k ?_ ?_) fun vs hv => RepL.rfd (G := G) (G' := G.row l s b cap g sz) (fun _ _ _ h => h) a3.rf hv⟩⟩
      · exact (hvm _ _ _ hh e').1
      · exact (hvm _ _ _ hh e').2
  · by_cases hh : l' = l ∧ s' = s
    · obtain ⟨rfl, rfl⟩ := hh
      simp only [Gh.row, and_self, if_true] at e
      exact ⟨⟨g, sz, ys, look_put_same hl⟩, fun o => hnew k o e⟩
    · simp only [Gh.row, if_neg hh] at e
      obtain ⟨⟨g', z, zs, hz⟩, h2⟩ := h.vm l' s' k e
      exact ⟨⟨g', z, zs, by rw [look_put_ne (by omega)]; exact hz⟩, h2⟩
  · by_cases hh : l' = l ∧ s' = s
    · obtain ⟨rfl, rfl⟩ := hh
      rw [look_put_same hl] at e; cases e
    · rw [look_put_ne (by omega)] at e
      simp only [Gh.row, if_neg hh]
      exact h.gone l' s' e
  · simp only [Gh.row] at e1 e2
    split at e1 <;> split at e2
    · rename_i h1 h2; exact ⟨h1.1.trans h2.1.symm, h1.2.trans h2.2.symm⟩
    · rename_i h1 h2
      obtain ⟨h3, h4⟩ := hvm _ _ _ h2 e2
      rcases hb k e1 with e' | e'
      · exact absurd e'.symm h4
      · omega
    · rename_i h1 h2
      obtain ⟨h3, h4⟩ := hvm _ _ _ h1 e1
      rcases hb k e2 with e' | e'
      · exact absurd e'.symm h4
      · omega
    · exact h.inj2 _ _ _ _ _ e1 e2
  · simp only [Gh.row] at e2
    obtain ⟨h3, h4⟩ := hnm _ _ _ e1
    split at e2
    · rcases hb k e2 with e' | e'
      · exact h4 e'.symm
      · omega
    · exact h.inj3 _ _ _ _ _ e1 e2

theorem Rel.vecput {G : Gh} {B N : Nat} {st : St} {a : Act} {w w' : World} (h : Rel G B N st a w) {l s g sz cap : Nat} {b : Option Nat} {ys : List AV} (hl : l < st.m.length) (ho : rowOrNone (look st.m l s) = true) (hg : G.vg l s < g)
    (hos : w'.os = w.os) (htape : w'.tape = w.tape) (hout : w'.output = w.output) (hsize : w.heap.size ≤ w'.heap.size)
    (hkeep : ∀ k, k < w.heap.size → some k ≠ G.vm l s → w'.heap[k]? = w.heap[k]?) (hb : ∀ k, b = some k → G.vm l s = some k ∨ w.heap.size ≤ k) (hel : Elems sz ys)
    (hrow : (b = none ∧ ys = []) ∨ ∃ k, b = some k ∧ RowIs G s w' k cap sz ys) :
    Rel (G.row l s b cap g sz) B N { st with m := Am.put st.m l s (.vec g sz ys) } a w' ∧ Ext 1 G w (G.row l s b cap g sz) w' := by
  have hgle := Gh.row_gle (b := b) (cap := cap) (sz := sz) hg
  refine ⟨⟨h.mr.vecput hl ho hg hkeep hb hel hrow, h.size, fun i => (h.slots i).mono hgle, h.ds.mono hgle, fun s' k e => ?_, Nat.le_trans h.top hsize, put_ne h.ne⟩, ⟨hos, htape, hout, hsize, fun _ _ _ h => h, fun _ _ _ => rfl, hgle.vg, hgle.vs, fun k hk hm => ⟨hkeep k hk fun e => hm (.inr ⟨l, s, e.symm⟩), fun _ => rfl⟩, fun k hk => ?_, fun i t k e => ?_⟩⟩
  · rcases e with e | e
    · exact h.base s' k (.inl e)
    · simp only [Gh.row] at e
      split at e
      · rename_i hh
        rcases hb k e with e' | e'
        · exact h.base s k (.inr (by rw [hh.1]; exact e'))
        · exact Nat.le_trans h.top e'
      · exact h.base s' k (.inr e)
  · rcases hk with ⟨i, t, e⟩ | ⟨i, t, e⟩
    · exact .inl (.inl ⟨i, t, e⟩)
    · simp only [Gh.row] at e
      split at e
      · rcases hb k e with e' | e'
        · exact .inl (.inr ⟨_, _, e'⟩)
        · exact .inr e'
      · exact .inl (.inr ⟨i, t, e⟩)
  · simp only [Gh.row] at e
    split at e
    · rename_i hh
      rcases hb k e with e' | e'
      · exact .inl (by rw [hh.1, hh.2]; exact e')
      · exact .inr e'
    · exact .inl e

/-- The generation of a row that is made anew at site s of frame l. -/
def newGen (m : Mem) (l s : Nat) : Nat :=
  match look m l s with
  | .vec g _ _ => g + 1
  | _ => 1

theorem newGen_lt {G : Gh} {m : Mem} {w : World} (h : MR G m w) {l s : Nat} (ho : rowOrNone (look m l s) = true) : G.vg l s < newGen m l s := by
  unfold newGen
  split
  · rename_i g z xs e
    rw [(h.vec l s g z xs e).1]; omega
  · rename_i hn
    have : look m l s = .none := by
      cases hlk : look m l s with
      | none => rfl
      | cells xs => rw [hlk] at ho; cases ho
      | vec g z xs => exact absurd hlk (hn g z xs)
    rw [h.gone l s (by rw [this]; rfl)]; omega

/-- append, where the row is ours: the elements known, whatever the tape says. -/
theorem run_append_soft {P : Program} {s : Nat} {w : World} {t tx ty e : TypeId} (hty : tyOk s e = true) {i : TypeInfo} {z : Value} (ht : P.underlying t = some (.slice e)) (hi : P.info? e = some i) (hz : i.zero = some z) (hzs : z.cells.size = i.size)
    {v : Value} {n cap : Nat} {xs : List Value} (hv : (v = .slice none 0 0 ∧ n = 0 ∧ xs = []) ∨ ∃ b cur, v = .slice (some ⟨b, 0, none⟩) n cap ∧ Soft s w b cur ∧ cur.size = cap * i.size ∧ n ≤ cap ∧ cap ≤ maxLen ∧ cur.toList.take (n * i.size) = xs) (hxl : xs.length = n * i.size)
    {x : Value} {m : Nat} {news : List Value} (hsrc : Src P i.size tx x m news w)
    (hmax : n + m ≤ maxLen) (hbytes : (n + m) * i.bytes ≤ 140737488355328) :
    ∃ v' w', (Builtin.append_ #[t, tx] ty #[v, x]).run P w = .ok v' w' ∧ w'.os = w.os ∧ w'.tape = w.tape ∧ w'.output = w.output ∧ w.heap.size ≤ w'.heap.size ∧ (∀ k, k < w.heap.size → v.ownBlock ≠ some k → w'.heap[k]? = w.heap[k]?) ∧
      ((v' = .slice none 0 0 ∧ v = v' ∧ m = 0 ∧ w' = w) ∨ ∃ b' cap' cur', v' = .slice (some ⟨b', 0, none⟩) (n + m) cap' ∧ (v.ownBlock = some b' ∨ w.heap.size ≤ b') ∧ Soft s w' b' cur' ∧ cur'.size = cap' * i.size ∧ n + m ≤ cap' ∧ cap' ≤ maxLen ∧ cur'.toList.take ((n + m) * i.size) = xs ++ news) := by
  have hm63 : (n + m : Nat) ≤ 9223372036854775807 := by simp only [maxLen] at hmax; omega
  have hl := hsrc.newsLen
  have hlen : (xs ++ news).length = (n + m) * i.size := by rw [List.length_append, hxl, hl, Nat.add_mul]
  -- the growing arm
  have grown : ∀ (old : Nat), old < n + m → ∃ b' cap' cur', Value.slice (some ⟨w.heap.size, 0, none⟩) (n + m) (grownCap w (n + m) old e) = .slice (some ⟨b', 0, none⟩) (n + m) cap' ∧ (v.ownBlock = some b' ∨ w.heap.size ≤ b') ∧
      Soft s (w.drew.alloc (.cells ((xs ++ news).toArray ++ Builtin.zeroCells z.cells (grownCap w (n + m) old e - (n + m))) e)) b' cur' ∧ cur'.size = cap' * i.size ∧ n + m ≤ cap' ∧ cap' ≤ maxLen ∧ cur'.toList.take ((n + m) * i.size) = xs ++ news := by
    intro old ho
    have hge := grownCap_ge w (n + m) old e
    have hcm := grownCap_le_maxLen w (n + m) old e hmax
    refine ⟨w.heap.size, grownCap w (n + m) old e, _, rfl, .inr (Nat.le_refl _), Soft.new w.drew _ e hty, ?_, hge, hcm, ?_⟩
    · simp only [Array.size_append, List.size_toArray, size_zeroCells, hzs, hlen, ← Nat.add_mul]
      congr 1
      omega
    · simp only [Array.toList_append]
      rw [← hlen]
      exact List.take_left
  have hkeepA : ∀ o k, k < w.heap.size → (w.drew.alloc o).heap[k]? = w.heap[k]? := fun o k hk => RowKit.Below.heap_alloc w.drew o k hk
  rcases hv with ⟨rfl, rfl, rfl⟩ | ⟨b, cur, rfl, hsoft, hcs, hnc, hcm, htake⟩
  · by_cases hm : m = 0
    · subst hm
      have hn : news = [] := List.eq_nil_of_length_eq_zero (by simpa using hl)
      subst hn
      refine ⟨.slice none 0 0, w, ?_, rfl, rfl, rfl, Nat.le_refl _, fun _ _ _ => rfl, .inl ⟨rfl, rfl, rfl, rfl⟩⟩
      have h1 := hsrc.cells
      have h2 := hsrc.len
      rcases hsrc.kind with ⟨e', hk⟩ | hk <;> simp [Builtin.append_, run_underlying ht, run_underlying hk, sizeOf, typeInfo, hi, h2, h1]
    · have hr := run_append_grow_src (P := P) w t tx ty e i z ht hi hz none 0 0 [] (run_firstCells_none w.drew i.size 0 0 0) x m news hsrc (by omega) (by omega) (growslice_fits (by omega) (by have hb := hbytes; simp only [Nat.zero_add] at hb ⊢; exact hb))
      have hgr := grown 0 (by omega)
      exact ⟨_, _, hr, rfl, rfl, rfl, by simp, fun k hk _ => hkeepA _ k hk, .inr hgr⟩
  · by_cases hroom : n + m ≤ cap
    · have hfit : 0 + n * i.size + news.length ≤ cur.size := by
        rw [hl, hcs, Nat.zero_add, ← Nat.add_mul]
        exact Nat.mul_le_mul_right _ hroom
      obtain ⟨w', hst, hs', htn⟩ := run_storeCells_soft P s b (n * i.size) news 0 w cur hsoft (by omega) hsrc.one
      refine ⟨.slice (some ⟨b, 0, none⟩) (n + m) cap, w', ?_, htn.os, htn.tape, htn.output, by rw [htn.size]; exact Nat.le_refl _, fun k hk hne => htn.heap k fun e => hne (by rw [e]; rfl), .inr ⟨b, cap, _, rfl, .inl rfl, hs', ?_, hroom, hcm, ?_⟩⟩
      · have h1 := hsrc.cells
        have h2 := hsrc.len w
        rcases hsrc.kind with ⟨e', hk⟩ | hk <;>
          (simp only [Builtin.append_, List.getElem?_toArray, List.getElem?_cons_zero, List.getElem?_cons_succ, Sem.run_bind, run_underlying ht, run_underlying hk, Result.andThen_ok, run_sizeOf hi, Sem.run_pure, Bool.false_eq_true, if_false, h2, if_pos hroom, Bool.not_false, if_true, h1, add_plain, Nat.zero_add]
           rw [hst]
           rfl)
      · simp only [List.size_toArray, List.length_append, List.length_take, List.length_drop, Array.length_toList, Nat.add_zero]
        omega
      · simp only [Nat.add_zero]
        rw [htake, ← hlen]
        exact List.take_left
    · have hcells : ∀ j u, xs[j]? = some u → w.drew.cell? ((⟨b, 0, none⟩ : Addr).add j) = some u := by
        intro j u hu
        show w.cell? _ = _
        rw [add_plain, Nat.zero_add, hsoft.cell, ← Array.getElem?_toList]
        rw [← htake, List.getElem?_take] at hu
        split at hu
        · exact hu
        · cases hu
      have hr := run_append_grow_src (P := P) w t tx ty e i z ht hi hz (some ⟨b, 0, none⟩) n cap xs (run_firstCells_some w.drew i.size n ⟨b, 0, none⟩ n cap xs hxl hcells) x m news hsrc (by omega) (by omega) (growslice_fits (by omega) hbytes)
      exact ⟨_, _, hr, rfl, rfl, rfl, by simp, fun k hk _ => hkeepA _ k hk, .inr (grown cap (by omega))⟩

end Go.Proofs.Ytcmdlmcmefbkeaa.Am

/- Arguments that are slices whose elements hold no pointer: opened, and shut again. -/
import Derived.Test.YtcmdlmcmefbkeaaBc
import Derived.Deep.Slices
import Derived.DataShut
namespace Go.Proofs.Ytcmdlmcmefbkeaa.Br
open Go Am Go.RowKit Go.WideShapes Go.ChangeShapes Go.ChangeAt Go.Joins Go.Deep Go.WideElems Go.Maps

theorem flatMap_get {X α : Type} {f : X → List α} {sz : Nat} (hsz : 0 < sz) (hf : ∀ x, (f x).length = sz) : ∀ (xs : List X) (j : Nat), (xs.flatMap f)[j]? = (xs[j / sz]?).bind fun x => (f x)[j % sz]?
  | [], j => by simp
  | x :: xs, j => by
    rw [List.flatMap_cons]
    by_cases hj : j < sz
    · rw [List.getElem?_append_left (by rw [hf]; exact hj), Nat.div_eq_of_lt hj, Nat.mod_eq_of_lt hj]; rfl
    · obtain ⟨i, rfl⟩ : ∃ i, j = sz + i := ⟨j - sz, by omega⟩
      rw [List.getElem?_append_right (by rw [hf]; omega), hf, flatMap_get hsz hf xs, show sz + i - sz = i by omega, show (sz + i) / sz = i / sz + 1 by rw [Nat.add_div_left _ hsz], Nat.add_mod_left]
      rfl

section
variable {H : Type} {enc : TypeId × Value → H} {P : Program} {W : World}

/-- What the elements are. -/
structure El (enc : TypeId × Value → H) (P : Program) (e : TypeId) (sz : Nat) (X : Type) where
  av : X → AV
  vals : X → List Value
  dat : X → DataW H
  ok : X → Prop
  pos : 0 < sz
  len : ∀ x, (vals x).length = sz
  cells : ∀ x, (av x).cells.length = sz
  rfl' : ∀ x, AV.rfL (av x).cells = true
  leaf : ∀ x, (av x).cells.all AV.leaf = true
  rep : ∀ (G : Gh) x, RepL G (av x).cells (vals x)
  opened : ∀ {W : World} {n : Nat} {cs : List Value} {d : DataW H} {pl : List MemPlace}, cs.length = sz → DataW.trod enc P W 0 (fun _ => true) true n e cs = some (d, pl) → ∃ x, ok x ∧ cs = vals x ∧ d = dat x ∧ pl = []
  shut : ∀ (W : World) (sp : Nat → Bool) x, ok x → ∃ n, DataW.trod enc P W 0 sp true n e (vals x) = some (dat x, [])

theorem rep_flat {G : Gh} {X : Type} {f : X → AV} {g : X → List Value} (h : ∀ x, RepL G (f x).cells (g x)) : ∀ xs : List X, RepL G (flat (xs.map f)) (xs.flatMap g)
  | [] => .nil
  | x :: xs => by
    rw [List.flatMap_cons]
    show RepL G ((f x).cells ++ flat (xs.map f)) _
    exact RepL.append (h x) (rep_flat h xs)

theorem rfL_flat {X : Type} {f : X → AV} (h : ∀ x, AV.rfL (f x).cells = true) : ∀ xs : List X, AV.rfL (flat (xs.map f)) = true
  | [] => rfl
  | x :: xs => by
    show AV.rfL ((f x).cells ++ flat (xs.map f)) = true
    rw [rfL_append, h x, rfL_flat h xs]; rfl

theorem leaf_flat {X : Type} {f : X → AV} (h : ∀ x, (f x).cells.all AV.leaf = true) : ∀ xs : List X, (flat (xs.map f)).all AV.leaf = true
  | [] => rfl
  | x :: xs => by
    show ((f x).cells ++ flat (xs.map f)).all AV.leaf = true
    rw [List.all_append, h x, leaf_flat h xs]; rfl

theorem add_block (a : Addr) (i : Nat) : (a.add i).block = a.block := by
  unfold Addr.add; split <;> rfl

theorem cells_below {W W' : World} {base : Nat} {a : Addr} {n : Nat} {cs : List Value} (h : W.cells? base a n = some cs) (hn : 0 < n) (hb : Below W.heap.size W W') : W'.cells? base a n = some cs := by
  have hlt := World.cells?_block h hn
  obtain ⟨h1, h2, h3⟩ := World.cells?_some h
  refine World.cells?_of_each h1 h2 fun i hi => ?_
  rw [← h3 i hi]
  unfold World.cell?
  rw [add_block, hb.block _ hlt]

/-- A slice that is an argument: what it is to the machine, and that it reads as before whatever new memory there is. -/
theorem open_row {t e : TypeId} {sz : Nat} {X : Type} [Inhabited X] (E : El enc P e sz X) {r : Reach} {b0 : Nat} {v : Value} {d : DataW H} {p : List MemPlace} (ht : P.underlying t = some (.slice e)) (hC : P.cellsOf e = sz)
    (hv : Value.okWide P W r b0 t v) (h : DataW.Trod enc P W 0 (fun _ => true) true t v d p) :
    ∃ (y : AV) (xs : List X), ((y = .nils ∧ xs = []) ∨ y = .list (xs.map E.av)) ∧ (∀ x ∈ xs, E.ok x) ∧ (∃ rest, (d = .nil ∧ xs = []) ∨ d = .slice (xs.map E.dat) rest) ∧ Rep (Gh.bare fun b o => W.cell? ⟨b, o, none⟩) y v ∧
      ∀ (W' : World) (sp : Nat → Bool), Below W.heap.size W W' → (∀ q ∈ p, sp q.block = true) → DataW.Trod enc P W' 0 sp true t v d p := by
  obtain ⟨a0, len0, cap0, rfl⟩ := okWide_slice ht hv
  obtain ⟨fuel, hf⟩ := h
  have hf : DataW.trod enc P W 0 (fun _ => true) true fuel t [.slice a0 len0 cap0] = some (d, p) := by simpa [Value.cells] using hf
  rcases open_slice ht hf with ⟨hc, hx⟩ | ⟨a, len, cap, m, n, D, Pl, hc, _, hl, hm, hmm, hx, hel⟩
  · simp only [List.cons.injEq, Value.slice.injEq, and_true] at hc
    obtain ⟨rfl, rfl, rfl⟩ := hc
    obtain ⟨rfl, rfl⟩ := Prod.mk.inj hx
    exact ⟨.nils, [], .inl ⟨rfl, rfl⟩, (by simp), ⟨[], .inl ⟨rfl, rfl⟩⟩, .nils, fun W' sp _ _ => ⟨1, by simp [DataW.trod, Value.cells, ht]⟩⟩
  · simp only [List.cons.injEq, Value.slice.injEq, and_true] at hc
    obtain ⟨rfl, rfl, rfl⟩ := hc
    simp only [if_true] at hmm
    subst hmm
    obtain ⟨hd, hp⟩ := Prod.mk.inj hx
    rw [hC] at hel
    have hall : ∀ i, i < m → ∃ x : X, E.ok x ∧ W.cells? 0 (a.add (i * sz)) sz = some (E.vals x) ∧ D i = E.dat x ∧ Pl i = [] := by
      intro i hi
      obtain ⟨cs', h1, h2⟩ := hel i hi
      obtain ⟨_, hln, _⟩ := World.cells?_some h1
      obtain ⟨x, k, rfl, hD, hP⟩ := E.opened hln h2
      exact ⟨x, k, h1, hD, hP⟩
    have hpl : (List.range m).flatMap Pl = [] := by
      rw [List.flatMap_eq_nil_iff]
      intro i hi
      obtain ⟨_, _, _, _, h⟩ := hall i (List.mem_range.1 hi)
      exact h
    obtain ⟨F, hF⟩ := choose_lt hall
    have cellAt : ∀ i k, i < m → k < sz → W.cell? (a.add (i * sz + k)) = (E.vals (F i))[k]? := by
      intro i k hi hk
      obtain ⟨_, _, h3⟩ := World.cells?_some (hF i hi).2.1
      rw [← h3 k hk, add_add]
    have hspot : 0 < m → a.spot = none := by
      intro h0
      have := cellAt 0 0 h0 E.pos
      rw [Nat.zero_mul, show a.add (0 + 0) = a from rfl, List.getElem?_eq_getElem (by rw [E.len]; exact E.pos)] at this
      unfold World.cell? at this
      split at this
      · split at this
        · cases this
        · rename_i h; simpa using h
      · cases this
    have hDF : ∀ i, i < m → D i = E.dat (F i) := fun i hi => (hF i hi).2.2.1
    refine ⟨.list (((List.range len0).map F).map E.av), (List.range len0).map F, .inr rfl, ?_, ⟨(List.range (m - len0)).map fun j => D (len0 + j), .inr ?_⟩, ?_, ?_⟩
    · intro x hx
      obtain ⟨i, hi, rfl⟩ := List.mem_map.1 hx
      exact (hF i (by have := List.mem_range.1 hi; omega)).1
    · rw [hd]
      congr 1
      rw [List.map_map]
      exact List.map_congr_left fun i hi => hDF i (by have := List.mem_range.1 hi; omega)
    · refine .list (rep_flat (E.rep _) _) ?_ (rfL_flat E.rfl' _) (leaf_flat E.leaf _) ?_ (by simp) hl (by omega) (sz := sz)
      · intro x hx
        obtain ⟨z, _, rfl⟩ := List.mem_map.1 hx
        exact E.cells z
      · intro j u hj
        rw [flatMap_get E.pos E.len] at hj
        by_cases hi : j / sz < len0
        · rw [List.getElem?_map, List.getElem?_range hi] at hj
          have hj : (E.vals (F (j / sz)))[j % sz]? = some u := hj
          have hk := cellAt (j / sz) (j % sz) (by omega) (Nat.mod_lt _ E.pos)
          rw [hj, Nat.div_add_mod'] at hk
          have hs := hspot (Nat.lt_of_lt_of_le (Nat.lt_of_le_of_lt (Nat.zero_le _) hi) hl)
          obtain ⟨b, o, s⟩ := a
          subst hs
          refine ⟨b, o, rfl, ?_⟩
          show W.cell? ⟨b, o + j, none⟩ = some u
          rw [← hk]
          unfold Addr.add
          split
          · rename_i h; rw [h]; rfl
          · rfl
        · rw [List.getElem?_eq_none (by simp; omega)] at hj
          cases hj
    · intro W' sp hb hsp
      have each : ∀ i, i < m → ∃ cs n, W'.cells? 0 (a.add (i * P.cellsOf e)) (P.cellsOf e) = some cs ∧ DataW.trod enc P W' 0 sp true n e cs = some (D i, Pl i) := by
        intro i hi
        obtain ⟨h1, h2, h3, h4⟩ := hF i hi
        obtain ⟨n, hn⟩ := E.shut W' sp (F i) h1
        rw [hC]
        exact ⟨_, n, cells_below h2 E.pos hb, by rw [hn, h3, h4]⟩
      rw [hd, hp]
      cases hs : sp a.block with
      | true => exact shut_slice_whole ht (Nat.zero_le _) hl hm hs D Pl each
      | false =>
        have hm0 : m = 0 := by
          rcases Nat.eq_zero_or_pos m with h | h
          · exact h
          · have hmem : MemPlace.cell a.block (a.off + 0) ∈ p := by
              rw [hp, hC]
              exact List.mem_append_left _ (List.mem_map.2 ⟨0, List.mem_range.2 (Nat.mul_pos h E.pos), rfl⟩)
            have := hsp _ hmem
            rw [show (MemPlace.cell a.block (a.off + 0)).block = a.block from rfl, hs] at this
            cases this
        subst hm0
        obtain rfl : len0 = 0 := by omega
        exact shut_slice ht (Nat.zero_le _) hl hm hs D Pl each

/-- Elements that are structs of two numbers. -/
def elTwo {e ti : TypeId} {f0 f1 : Field} (hs : P.underlying e = some (.struct #[f0, f1])) (hone : oneCellFields P #[f0, f1] = true) (hC : P.cellsOf e = 2)
    (hti : P.underlying ti = some (.int .i64)) (hf : f0.type = ti ∧ f1.type = ti) : El enc P e 2 (Int × Int) where
  av o := .agg [.int .i64 o.1, .int .i64 o.2]
  vals o := [.int .i64 o.1, .int .i64 o.2]
  dat o := .agg [.lit (.int .i64 o.1), .lit (.int .i64 o.2)]
  ok o := (Lit.int .i64 o.1).wf = true ∧ (Lit.int .i64 o.2).wf = true
  pos := by decide
  len _ := rfl
  cells _ := rfl
  rfl' _ := rfl
  leaf _ := rfl
  rep _ _ := .cons (.int _ _) (.cons (.int _ _) .nil)
  opened := by
    intro W n cs d pl hlen h
    obtain ⟨xs, n, _, hx, _, hl2, hg⟩ := DataW.trod_struct hs h
    obtain ⟨t0, t1⟩ := hf
    have ho := fun i f => hone_of hone i f
    match cs, hlen, xs, hl2 with
    | [c0, c1], _, [y0, y1], _ =>
      obtain ⟨o0, k0⟩ := ho 0 f0 rfl
      obtain ⟨o1, k1⟩ := ho 1 f1 rfl
      have h0 : DataW.trod enc P W 0 (fun _ => true) true n f0.type [c0] = some y0 := by simpa [o0, k0] using hg 0 f0 rfl
      have h1 : DataW.trod enc P W 0 (fun _ => true) true n f1.type [c1] = some y1 := by simpa [o1, k1] using hg 1 f1 rfl
      rw [t0] at h0
      rw [t1] at h1
      obtain ⟨a, e0, rfl, w0⟩ := DataW.trod_int hti h0
      obtain ⟨b, e1, rfl, w1⟩ := DataW.trod_int hti h1
      simp at e0 e1
      subst e0 e1
      simp only [Prod.mk.injEq] at hx
      exact ⟨(a, b), ⟨w0, w1⟩, rfl, by rw [hx.1]; rfl, by rw [hx.2]; rfl⟩
  shut := by
    intro W sp o ho
    have hint : ∀ n : Int, (Lit.int .i64 n).wf = true → DataW.trod enc P W 0 sp true 1 ti [.int .i64 n] = some (.lit (.int .i64 n), []) := fun n hn => by simp [DataW.trod, hti, hn]
    obtain ⟨t0, t1⟩ := hf
    have hoo := fun i f => hone_of hone i f
    obtain ⟨o0, k0⟩ := hoo 0 f0 rfl
    obtain ⟨o1, k1⟩ := hoo 1 f1 rfl
    have := trod_struct_mk (enc := enc) (w := W) (base := 0) (spare := sp) (held := true) (n := 1) (cs := [.int .i64 o.1, .int .i64 o.2])
      (xs := [(.lit (.int .i64 o.1), []), (.lit (.int .i64 o.2), [])]) hs (by rw [hC]; rfl)
      (by rw [t0] at k0; rw [t1] at k1
          simp [o0, o1, k0, t0, t1, hint _ ho.1, hint _ ho.2])
    exact ⟨_, by simpa using this⟩

end
end Go.Proofs.Ytcmdlmcmefbkeaa.Br

/- Parts of the proof, in order. -/
import Derived.Lib.SmallJoins
import Derived.Deep.Slices
import Derived.DataShut
import Derived.Test.YtkjjfbknppahhaaGreatDoorRows
import Derived.Test.YtkjjfbknppahhaaGreatDoorProg
import Derived.Test.YtkjjfbknppahhaaGreatDoorMPlanWires2

/- Arguments that are structs of texts and numbers: opened and shut. -/
namespace Go.Proofs.YtkjjfbknppahhaaGreatDoor.Br
open Go Am Go.RowKit Go.WideShapes Go.ChangeShapes Go.ChangeAt Go.Joins Go.Deep Go.WideElems Go.Maps

section
variable {H : Type} {enc : TypeId × Value → H} {P : Program} {W : World} {base : Nat} {sp : Nat → Bool} {held : Bool}

theorem array6 {α : Type} {cs : Array α} (h : cs.size = 6) : ∃ c0 c1 c2 c3 c4 c5, cs = #[c0, c1, c2, c3, c4, c5] := by
  obtain ⟨l⟩ := cs
  match l, h with
  | [c0, c1, c2, c3, c4, c5], _ => exact ⟨c0, c1, c2, c3, c4, c5, rfl⟩

/-- What the fields of a struct of one-cell fields read. -/
theorem open_six {r : Reach} {b0 : Nat} {t : TypeId} {f0 f1 f2 f3 f4 f5 : Field} {v : Value} {d : DataW H} {p : List MemPlace} (hs : P.underlying t = some (.struct #[f0, f1, f2, f3, f4, f5])) (hone : oneCellFields P #[f0, f1, f2, f3, f4, f5] = true) (hC : P.cellsOf t = 6)
    (hv : Value.okWide P W r b0 t v) (h : DataW.Trod enc P W base sp held t v d p) :
    ∃ (v0 v1 v2 v3 v4 v5 : Value) (y0 y1 y2 y3 y4 y5 : DataW H × List MemPlace) (n : Nat), v = .agg #[v0, v1, v2, v3, v4, v5] ∧ d = .agg [y0.1, y1.1, y2.1, y3.1, y4.1, y5.1] ∧ p = y0.2 ++ (y1.2 ++ (y2.2 ++ (y3.2 ++ (y4.2 ++ y5.2)))) ∧
      DataW.trod enc P W base sp held n f0.type [v0] = some y0 ∧ DataW.trod enc P W base sp held n f1.type [v1] = some y1 ∧ DataW.trod enc P W base sp held n f2.type [v2] = some y2 ∧ DataW.trod enc P W base sp held n f3.type [v3] = some y3 ∧
      DataW.trod enc P W base sp held n f4.type [v4] = some y4 ∧ DataW.trod enc P W base sp held n f5.type [v5] = some y5 := by
  obtain ⟨cs, rfl, hsz⟩ := okWide_struct hs hv
  obtain ⟨c0, c1, c2, c3, c4, c5, rfl⟩ := array6 (hsz.trans hC)
  obtain ⟨fuel, hf⟩ := h
  obtain ⟨xs, n, _, hx, _, hlen, hg⟩ := DataW.trod_struct hs hf
  have ho := fun i f => hone_of hone i f
  match xs, hlen with
  | [y0, y1, y2, y3, y4, y5], _ =>
    obtain ⟨o0, k0⟩ := ho 0 f0 rfl
    obtain ⟨o1, k1⟩ := ho 1 f1 rfl
    obtain ⟨o2, k2⟩ := ho 2 f2 rfl
    obtain ⟨o3, k3⟩ := ho 3 f3 rfl
    obtain ⟨o4, k4⟩ := ho 4 f4 rfl
    obtain ⟨o5, k5⟩ := ho 5 f5 rfl
    simp only [Prod.mk.injEq] at hx
    refine ⟨c0, c1, c2, c3, c4, c5, y0, y1, y2, y3, y4, y5, n, rfl, by rw [hx.1]; rfl, by rw [hx.2]; simp, ?_, ?_, ?_, ?_, ?_, ?_⟩
    · simpa [Value.cells, o0, k0] using hg 0 f0 rfl
    · simpa [Value.cells, o1, k1] using hg 1 f1 rfl
    · simpa [Value.cells, o2, k2] using hg 2 f2 rfl
    · simpa [Value.cells, o3, k3] using hg 3 f3 rfl
    · simpa [Value.cells, o4, k4] using hg 4 f4 rfl
    · simpa [Value.cells, o5, k5] using hg 5 f5 rfl

/-- A text and five numbers. -/
theorem open_cur {r : Reach} {b0 : Nat} {t ts ti : TypeId} {f0 f1 f2 f3 f4 f5 : Field} {v : Value} {d : DataW H} {p : List MemPlace} (hs : P.underlying t = some (.struct #[f0, f1, f2, f3, f4, f5])) (hone : oneCellFields P #[f0, f1, f2, f3, f4, f5] = true) (hC : P.cellsOf t = 6)
    (hts : P.underlying ts = some .string) (hti : P.underlying ti = some (.int .i64)) (hf : f0.type = ts ∧ f1.type = ti ∧ f2.type = ti ∧ f3.type = ti ∧ f4.type = ti ∧ f5.type = ti)
    (hv : Value.okWide P W r b0 t v) (h : DataW.Trod enc P W base sp held t v d p) :
    ∃ (s : ByteArray) (a b c e g : Int), v = .agg #[.string s, .int .i64 a, .int .i64 b, .int .i64 c, .int .i64 e, .int .i64 g] ∧ d = .agg [.lit (.string s.data.toList), .lit (.int .i64 a), .lit (.int .i64 b), .lit (.int .i64 c), .lit (.int .i64 e), .lit (.int .i64 g)] ∧ p = [] ∧
      s.size ≤ maxLen ∧ (Lit.int .i64 a).wf = true ∧ (Lit.int .i64 b).wf = true ∧ (Lit.int .i64 c).wf = true ∧ (Lit.int .i64 e).wf = true ∧ (Lit.int .i64 g).wf = true := by
  obtain ⟨v0, v1, v2, v3, v4, v5, y0, y1, y2, y3, y4, y5, n, rfl, rfl, rfl, h0, h1, h2, h3, h4, h5⟩ := open_six hs hone hC hv h
  obtain ⟨t0, t1, t2, t3, t4, t5⟩ := hf
  rw [t0] at h0
  rw [t1] at h1
  rw [t2] at h2
  rw [t3] at h3
  rw [t4] at h4
  rw [t5] at h5
  obtain ⟨s, e0, rfl, w0⟩ := DataW.trod_string hts h0
  obtain ⟨a, e1, rfl, w1⟩ := DataW.trod_int hti h1
  obtain ⟨b, e2, rfl, w2⟩ := DataW.trod_int hti h2
  obtain ⟨c, e3, rfl, w3⟩ := DataW.trod_int hti h3
  obtain ⟨e, e4, rfl, w4⟩ := DataW.trod_int hti h4
  obtain ⟨g, e5, rfl, w5⟩ := DataW.trod_int hti h5
  simp at e0 e1 e2 e3 e4 e5
  subst e0 e1 e2 e3 e4 e5
  exact ⟨s, a, b, c, e, g, rfl, rfl, rfl, w0, w1, w2, w3, w4, w5⟩

theorem shut_cur {t ts ti : TypeId} {f0 f1 f2 f3 f4 f5 : Field} (hs : P.underlying t = some (.struct #[f0, f1, f2, f3, f4, f5])) (hone : oneCellFields P #[f0, f1, f2, f3, f4, f5] = true) (hC : P.cellsOf t = 6)
    (hts : P.underlying ts = some .string) (hti : P.underlying ti = some (.int .i64)) (hf : f0.type = ts ∧ f1.type = ti ∧ f2.type = ti ∧ f3.type = ti ∧ f4.type = ti ∧ f5.type = ti)
    {s : ByteArray} {a b c e g : Int} (w0 : s.size ≤ maxLen) (w1 : (Lit.int .i64 a).wf = true) (w2 : (Lit.int .i64 b).wf = true) (w3 : (Lit.int .i64 c).wf = true) (w4 : (Lit.int .i64 e).wf = true) (w5 : (Lit.int .i64 g).wf = true) :
    DataW.Trod enc P W base sp held t (.agg #[.string s, .int .i64 a, .int .i64 b, .int .i64 c, .int .i64 e, .int .i64 g]) (.agg [.lit (.string s.data.toList), .lit (.int .i64 a), .lit (.int .i64 b), .lit (.int .i64 c), .lit (.int .i64 e), .lit (.int .i64 g)]) [] := by
  have hint : ∀ n : Int, (Lit.int .i64 n).wf = true → DataW.trod enc P W base sp held 1 ti [.int .i64 n] = some (.lit (.int .i64 n), []) := fun n hn => by simp [DataW.trod, hti, hn]
  have hstr : DataW.trod enc P W base sp held 1 ts [.string s] = some (.lit (.string s.data.toList), []) := by simp [DataW.trod, hts, w0]
  obtain ⟨t0, t1, t2, t3, t4, t5⟩ := hf
  have ho := fun i f => hone_of hone i f
  obtain ⟨o0, k0⟩ := ho 0 f0 rfl
  obtain ⟨o1, k1⟩ := ho 1 f1 rfl
  obtain ⟨o2, k2⟩ := ho 2 f2 rfl
  obtain ⟨o3, k3⟩ := ho 3 f3 rfl
  obtain ⟨o4, k4⟩ := ho 4 f4 rfl
  obtain ⟨o5, k5⟩ := ho 5 f5 rfl
  have := trod_struct_mk (enc := enc) (w := W) (base := base) (spare := sp) (held := held) (n := 1) (cs := [.string s, .int .i64 a, .int .i64 b, .int .i64 c, .int .i64 e, .int .i64 g])
    (xs := [(.lit (.string s.data.toList), []), (.lit (.int .i64 a), []), (.lit (.int .i64 b), []), (.lit (.int .i64 c), []), (.lit (.int .i64 e), []), (.lit (.int .i64 g), [])]) hs (by rw [hC]; rfl)
    (by rw [t0] at k0; rw [t1] at k1; rw [t2] at k2; rw [t3] at k3; rw [t4] at k4; rw [t5] at k5
        simp [o0, o1, o2, o3, o4, o5, k0, k1, t0, t1, t2, t3, t4, t5, hstr, hint _ w1, hint _ w2, hint _ w3, hint _ w4, hint _ w5])
  exact ⟨_, by simpa [Value.cells] using this⟩

theorem rep_cur {G : Gh} (s : ByteArray) (a b c e g : Int) : Rep G (.agg [.str s.data.toList, .int .i64 a, .int .i64 b, .int .i64 c, .int .i64 e, .int .i64 g]) (.agg #[.string s, .int .i64 a, .int .i64 b, .int .i64 c, .int .i64 e, .int .i64 g]) :=
  .agg (.cons (rep_str _) (.cons (.int _ _) (.cons (.int _ _) (.cons (.int _ _) (.cons (.int _ _) (.cons (.int _ _) .nil))))))

/-- Four numbers. -/
theorem open_lim {r : Reach} {b0 : Nat} {t ti : TypeId} {f0 f1 f2 f3 : Field} {v : Value} {d : DataW H} {p : List MemPlace} (hs : P.underlying t = some (.struct #[f0, f1, f2, f3])) (hone : oneCellFields P #[f0, f1, f2, f3] = true) (hC : P.cellsOf t = 4)
    (hti : P.underlying ti = some (.int .i64)) (hf : f0.type = ti ∧ f1.type = ti ∧ f2.type = ti ∧ f3.type = ti)
    (hv : Value.okWide P W r b0 t v) (h : DataW.Trod enc P W base sp held t v d p) :
    ∃ (a b c e : Int), v = .agg #[.int .i64 a, .int .i64 b, .int .i64 c, .int .i64 e] ∧ d = .agg [.lit (.int .i64 a), .lit (.int .i64 b), .lit (.int .i64 c), .lit (.int .i64 e)] ∧ p = [] ∧
      (Lit.int .i64 a).wf = true ∧ (Lit.int .i64 b).wf = true ∧ (Lit.int .i64 c).wf = true ∧ (Lit.int .i64 e).wf = true := by
  obtain ⟨v0, v1, v2, v3, y0, y1, y2, y3, n, rfl, rfl, rfl, h0, h1, h2, h3⟩ := open_agg4 hs hone hC hv h
  obtain ⟨t0, t1, t2, t3⟩ := hf
  rw [t0] at h0
  rw [t1] at h1
  rw [t2] at h2
  rw [t3] at h3
  obtain ⟨a, e0, rfl, w0⟩ := DataW.trod_int hti h0
  obtain ⟨b, e1, rfl, w1⟩ := DataW.trod_int hti h1
  obtain ⟨c, e2, rfl, w2⟩ := DataW.trod_int hti h2
  obtain ⟨e, e3, rfl, w3⟩ := DataW.trod_int hti h3
  simp at e0 e1 e2 e3
  subst e0 e1 e2 e3
  exact ⟨a, b, c, e, rfl, rfl, rfl, w0, w1, w2, w3⟩

theorem shut_lim {t ti : TypeId} {f0 f1 f2 f3 : Field} (hs : P.underlying t = some (.struct #[f0, f1, f2, f3])) (hone : oneCellFields P #[f0, f1, f2, f3] = true) (hC : P.cellsOf t = 4)
    (hti : P.underlying ti = some (.int .i64)) (hf : f0.type = ti ∧ f1.type = ti ∧ f2.type = ti ∧ f3.type = ti) {a b c e : Int} (w1 : (Lit.int .i64 a).wf = true) (w2 : (Lit.int .i64 b).wf = true) (w3 : (Lit.int .i64 c).wf = true) (w4 : (Lit.int .i64 e).wf = true) :
    DataW.Trod enc P W base sp held t (.agg #[.int .i64 a, .int .i64 b, .int .i64 c, .int .i64 e]) (.agg [.lit (.int .i64 a), .lit (.int .i64 b), .lit (.int .i64 c), .lit (.int .i64 e)]) [] := by
  have hint : ∀ n : Int, (Lit.int .i64 n).wf = true → ∃ m, DataW.trod enc P W base sp held m ti [.int .i64 n] = some (.lit (.int .i64 n), []) := fun n hn => ⟨1, by simp [DataW.trod, hti, hn]⟩
  obtain ⟨t0, t1, t2, t3⟩ := hf
  have := shut_agg4 (enc := enc) (w := W) (base := base) (spare := sp) (held := held) (y0 := (.lit (.int .i64 a), [])) (y1 := (.lit (.int .i64 b), [])) (y2 := (.lit (.int .i64 c), [])) (y3 := (.lit (.int .i64 e), [])) hs hone hC
    (by rw [t0]; exact hint _ w1) (by rw [t1]; exact hint _ w2) (by rw [t2]; exact hint _ w3) (by rw [t3]; exact hint _ w4)
  simpa using this

theorem rep_lim {G : Gh} (a b c e : Int) : Rep G (.agg [.int .i64 a, .int .i64 b, .int .i64 c, .int .i64 e]) (.agg #[.int .i64 a, .int .i64 b, .int .i64 c, .int .i64 e]) :=
  .agg (.cons (.int _ _) (.cons (.int _ _) (.cons (.int _ _) (.cons (.int _ _) .nil))))

end

end Go.Proofs.YtkjjfbknppahhaaGreatDoor.Br

/- Arguments that are slices whose elements hold no pointer: opened, and shut again. -/
namespace Go.Proofs.YtkjjfbknppahhaaGreatDoor.Br
open Go Am Go.RowKit Go.WideShapes Go.ChangeShapes Go.ChangeAt Go.Joins Go.Deep Go.WideElems Go.Maps

theorem flatMap_get {X α : Type} {f : X → List α} {sz : Nat} (hsz : 0 < sz) (hf : ∀ x, (f x).length = sz) : ∀ (xs : List X) (j : Nat), (xs.flatMap f)[j]? = (xs[j / sz]?).bind fun x => (f x)[j % sz]?
  | [], j => by simp
  | x :: xs, j => by
    rw [List.flatMap_cons]
    by_cases hj : j < sz
    · rw [List.getElem?_append_left (by rw [hf]; exact hj), Nat.div_eq_of_lt hj, Nat.mod_eq_of_lt hj]; rfl
    · obtain ⟨i, rfl⟩ : ∃ i, j = sz + i := ⟨j - sz, by omega⟩
      rw [List.getElem?_append_right (by rw [hf]; omega), hf, flatMap_get hsz hf xs, show sz + i - sz = i by omega, show (sz + i) / sz = i / sz + 1 by rw [Nat.add_div_left _ hsz], Nat.add_mod_left]
      rfl

section
variable {H : Type} {enc : TypeId × Value → H} {P : Program} {W : World}

/-- What the elements are. -/
structure El (enc : TypeId × Value → H) (P : Program) (e : TypeId) (sz : Nat) (X : Type) where
  av : X → AV
  vals : X → List Value
  dat : X → DataW H
  ok : X → Prop
  pos : 0 < sz
  len : ∀ x, (vals x).length = sz
  cells : ∀ x, (av x).cells.length = sz
  rfl' : ∀ x, AV.rfL (av x).cells = true
  leaf : ∀ x, (av x).cells.all AV.leaf = true
  rep : ∀ (G : Gh) x, RepL G (av x).cells (vals x)
  opened : ∀ {W : World} {n : Nat} {cs : List Value} {d : DataW H} {pl : List MemPlace}, cs.length = sz → DataW.trod enc P W 0 (fun _ => true) true n e cs = some (d, pl) → ∃ x, ok x ∧ cs = vals x ∧ d = dat x ∧ pl = []
  shut : ∀ (W : World) (sp : Nat → Bool) x, ok x → ∃ n, DataW.trod enc P W 0 sp true n e (vals x) = some (dat x, [])

theorem rep_flat {G : Gh} {X : Type} {f : X → AV} {g : X → List Value} (h : ∀ x, RepL G (f x).cells (g x)) : ∀ xs : List X, RepL G (flat (xs.map f)) (xs.flatMap g)
  | [] => .nil
  | x :: xs => by
    rw [List.flatMap_cons]
    show RepL G ((f x).cells ++ flat (xs.map f)) _
    exact RepL.append (h x) (rep_flat h xs)

theorem rfL_flat {X : Type} {f : X → AV} (h : ∀ x, AV.rfL (f x).cells = true) : ∀ xs : List X, AV.rfL (flat (xs.map f)) = true
  | [] => rfl
  | x :: xs => by
    show AV.rfL ((f x).cells ++ flat (xs.map f)) = true
    rw [rfL_append, h x, rfL_flat h xs]; rfl

theorem leaf_flat {X : Type} {f : X → AV} (h : ∀ x, (f x).cells.all AV.leaf = true) : ∀ xs : List X, (flat (xs.map f)).all AV.leaf = true
  | [] => rfl
  | x :: xs => by
    show ((f x).cells ++ flat (xs.map f)).all AV.leaf = true
    rw [List.all_append, h x, leaf_flat h xs]; rfl

theorem add_block (a : Addr) (i : Nat) : (a.add i).block = a.block := by
  unfold Addr.add; split <;> rfl

theorem cells_below {W W' : World} {base : Nat} {a : Addr} {n : Nat} {cs : List Value} (h : W.cells? base a n = some cs) (hn : 0 < n) (hb : Below W.heap.size W W') : W'.cells? base a n = some cs := by
  have hlt := World.cells?_block h hn
  obtain ⟨h1, h2, h3⟩ := World.cells?_some h
  refine World.cells?_of_each h1 h2 fun i hi => ?_
  rw [← h3 i hi]
  unfold World.cell?
  rw [add_block, hb.block _ hlt]

/-- A slice that is an argument: what it is to the machine, and that it reads as before whatever new memory there is. -/
theorem open_row {t e : TypeId} {sz : Nat} {X : Type} [Inhabited X] (E : El enc P e sz X) {r : Reach} {b0 : Nat} {v : Value} {d : DataW H} {p : List MemPlace} (ht : P.underlying t = some (.slice e)) (hC : P.cellsOf e = sz)
    (hv : Value.okWide P W r b0 t v) (h : DataW.Trod enc P W 0 (fun _ => true) true t v d p) :
    ∃ (y : AV) (xs : List X), ((y = .nils ∧ xs = []) ∨ y = .list (xs.map E.av)) ∧ (∀ x ∈ xs, E.ok x) ∧ (∃ rest, (d = .nil ∧ xs = []) ∨ d = .slice (xs.map E.dat) rest) ∧ Rep (Gh.bare fun b o => sv W b o) y v ∧
      ∀ (W' : World) (sp : Nat → Bool), Below W.heap.size W W' → (∀ q ∈ p, sp q.block = true) → DataW.Trod enc P W' 0 sp true t v d p := by
  obtain ⟨a0, len0, cap0, rfl⟩ := okWide_slice ht hv
  obtain ⟨fuel, hf⟩ := h
  have hf : DataW.trod enc P W 0 (fun _ => true) true fuel t [.slice a0 len0 cap0] = some (d, p) := by simpa [Value.cells] using hf
  rcases open_slice ht hf with ⟨hc, hx⟩ | ⟨a, len, cap, m, n, D, Pl, hc, _, hl, hm, hmm, hx, hel⟩
  · simp only [List.cons.injEq, Value.slice.injEq, and_true] at hc
    obtain ⟨rfl, rfl, rfl⟩ := hc
    obtain ⟨rfl, rfl⟩ := Prod.mk.inj hx
    exact ⟨.nils, [], .inl ⟨rfl, rfl⟩, (by simp), ⟨[], .inl ⟨rfl, rfl⟩⟩, .nils, fun W' sp _ _ => ⟨1, by simp [DataW.trod, Value.cells, ht]⟩⟩
  · simp only [List.cons.injEq, Value.slice.injEq, and_true] at hc
    obtain ⟨rfl, rfl, rfl⟩ := hc
    simp only [if_true] at hmm
    subst hmm
    obtain ⟨hd, hp⟩ := Prod.mk.inj hx
    rw [hC] at hel
    have hall : ∀ i, i < m → ∃ x : X, E.ok x ∧ W.cells? 0 (a.add (i * sz)) sz = some (E.vals x) ∧ D i = E.dat x ∧ Pl i = [] := by
      intro i hi
      obtain ⟨cs', h1, h2⟩ := hel i hi
      obtain ⟨_, hln, _⟩ := World.cells?_some h1
      obtain ⟨x, k, rfl, hD, hP⟩ := E.opened hln h2
      exact ⟨x, k, h1, hD, hP⟩
    have hpl : (List.range m).flatMap Pl = [] := by
      rw [List.flatMap_eq_nil_iff]
      intro i hi
      obtain ⟨_, _, _, _, h⟩ := hall i (List.mem_range.1 hi)
      exact h
    obtain ⟨F, hF⟩ := choose_lt hall
    have cellAt : ∀ i k, i < m → k < sz → W.cell? (a.add (i * sz + k)) = (E.vals (F i))[k]? := by
      intro i k hi hk
      obtain ⟨_, _, h3⟩ := World.cells?_some (hF i hi).2.1
      rw [← h3 k hk, add_add]
    have hspot : 0 < m → a.spot = none := by
      intro h0
      have := cellAt 0 0 h0 E.pos
      rw [Nat.zero_mul, show a.add (0 + 0) = a from rfl, List.getElem?_eq_getElem (by rw [E.len]; exact E.pos)] at this
      unfold World.cell? at this
      split at this
      · split at this
        · cases this
        · rename_i h; simpa using h
      · cases this
    have hDF : ∀ i, i < m → D i = E.dat (F i) := fun i hi => (hF i hi).2.2.1
    refine ⟨.list (((List.range len0).map F).map E.av), (List.range len0).map F, .inr rfl, ?_, ⟨(List.range (m - len0)).map fun j => D (len0 + j), .inr ?_⟩, ?_, ?_⟩
    · intro x hx
      obtain ⟨i, hi, rfl⟩ := List.mem_map.1 hx
      exact (hF i (by have := List.mem_range.1 hi; omega)).1
    · rw [hd]
      congr 1
      rw [List.map_map]
      exact List.map_congr_left fun i hi => hDF i (by have := List.mem_range.1 hi; omega)
    · refine .list (rep_flat (E.rep _) _) ?_ (rfL_flat E.rfl' _) (leaf_flat E.leaf _) ?_ (by simp) hl (by omega) (sz := sz)
      · intro x hx
        obtain ⟨z, _, rfl⟩ := List.mem_map.1 hx
        exact E.cells z
      · intro j u hj
        rw [flatMap_get E.pos E.len] at hj
        by_cases hi : j / sz < len0
        · rw [List.getElem?_map, List.getElem?_range hi] at hj
          have hj : (E.vals (F (j / sz)))[j % sz]? = some u := hj
          have hk := cellAt (j / sz) (j % sz) (by omega) (Nat.mod_lt _ E.pos)
          rw [hj, Nat.div_add_mod'] at hk
          have hs := hspot (Nat.lt_of_lt_of_le (Nat.lt_of_le_of_lt (Nat.zero_le _) hi) hl)
          obtain ⟨b, o, s⟩ := a
          subst hs
          refine ⟨b, o, rfl, ?_⟩
          refine sv_cell ?_
          show W.cell? ⟨b, o + j, none⟩ = some u
          rw [← hk]
          unfold Addr.add
          split
          · rename_i h; rw [h]; rfl
          · rfl
        · rw [List.getElem?_eq_none (by simp; omega)] at hj
          cases hj
    · intro W' sp hb hsp
      have each : ∀ i, i < m → ∃ cs n, W'.cells? 0 (a.add (i * P.cellsOf e)) (P.cellsOf e) = some cs ∧ DataW.trod enc P W' 0 sp true n e cs = some (D i, Pl i) := by
        intro i hi
        obtain ⟨h1, h2, h3, h4⟩ := hF i hi
        obtain ⟨n, hn⟩ := E.shut W' sp (F i) h1
        rw [hC]
        exact ⟨_, n, cells_below h2 E.pos hb, by rw [hn, h3, h4]⟩
      rw [hd, hp]
      cases hs : sp a.block with
      | true => exact shut_slice_whole ht (Nat.zero_le _) hl hm hs D Pl each
      | false =>
        have hm0 : m = 0 := by
          rcases Nat.eq_zero_or_pos m with h | h
          · exact h
          · have hmem : MemPlace.cell a.block (a.off + 0) ∈ p := by
              rw [hp, hC]
              exact List.mem_append_left _ (List.mem_map.2 ⟨0, List.mem_range.2 (Nat.mul_pos h E.pos), rfl⟩)
            have := hsp _ hmem
            rw [show (MemPlace.cell a.block (a.off + 0)).block = a.block from rfl, hs] at this
            cases this
        subst hm0
        obtain rfl : len0 = 0 := by omega
        exact shut_slice ht (Nat.zero_le _) hl hm hs D Pl each

/-- A nil slice reads as an empty list. -/
theorem rep_list {X : Type} {f : X → AV} {G : Gh} {y : AV} {xs : List X} {v : Value} (hy : (y = .nils ∧ xs = []) ∨ y = .list (xs.map f)) (h : Rep G y v) : Rep G (.list (xs.map f)) v := by
  rcases hy with ⟨rfl, rfl⟩ | rfl
  · exact h.nn0
  · exact h

/-- Elements that are structs of two numbers. -/
def elTwo {e ti : TypeId} {f0 f1 : Field} (hs : P.underlying e = some (.struct #[f0, f1])) (hone : oneCellFields P #[f0, f1] = true) (hC : P.cellsOf e = 2)
    (hti : P.underlying ti = some (.int .i64)) (hf : f0.type = ti ∧ f1.type = ti) : El enc P e 2 (Int × Int) where
  av o := .agg [.int .i64 o.1, .int .i64 o.2]
  vals o := [.int .i64 o.1, .int .i64 o.2]
  dat o := .agg [.lit (.int .i64 o.1), .lit (.int .i64 o.2)]
  ok o := (Lit.int .i64 o.1).wf = true ∧ (Lit.int .i64 o.2).wf = true
  pos := by decide
  len _ := rfl
  cells _ := rfl
  rfl' _ := rfl
  leaf _ := rfl
  rep _ _ := .cons (.int _ _) (.cons (.int _ _) .nil)
  opened := by
    intro W n cs d pl hlen h
    obtain ⟨xs, n, _, hx, _, hl2, hg⟩ := DataW.trod_struct hs h
    obtain ⟨t0, t1⟩ := hf
    have ho := fun i f => hone_of hone i f
    match cs, hlen, xs, hl2 with
    | [c0, c1], _, [y0, y1], _ =>
      obtain ⟨o0, k0⟩ := ho 0 f0 rfl
      obtain ⟨o1, k1⟩ := ho 1 f1 rfl
      have h0 : DataW.trod enc P W 0 (fun _ => true) true n f0.type [c0] = some y0 := by simpa [o0, k0] using hg 0 f0 rfl
      have h1 : DataW.trod enc P W 0 (fun _ => true) true n f1.type [c1] = some y1 := by simpa [o1, k1] using hg 1 f1 rfl
      rw [t0] at h0
      rw [t1] at h1
      obtain ⟨a, e0, rfl, w0⟩ := DataW.trod_int hti h0
      obtain ⟨b, e1, rfl, w1⟩ := DataW.trod_int hti h1
      simp at e0 e1
      subst e0 e1
      simp only [Prod.mk.injEq] at hx
      exact ⟨(a, b), ⟨w0, w1⟩, rfl, by rw [hx.1]; rfl, by rw [hx.2]; rfl⟩
  shut := by
    intro W sp o ho
    have hint : ∀ n : Int, (Lit.int .i64 n).wf = true → DataW.trod enc P W 0 sp true 1 ti [.int .i64 n] = some (.lit (.int .i64 n), []) := fun n hn => by simp [DataW.trod, hti, hn]
    obtain ⟨t0, t1⟩ := hf
    have hoo := fun i f => hone_of hone i f
    obtain ⟨o0, k0⟩ := hoo 0 f0 rfl
    obtain ⟨o1, k1⟩ := hoo 1 f1 rfl
    have := trod_struct_mk (enc := enc) (w := W) (base := 0) (spare := sp) (held := true) (n := 1) (cs := [.int .i64 o.1, .int .i64 o.2])
      (xs := [(.lit (.int .i64 o.1), []), (.lit (.int .i64 o.2), [])]) hs (by rw [hC]; rfl)
      (by rw [t0] at k0; rw [t1] at k1
          simp [o0, o1, k0, t0, t1, hint _ ho.1, hint _ ho.2])
    exact ⟨_, by simpa using this⟩

end
end Go.Proofs.YtkjjfbknppahhaaGreatDoor.Br

/- Arguments of types without pointers (numbers, texts, structs, slices of such, as deep as they go): what they are to the machine. -/
namespace Go.Proofs.YtkjjfbknppahhaaGreatDoor.Br
open Go Am Go.RowKit Go.WideShapes Go.ChangeShapes Go.ChangeAt Go.Joins Go.Deep Go.WideElems Go.Maps

/-- An element, of its cells. -/
def elemV : List AV → AV
  | [x] => x
  | l => .agg l

/-- Fields one behind the other from a cell on. -/
def consec (P : Program) : Nat → List Field → Nat → Bool
  | o, [], n => Nat.beq o n
  | o, f :: fs, n => Nat.beq f.offset o && consec P (o + P.cellsOf f.type) fs n

/-- Types that hold no pointer, and whose parts are of these types again. -/
def plain1 (P : Program) (ts : List TypeId) (t : TypeId) : Bool :=
  match P.underlying t with
  | some (.int _) | some .bool | some .string => P.cellsOf t == 1
  | some (.struct fs) => consec P 0 fs.toList (P.cellsOf t) && fs.toList.all fun f => ts.contains f.type
  | some (.slice e) => P.cellsOf t == 1 && (decide (0 < P.cellsOf e) && decide (0 < P.bytesOf e)) && ts.contains e
  | _ => false
def plainS (P : Program) (ts : List TypeId) : Bool := ts.all (plain1 P ts)

/-- The cells of a value of such a type; its texts have at most M bytes. -/
def Has (P : Program) (M : Nat) : Nat → TypeId → List AV → Prop
  | 0, _, _ => False
  | k + 1, t, cs => match P.underlying t with
    | some (.int ik) => ∃ n, cs = [.int ik n] ∧ (Lit.int ik n).wf = true
    | some .bool => ∃ b, cs = [.bool b]
    | some .string => ∃ s, cs = [.str s] ∧ s.length ≤ M
    | some (.struct fs) => HasL (Has P M k) fs.toList cs
    | some (.slice e) => ∃ l : List (List AV), cs = [.list (l.map elemV)] ∧ l.length ≤ maxLen ∧ (∀ c ∈ l, Has P M k e c) ∧ l.length ≤ M
    | _ => False
where
  HasL (h : TypeId → List AV → Prop) : List Field → List AV → Prop
    | [], cs => cs = []
    | f :: fs, cs => ∃ a b, cs = a ++ b ∧ h f.type a ∧ HasL h fs b

theorem elemV_cells {l : List AV} (h : l.all AV.leaf = true) : (elemV l).cells = l := by
  match l, h with
  | [], _ => rfl
  | [x], h => cases x <;> first | rfl | simp [AV.leaf] at h
  | _ :: _ :: _, _ => rfl

theorem repL_flatten {G : Gh} : ∀ {ls : List (List AV)} {cs : List (List Value)}, ls.length = cs.length → (∀ i (h1 : i < ls.length) (h2 : i < cs.length), RepL G ls[i] cs[i]) → RepL G ls.flatten cs.flatten
  | [], [], _, _ => .nil
  | l :: ls, c :: cs, hn, h => by
    rw [List.flatten_cons, List.flatten_cons]
    exact RepL.append (h 0 (by simp) (by simp)) (repL_flatten (by simpa using hn) fun i h1 h2 => h (i + 1) (by simpa using h1) (by simpa using h2))
  | [], _ :: _, hn, _ => by simp at hn
  | _ :: _, [], hn, _ => by simp at hn

section
variable {H : Type} {enc : TypeId × Value → H} {P : Program} {W : World} {M : Nat}

theorem bulk_mem {d : DataW H} : ∀ {l : List (DataW H)}, d ∈ l → Rows.uptoBulk d ≤ Rows.uptoBulkAll l
  | [], h => by cases h
  | x :: l, h => by
    rw [Rows.uptoBulkAll]
    rcases List.mem_cons.1 h with rfl | h
    · omega
    · have := bulk_mem h
      omega

/-- What is not too long: as the model has it, by its bulk, or by its parts' weights. -/
def Fit (P : Program) (M : Nat) (t : TypeId) (d : DataW H) : Prop := M = maxLen ∨ Rows.uptoBulk d ≤ M ∨ (d.weights P t).all (· ≤ M) = true

theorem weights_at {t : TypeId} {d : DataW H} : ∀ {ts : List TypeId} {ds : List (DataW H)} (i : Nat), (DataW.weightsEach P ts ds).all (· ≤ M) = true → ts[i]? = some t → ds[i]? = some d → (d.weights P t).all (· ≤ M) = true
  | [], _, _, _, h, _ => by simp at h
  | _ :: _, [], _, _, _, h => by simp at h
  | t' :: ts, d' :: ds, 0, h, h1, h2 => by
    rw [DataW.weightsEach, List.all_append, Bool.and_eq_true] at h
    cases h1; cases h2
    exact h.1
  | t' :: ts, d' :: ds, i + 1, h, h1, h2 => by
    rw [DataW.weightsEach, List.all_append, Bool.and_eq_true] at h
    exact weights_at i h.2 (by simpa using h1) (by simpa using h2)

theorem weightsAll_mem {e : TypeId} {d : DataW H} : ∀ {ds : List (DataW H)}, (DataW.weightsAll P e ds).all (· ≤ M) = true → d ∈ ds → (d.weights P e).all (· ≤ M) = true
  | [], _, h => by cases h
  | d' :: ds, h, hd => by
    rw [DataW.weightsAll, List.all_append, Bool.and_eq_true] at h
    rcases List.mem_cons.1 hd with rfl | hd
    · exact h.1
    · exact weightsAll_mem h.2 hd

/-- What the reading of some cells gives. -/
def Opn (W : World) (h : List AV → Prop) (n : Nat) (cs : List Value) : Prop :=
  ∃ avs, h avs ∧ RepL (Gh.bare fun b o => sv W b o) avs cs ∧ avs.length = n ∧ AV.rfL avs = true ∧ avs.all AV.leaf = true

theorem open_fields {h : TypeId → List AV → Prop} {cs : List Value} : ∀ (fs : List Field) (o : Nat), consec P o fs cs.length = true → (∀ f ∈ fs, Opn W (h f.type) (P.cellsOf f.type) ((cs.drop f.offset).take (P.cellsOf f.type))) →
    Opn W (Has.HasL h fs) (cs.length - o) (cs.drop o)
  | [], o, hc, _ => by
    have e : o = cs.length := Nat.eq_of_beq_eq_true hc
    refine ⟨[], rfl, ?_, by simp [e], rfl, rfl⟩
    rw [e, List.drop_length]
    exact .nil
  | f :: fs, o, hc, hf => by
    simp only [consec, Bool.and_eq_true] at hc
    have eo : f.offset = o := Nat.eq_of_beq_eq_true hc.1
    obtain ⟨a, a1, a2, a3, a4, a5⟩ := hf f (by simp)
    obtain ⟨b, b1, b2, b3, b4, b5⟩ := open_fields fs _ hc.2 fun g hg => hf g (by simp [hg])
    rw [eo] at a2
    refine ⟨a ++ b, ⟨a, b, rfl, a1, b1⟩, ?_, ?_, by rw [rfL_append, a4, b4] <;> rfl, by rw [List.all_append, a5, b5] <;> rfl⟩
    · have := RepL.append a2 b2
      rwa [← List.drop_drop, List.take_append_drop] at this
    · have hlen : a.length = ((cs.drop o).take (P.cellsOf f.type)).length := (RepL.length a2).symm
      rw [List.length_append, a3, b3]
      rw [a3, List.length_take, List.length_drop] at hlen
      omega

theorem open_deep {ts : List TypeId} (hP : plainS P ts = true) : ∀ (k : Nat) (t : TypeId) (cs : List Value) (d : DataW H) (pl : List MemPlace), ts.contains t = true → DataW.trod enc P W 0 (fun _ => true) true k t cs = some (d, pl) → Fit P M t d →
    Opn W (Has P M k t) (P.cellsOf t) cs
  | 0, _, _, _, _, _, h, _ => by simp [DataW.trod] at h
  | k + 1, t, cs, d, pl, ht, h, hb => by
    have hp := List.all_eq_true.1 hP t (by simpa using ht)
    unfold plain1 at hp
    split at hp
    · rename_i ik hu
      obtain ⟨v, rfl, _, hw⟩ := DataW.trod_int hu h
      refine ⟨[.int ik v], ?_, .cons (.int ik v) .nil, by rw [beq_iff_eq] at hp; simp [hp], rfl, rfl⟩
      simp only [Has, hu]
      exact ⟨v, rfl, hw⟩
    · rename_i hu
      obtain ⟨b, rfl, _⟩ := DataW.trod_bool hu h
      refine ⟨[.bool b], ?_, .cons (.bool b) .nil, by rw [beq_iff_eq] at hp; simp [hp], rfl, rfl⟩
      simp only [Has, hu]
      exact ⟨b, rfl⟩
    · rename_i hu
      obtain ⟨⟨⟨s⟩⟩, rfl, e, hw⟩ := DataW.trod_string hu h
      have hw : s.length ≤ M := by
        cases e
        rcases hb with rfl | hb | hb
        · exact hw
        · rw [Rows.uptoBulk] at hb
          exact Nat.le_trans (Nat.le_succ _) hb
        · rw [DataW.weights] at hb
          simpa using hb
      refine ⟨[.str s], ?_, .cons (.str s) .nil, by rw [beq_iff_eq] at hp; simp [hp], rfl, rfl⟩
      simp only [Has, hu]
      exact ⟨s, rfl, hw⟩
    · rename_i fs hu
      simp only [Bool.and_eq_true, List.all_eq_true] at hp
      obtain ⟨xs, n', hk, e, hlen, hxl, hx⟩ := DataW.trod_struct hu h
      obtain rfl : k = n' := by omega
      have hbx : ∀ (i : Nat) x (f : Field), xs[i]? = some x → fs[i]? = some f → Fit P M f.type x.1 := fun i x f hx hf => by
        cases e
        refine hb.imp id fun hb => hb.imp (fun hb => ?_) fun hb => ?_
        · rw [Rows.uptoBulk] at hb
          have := bulk_mem (l := xs.map (·.1)) (List.mem_map.2 ⟨x, List.mem_of_getElem? hx, rfl⟩)
          omega
        · rw [DataW.weights, hu] at hb
          exact weights_at i hb (by simp [hf]) (by simp [hx])
      have := open_fields (W := W) (h := Has P M k) (cs := cs) fs.toList 0 (by rw [hlen]; exact hp.1) (fun f hf => by
        obtain ⟨i, hi⟩ := List.mem_iff_getElem?.1 hf
        have hi' : fs[i]? = some f := by simpa using hi
        have hlt : i < fs.size := by
          have := List.getElem?_eq_some_iff.1 hi
          simpa using this.1
        have h2 := hx i f hi'
        rw [List.getElem?_eq_getElem (by omega)] at h2
        exact open_deep hP k f.type _ _ _ (hp.2 f hf) h2 (hbx i _ f (List.getElem?_eq_getElem (by omega)) hi'))
      rw [List.drop_zero, Nat.sub_zero, hlen] at this
      obtain ⟨avs, h1, h2⟩ := this
      refine ⟨avs, ?_, h2⟩
      simp only [Has, hu]
      exact h1
    · rename_i e hu
      simp only [Bool.and_eq_true, decide_eq_true_eq, beq_iff_eq] at hp
      obtain ⟨⟨h1, h0, hby⟩, hpe⟩ := hp
      rcases DataW.trod_slice hu h with ⟨rfl, _⟩ | ⟨a, len, cap, elems, rest, n', hk, rfl, e0, _, hl, hm, hln0, hel, _⟩
      · refine ⟨[.list []], ?_, .cons (.list (cs := []) (sz := 0) .nil (by simp) rfl rfl (by simp) rfl (Nat.zero_le _) (Nat.zero_le _)) .nil, by simp [h1], rfl, rfl⟩
        simp only [Has, hu]
        exact ⟨[], rfl, Nat.zero_le _, by simp, Nat.zero_le _⟩
      · obtain rfl : k = n' := by omega
        have hbx : ∀ x ∈ elems, Fit P M e x.1 := fun x hx => by
          cases e0
          refine hb.imp id fun hb => hb.imp (fun hb => ?_) fun hb => ?_
          · rw [Rows.uptoBulk] at hb
            have := bulk_mem (l := elems.map (·.1)) (List.mem_map.2 ⟨x, hx, rfl⟩)
            omega
          · rw [DataW.weights, hu, List.all_cons, List.all_append, Bool.and_eq_true, Bool.and_eq_true] at hb
            exact weightsAll_mem hb.2.1 (List.mem_map.2 ⟨x, hx, rfl⟩)
        have hlenM : len ≤ M := by
          cases e0
          rcases hb with rfl | hb | hb
          · omega
          · have key : ∀ l : List (DataW H), l.length ≤ Rows.uptoBulkAll l := by
              intro l
              induction l with
              | nil => simp
              | cons x l ih =>
                have : 1 ≤ Rows.uptoBulk x := by unfold Rows.uptoBulk; split <;> omega
                rw [Rows.uptoBulkAll, List.length_cons]
                omega
            rw [Rows.uptoBulk] at hb
            have := key (elems.map (·.1))
            rw [List.length_map] at this
            omega
          · rw [DataW.weights, hu, List.all_cons, Bool.and_eq_true] at hb
            have h5 := hb.1
            simp only [decide_eq_true_eq, List.length_map] at h5
            have h6 : elems.length * 1 ≤ (elems.length + rest.length) * P.bytesOf e := Nat.mul_le_mul (Nat.le_add_right _ _) hby
            omega
        haveI : Inhabited ({c : List Value // c.length = P.cellsOf e} × List AV) := ⟨(⟨List.replicate (P.cellsOf e) (.bool false), by simp⟩, [])⟩
        obtain ⟨F, hF⟩ := choose_lt (α := {c : List Value // c.length = P.cellsOf e} × List AV) (n := len) (p := fun i x => W.cells? 0 (a.add (i * P.cellsOf e)) (P.cellsOf e) = some x.1.1 ∧ Has P M k e x.2 ∧ RepL (Gh.bare fun b o => sv W b o) x.2 x.1.1 ∧ x.2.length = P.cellsOf e ∧ AV.rfL x.2 = true ∧ x.2.all AV.leaf = true) (fun i hi => by
          have hb := hel i hi
          rw [List.getElem?_eq_getElem (by omega)] at hb
          obtain ⟨cs', c1, c2⟩ := Option.bind_eq_some_iff.1 hb
          obtain ⟨_, hln, _⟩ := World.cells?_some c1
          obtain ⟨avs, o1, o2, o3, o4, o5⟩ := open_deep hP k e cs' _ _ hpe c2 (hbx _ (List.getElem_mem _))
          exact ⟨(⟨cs', hln⟩, avs), c1, o1, o2, o3, o4, o5⟩)
        have cellAt : ∀ i j, i < len → j < P.cellsOf e → W.cell? (a.add (i * P.cellsOf e + j)) = (F i).1.1[j]? := by
          intro i j hi hj
          obtain ⟨_, _, h3⟩ := World.cells?_some (hF i hi).1
          rw [← h3 j hj, add_add]
        have hspot : 0 < len → a.spot = none := by
          intro hc
          have := cellAt 0 0 hc h0
          rw [Nat.zero_mul, show a.add (0 + 0) = a from rfl, List.getElem?_eq_getElem (by rw [(F 0).1.2]; exact h0)] at this
          unfold World.cell? at this
          split at this
          · split at this
            · cases this
            · rename_i h; simpa using h
          · cases this
        have hel' : ∀ c ∈ (List.range len).map (fun i => (F i).2), ∃ i, i < len ∧ c = (F i).2 := by
          intro c hc
          obtain ⟨i, hi, rfl⟩ := List.mem_map.1 hc
          exact ⟨i, List.mem_range.1 hi, rfl⟩
        have hflat : ∀ L : List (List AV), (∀ c ∈ L, c.all AV.leaf = true) → flat (L.map elemV) = L.flatten := by
          intro L
          induction L with
          | nil => intro _; rfl
          | cons c L ih =>
            intro hh
            show (elemV c).cells ++ flat (L.map elemV) = c ++ L.flatten
            rw [elemV_cells (hh c (by simp)), ih fun x hx => hh x (by simp [hx])]
        have hrf : ∀ L : List (List AV), (∀ c ∈ L, AV.rfL c = true) → AV.rfL L.flatten = true := by
          intro L
          induction L with
          | nil => intro _; rfl
          | cons c L ih =>
            intro hh
            rw [List.flatten_cons, rfL_append, hh c (by simp), ih fun x hx => hh x (by simp [hx])] <;> rfl
        have hlf : ∀ L : List (List AV), (∀ c ∈ L, c.all AV.leaf = true) → L.flatten.all AV.leaf = true := by
          intro L
          induction L with
          | nil => intro _; rfl
          | cons c L ih =>
            intro hh
            rw [List.flatten_cons, List.all_append, hh c (by simp), ih fun x hx => hh x (by simp [hx])] <;> rfl
        have hl1 : ∀ c ∈ (List.range len).map (fun i => (F i).2), c.all AV.leaf = true := fun c hc => by
          obtain ⟨i, hi, rfl⟩ := hel' c hc
          exact (hF i hi).2.2.2.2.2
        have hl2 : ∀ c ∈ (List.range len).map (fun i => (F i).2), AV.rfL c = true := fun c hc => by
          obtain ⟨i, hi, rfl⟩ := hel' c hc
          exact (hF i hi).2.2.2.2.1
        refine ⟨[.list (((List.range len).map fun i => (F i).2).map elemV)], ?_, .cons (.list (cs := ((List.range len).map fun i => (F i).1.1).flatten) (sz := P.cellsOf e) ?_ ?_ ?_ ?_ ?_ (by simp) hl (by omega)) .nil, by simp [h1], rfl, rfl⟩
        · simp only [Has, hu]
          refine ⟨_, rfl, by simp; omega, ?_, by simpa using hlenM⟩
          intro c hc
          obtain ⟨i, hi, rfl⟩ := hel' c hc
          exact (hF i hi).2.1
        · rw [hflat _ hl1]
          refine repL_flatten (by simp) fun i g1 g2 => ?_
          simp only [List.length_map, List.length_range] at g1
          simp only [List.getElem_map, List.getElem_range]
          exact (hF i (by omega)).2.2.1
        · intro x hx
          obtain ⟨c, hc, rfl⟩ := List.mem_map.1 hx
          rw [elemV_cells (hl1 c hc)]
          obtain ⟨i, hi, rfl⟩ := hel' c hc
          exact (hF i hi).2.2.2.1
        · rw [hflat _ hl1]; exact hrf _ hl2
        · rw [hflat _ hl1]; exact hlf _ hl1
        · intro j u hj
          rw [← List.flatMap_def, flatMap_get h0 (fun i => (F i).1.2)] at hj
          by_cases hi : j / P.cellsOf e < len
          · rw [List.getElem?_range hi] at hj
            have hj : (F (j / P.cellsOf e)).1.1[j % P.cellsOf e]? = some u := hj
            have hk := cellAt (j / P.cellsOf e) (j % P.cellsOf e) (by omega) (Nat.mod_lt _ h0)
            rw [hj, Nat.div_add_mod'] at hk
            have hs := hspot (Nat.lt_of_le_of_lt (Nat.zero_le _) hi)
            obtain ⟨b, o, s⟩ := a
            subst hs
            refine ⟨b, o, rfl, ?_⟩
            refine sv_cell ?_
            show W.cell? ⟨b, o + j, none⟩ = some u
            rw [← hk]
            unfold Addr.add
            split
            · rename_i h; rw [h]; rfl
            · rfl
          · rw [List.getElem?_eq_none (by simp; omega)] at hj
            cases hj
    · cases hp

/-- An argument reads the same in a later world. -/
theorem deep_stays {t : TypeId} {v : Value} {d : DataW H} {p : List MemPlace} (hl : laidOutB P = true) (hr : P.readableRec t = true) (hrow : t < P.types.size) (h : DataW.Trod enc P W 0 (fun _ => true) true t v d p) :
    ∀ (W' : World) (sp : Nat → Bool), Below W.heap.size W W' → (∀ q ∈ p, sp q.block = true) → DataW.Trod enc P W' 0 sp true t v d p := by
  intro W' sp hb hs
  obtain ⟨n, hn⟩ := h
  exact Trod_stays hl hr hrow ⟨n, hn⟩ (fun x hx => hb.same (DataW.trod_lt n _ _ _ hn x hx)) hs

/-- An argument that is a struct. -/
theorem open_struct {t : TypeId} {fs : Array Field} {ts : List TypeId} {r : Reach} {b0 : Nat} {v : Value} {d : DataW H} {p : List MemPlace} (hP : plainS P ts = true) (ht : ts.contains t = true) (hs : P.underlying t = some (.struct fs)) (hv : Value.okWide P W r b0 t v)
    (h : DataW.Trod enc P W 0 (fun _ => true) true t v d p) (hb : Fit P M t d) : ∃ k avs, Has P M k t avs ∧ Rep (Gh.bare fun b o => sv W b o) (.agg avs) v := by
  obtain ⟨⟨cs⟩, rfl, _⟩ := okWide_struct hs hv
  obtain ⟨n, hn⟩ := h
  obtain ⟨avs, h1, h2, _⟩ := open_deep hP n t _ _ _ ht hn hb
  exact ⟨n, avs, h1, .agg h2⟩

/-- An argument that is a slice. -/
theorem open_slc {t e : TypeId} {ts : List TypeId} {r : Reach} {b0 : Nat} {v : Value} {d : DataW H} {p : List MemPlace} (hP : plainS P ts = true) (ht : ts.contains t = true) (hs : P.underlying t = some (.slice e)) (hv : Value.okWide P W r b0 t v)
    (h : DataW.Trod enc P W 0 (fun _ => true) true t v d p) (hb : Fit P M t d) : ∃ (k : Nat) (l : List (List AV)), (∀ c ∈ l, Has P M k e c) ∧ l.length ≤ maxLen ∧ Rep (Gh.bare fun b o => sv W b o) (.list (l.map elemV)) v := by
  obtain ⟨a0, len0, cap0, rfl⟩ := okWide_slice hs hv
  obtain ⟨n, hn⟩ := h
  obtain ⟨avs, h1, h2, _⟩ := open_deep hP n t _ _ _ ht hn hb
  cases n with
  | zero => cases h1
  | succ k =>
  simp only [Has, hs] at h1
  obtain ⟨l, rfl, h3, h4, _⟩ := h1
  refine ⟨k, l, h4, h3, ?_⟩
  have h2 : RepL (Gh.bare fun b o => sv W b o) [.list (l.map elemV)] [.slice a0 len0 cap0] := h2
  cases h2 with
  | cons h _ => exact h

/-- Cells by what they are. -/
theorem list_of {X : Type} {f : X → List AV} {ok : X → Prop} : ∀ {l : List (List AV)}, (∀ c ∈ l, ∃ x, ok x ∧ c = f x) → ∃ xs : List X, l = xs.map f ∧ ∀ x ∈ xs, ok x
  | [], _ => ⟨[], rfl, by simp⟩
  | c :: l, h => by
    obtain ⟨x, hx, rfl⟩ := h c (by simp)
    obtain ⟨xs, rfl, hxs⟩ := list_of (l := l) fun c hc => h c (by simp [hc])
    exact ⟨x :: xs, rfl, by simpa using ⟨hx, hxs⟩⟩

end

end Go.Proofs.YtkjjfbknppahhaaGreatDoor.Br

/- Plans as arguments: what their cells are. -/
namespace Go.Proofs.YtkjjfbknppahhaaGreatDoor.Br
open Go Am

section
variable {P : Program} {M k : Nat} {t : TypeId} {cs : List AV}

theorem has_int {ik : IntKind} (hu : P.underlying t = some (.int ik)) (h : Has P M k t cs) : ∃ n, cs = [.int ik n] ∧ (Lit.int ik n).wf = true := by
  cases k with
  | zero => cases h
  | succ k => simpa only [Has, hu] using h

theorem has_bool (hu : P.underlying t = some .bool) (h : Has P M k t cs) : ∃ b, cs = [.bool b] := by
  cases k with
  | zero => cases h
  | succ k => simpa only [Has, hu] using h

theorem has_str (hu : P.underlying t = some .string) (h : Has P M k t cs) : ∃ s, cs = [.str s] ∧ s.length ≤ M := by
  cases k with
  | zero => cases h
  | succ k => simpa only [Has, hu] using h

theorem has_slice {e : TypeId} (hu : P.underlying t = some (.slice e)) (h : Has P M k t cs) : ∃ (k' : Nat) (l : List (List AV)), cs = [.list (l.map elemV)] ∧ l.length ≤ maxLen ∧ ∀ c ∈ l, Has P M k' e c := by
  cases k with
  | zero => cases h
  | succ k =>
    simp only [Has, hu] at h
    obtain ⟨l, h1, h2, h3, _⟩ := h
    exact ⟨k, l, h1, h2, h3⟩

/-- .. with the bound. -/
theorem has_sliceM {e : TypeId} (hu : P.underlying t = some (.slice e)) (h : Has P M k t cs) : ∃ (k' : Nat) (l : List (List AV)), cs = [.list (l.map elemV)] ∧ l.length ≤ M ∧ ∀ c ∈ l, Has P M k' e c := by
  cases k with
  | zero => cases h
  | succ k =>
    simp only [Has, hu] at h
    obtain ⟨l, h1, _, h3, h4⟩ := h
    exact ⟨k, l, h1, h4, h3⟩

theorem has_struct {fs : Array Field} (hu : P.underlying t = some (.struct fs)) (h : Has P M k t cs) : ∃ k', Has.HasL (Has P M k') fs.toList cs := by
  cases k with
  | zero => cases h
  | succ k =>
    simp only [Has, hu] at h
    exact ⟨k, h⟩

end

/-- An operation. -/
structure PO where
  num : Int
  name : List UInt8
  alias : List UInt8
  card : Int
  key : Int
  kind : Int
  target : Int
  union : Int

def PO.cells (o : PO) : List AV := [.int .i64 o.num, .str o.name, .str o.alias, .int .i64 o.card, .int .i64 o.key, .int .i64 o.kind, .int .i64 o.target, .int .i64 o.union]

structure PO.ok (M : Nat) (o : PO) : Prop where
  num : (Lit.int .i64 o.num).wf = true
  name : o.name.length ≤ M
  alias : o.alias.length ≤ M
  card : (Lit.int .i64 o.card).wf = true
  key : (Lit.int .i64 o.key).wf = true
  kind : (Lit.int .i64 o.kind).wf = true
  target : (Lit.int .i64 o.target).wf = true
  union : (Lit.int .i64 o.union).wf = true

theorem has_op {M k : Nat} {cs : List AV} (h : Has Tryz.prog M k 23 cs) : ∃ o : PO, o.ok M ∧ cs = o.cells := by
  obtain ⟨k, h⟩ := has_struct Tryz.underlying23 h
  simp only [Has.HasL] at h
  obtain ⟨_, _, rfl, h0, _, _, rfl, h1, _, _, rfl, h2, _, _, rfl, h3, _, _, rfl, h4, _, _, rfl, h5, _, _, rfl, h6, _, _, rfl, h7, rfl⟩ := h
  obtain ⟨a0, rfl, w0⟩ := has_int Tryz.underlying3 h0
  obtain ⟨a1, rfl, w1⟩ := has_str Tryz.underlying9 h1
  obtain ⟨a2, rfl, w2⟩ := has_str Tryz.underlying9 h2
  obtain ⟨a3, rfl, w3⟩ := has_int Tryz.underlying3 h3
  obtain ⟨a4, rfl, w4⟩ := has_int Tryz.underlying3 h4
  obtain ⟨a5, rfl, w5⟩ := has_int Tryz.underlying3 h5
  obtain ⟨a6, rfl, w6⟩ := has_int Tryz.underlying3 h6
  obtain ⟨a7, rfl, w7⟩ := has_int Tryz.underlying3 h7
  exact ⟨⟨a0, a1, a2, a3, a4, a5, a6, a7⟩, ⟨w0, w1, w2, w3, w4, w5, w6, w7⟩, rfl⟩

/-- What is known of a program: its operations. -/
structure PG where
  name : List UInt8
  ops : List PO
  unions : Int

def PG.cells (g : PG) : List AV := [.str g.name, .list (g.ops.map fun o => .agg o.cells), .int .i64 g.unions]

structure PG.ok (M : Nat) (g : PG) : Prop where
  name : g.name.length ≤ M
  len : g.ops.length ≤ maxLen
  ops : ∀ o ∈ g.ops, o.ok M
  unions : (Lit.int .i64 g.unions).wf = true

theorem has_prog {M k : Nat} {cs : List AV} (h : Has Tryz.prog M k 42 cs) : ∃ g : PG, g.ok M ∧ cs = g.cells := by
  obtain ⟨k, h⟩ := has_struct Tryz.underlying42 h
  simp only [Has.HasL] at h
  obtain ⟨_, _, rfl, h0, _, _, rfl, h1, _, _, rfl, h2, rfl⟩ := h
  obtain ⟨a0, rfl, w0⟩ := has_str Tryz.underlying9 h0
  obtain ⟨k', l, rfl, w1, hl⟩ := has_slice Tryz.underlying40 h1
  obtain ⟨a2, rfl, w2⟩ := has_int Tryz.underlying3 h2
  obtain ⟨ops, rfl, hok⟩ := list_of (f := PO.cells) (ok := PO.ok M) fun c hc => has_op (hl c hc)
  refine ⟨⟨a0, ops, a2⟩, ⟨w0, by simpa using w1, hok, w2⟩, ?_⟩
  simp only [PG.cells, List.map_map, List.cons_append, List.nil_append]
  rfl

/-- Numbers that are kept free. -/
structure PS where
  lo : Int
  hi : Int

def PS.cells (x : PS) : List AV := [.int .i64 x.lo, .int .i64 x.hi]
def PS.ok (x : PS) : Prop := (Lit.int .i64 x.lo).wf = true ∧ (Lit.int .i64 x.hi).wf = true

theorem has_span {M k : Nat} {cs : List AV} (h : Has Tryz.prog M k 100 cs) : ∃ x : PS, x.ok ∧ cs = x.cells := by
  obtain ⟨k, h⟩ := has_struct Tryz.underlying100 h
  simp only [Has.HasL] at h
  obtain ⟨_, _, rfl, h0, _, _, rfl, h1, rfl⟩ := h
  obtain ⟨a0, rfl, w0⟩ := has_int Tryz.underlying3 h0
  obtain ⟨a1, rfl, w1⟩ := has_int Tryz.underlying3 h1
  exact ⟨⟨a0, a1⟩, ⟨w0, w1⟩, rfl⟩

/-- A note: its value is left as it is. -/
structure PN where
  name : List UInt8
  val : List AV

def PN.cells (x : PN) : List AV := .str x.name :: x.val
def PN.ok (P : Program) (M : Nat) (t : TypeId) (x : PN) : Prop := x.name.length ≤ M ∧ ∃ k, Has P M k t x.val

theorem has_note {M k : Nat} {cs : List AV} (h : Has Tryz.prog M k 104 cs) : ∃ x : PN, x.ok Tryz.prog M 30 ∧ cs = x.cells := by
  obtain ⟨k, h⟩ := has_struct Tryz.underlying104 h
  simp only [Has.HasL] at h
  obtain ⟨_, _, rfl, h0, a1, _, rfl, h1, rfl⟩ := h
  obtain ⟨a0, rfl, w0⟩ := has_str Tryz.underlying9 h0
  exact ⟨⟨a0, a1⟩, ⟨w0, k, h1⟩, by simp [PN.cells]⟩

structure PI where
  name : List UInt8
  num : Int
  notes : List PN

def PI.cells (x : PI) : List AV := [.str x.name, .int .i64 x.num, .list (x.notes.map fun n => elemV n.cells)]

structure PI.ok (M : Nat) (x : PI) : Prop where
  name : x.name.length ≤ M
  num : (Lit.int .i64 x.num).wf = true
  len : x.notes.length ≤ maxLen
  notes : ∀ n ∈ x.notes, n.ok Tryz.prog M 30

theorem has_item {M k : Nat} {cs : List AV} (h : Has Tryz.prog M k 80 cs) : ∃ x : PI, x.ok M ∧ cs = x.cells := by
  obtain ⟨k, h⟩ := has_struct Tryz.underlying80 h
  simp only [Has.HasL] at h
  obtain ⟨_, _, rfl, h0, _, _, rfl, h1, _, _, rfl, h2, rfl⟩ := h
  obtain ⟨a0, rfl, w0⟩ := has_str Tryz.underlying9 h0
  obtain ⟨a1, rfl, w1⟩ := has_int Tryz.underlying3 h1
  obtain ⟨k', l, rfl, w2, hl⟩ := has_slice Tryz.underlying54 h2
  obtain ⟨ns, rfl, hok⟩ := list_of (f := PN.cells) (ok := PN.ok Tryz.prog M 30) fun c hc => has_note (hl c hc)
  refine ⟨⟨a0, a1, ns⟩, ⟨w0, w1, by simpa using w2, hok⟩, ?_⟩
  simp only [PI.cells, List.map_map, List.cons_append, List.nil_append]
  rfl

structure PE where
  name : List UInt8
  opn : Bool
  items : List PI
  free : List PS
  notes : List PN

def PE.cells (x : PE) : List AV := [.str x.name, .bool x.opn, .list (x.items.map fun n => .agg n.cells), .list (x.free.map fun n => .agg n.cells), .list (x.notes.map fun n => elemV n.cells)]

structure PE.ok (M : Nat) (x : PE) : Prop where
  name : x.name.length ≤ M
  len1 : x.items.length ≤ maxLen
  items : ∀ n ∈ x.items, n.ok M
  len2 : x.free.length ≤ maxLen
  free : ∀ n ∈ x.free, n.ok
  len3 : x.notes.length ≤ maxLen
  notes : ∀ n ∈ x.notes, n.ok Tryz.prog M 30

theorem has_enum {M k : Nat} {cs : List AV} (h : Has Tryz.prog M k 72 cs) : ∃ x : PE, x.ok M ∧ cs = x.cells := by
  obtain ⟨k, h⟩ := has_struct Tryz.underlying72 h
  simp only [Has.HasL] at h
  obtain ⟨_, _, rfl, h0, _, _, rfl, h1, _, _, rfl, h2, _, _, rfl, h3, _, _, rfl, h4, rfl⟩ := h
  obtain ⟨a0, rfl, w0⟩ := has_str Tryz.underlying9 h0
  obtain ⟨a1, rfl⟩ := has_bool Tryz.underlying4 h1
  obtain ⟨k2, l2, rfl, w2, hl2⟩ := has_slice Tryz.underlying70 h2
  obtain ⟨k3, l3, rfl, w3, hl3⟩ := has_slice Tryz.underlying61 h3
  obtain ⟨k4, l4, rfl, w4, hl4⟩ := has_slice Tryz.underlying54 h4
  obtain ⟨x2, rfl, o2⟩ := list_of (f := PI.cells) (ok := PI.ok M) fun c hc => has_item (hl2 c hc)
  obtain ⟨x3, rfl, o3⟩ := list_of (f := PS.cells) (ok := PS.ok) fun c hc => has_span (hl3 c hc)
  obtain ⟨x4, rfl, o4⟩ := list_of (f := PN.cells) (ok := PN.ok Tryz.prog M 30) fun c hc => has_note (hl4 c hc)
  refine ⟨⟨a0, a1, x2, x3, x4⟩, ⟨w0, by simpa using w2, o2, by simpa using w3, o3, by simpa using w4, o4⟩, ?_⟩
  simp only [PE.cells, List.map_map, List.cons_append, List.nil_append]
  rfl

structure PL where
  progs : List PG
  enums : List PE

def PL.av (p : PL) : AV := .agg [.list (p.progs.map fun n => .agg n.cells), .list (p.enums.map fun n => .agg n.cells)]

structure PL.ok (M : Nat) (x : PL) : Prop where
  len1 : x.progs.length ≤ maxLen
  progs : ∀ n ∈ x.progs, n.ok M
  len2 : x.enums.length ≤ maxLen
  enums : ∀ n ∈ x.enums, n.ok M

theorem has_plan {M k : Nat} {cs : List AV} (h : Has Tryz.prog M k 39 cs) : ∃ x : PL, x.ok M ∧ .agg cs = x.av := by
  obtain ⟨k, h⟩ := has_struct Tryz.underlying39 h
  simp only [Has.HasL] at h
  obtain ⟨_, _, rfl, h0, _, _, rfl, h1, rfl⟩ := h
  obtain ⟨k2, l2, rfl, w2, hl2⟩ := has_slice Tryz.underlying36 h0
  obtain ⟨k3, l3, rfl, w3, hl3⟩ := has_slice Tryz.underlying37 h1
  obtain ⟨x2, rfl, o2⟩ := list_of (f := PG.cells) (ok := PG.ok M) fun c hc => has_prog (hl2 c hc)
  obtain ⟨x3, rfl, o3⟩ := list_of (f := PE.cells) (ok := PE.ok M) fun c hc => has_enum (hl3 c hc)
  refine ⟨⟨x2, x3⟩, ⟨by simpa using w2, o2, by simpa using w3, o3⟩, ?_⟩
  simp only [PL.av, List.map_map, List.cons_append, List.nil_append]
  rfl

end Go.Proofs.YtkjjfbknppahhaaGreatDoor.Br

/- Plain laws of varints: lists of bytes and numbers, no program in sight. -/
namespace Go.Proofs.YtkjjfbknppahhaaGreatDoor.Vp

/-- The varint of u, of at most k + 1 groups. -/
def vput : Nat → Nat → List UInt8
  | 0, u => [UInt8.ofNat u]
  | k + 1, u => if u < 128 then [UInt8.ofNat u] else UInt8.ofNat (u % 128 + 128) :: vput k (u / 128)

def put (u : Nat) : List UInt8 := vput 9 u

/-- Reading a varint: the i-th byte is next, acc has been read. The number, the length, the error. -/
def vtk : Nat → Nat → List UInt8 → Nat × Nat × Nat
  | _, _, [] => (0, 0, 4)
  | i, acc, c :: t =>
    if i = 9 ∧ 1 < c.toNat then (0, 0, 6)
    else if c.toNat < 128 then (acc + c.toNat * 128 ^ i, i + 1, 0)
    else vtk (i + 1) (acc + (c.toNat - 128) * 128 ^ i) t

def take (s : List UInt8) : Nat × Nat × Nat := vtk 0 0 s

theorem toNat_ofNat (n : Nat) (h : n < 256) : (UInt8.ofNat n).toNat = n := by
  simp [UInt8.toNat_ofNat']; omega

theorem vput_ne (k u : Nat) : vput k u ≠ [] := by
  cases k with
  | zero => simp [vput]
  | succ k => unfold vput; split <;> simp

theorem vput_len (k u : Nat) : 1 ≤ (vput k u).length ∧ (vput k u).length ≤ k + 1 := by
  induction k generalizing u with
  | zero => simp [vput]
  | succ k ih =>
    unfold vput
    split
    · simp
    · have := ih (u / 128); simp; omega

theorem put_len (u : Nat) : 1 ≤ (put u).length ∧ (put u).length ≤ 10 := vput_len 9 u

theorem vput_small (k u : Nat) (h : u < 128) : vput k u = [UInt8.ofNat u] := by
  cases k <;> simp [vput, h]

theorem vput_big (k u : Nat) (h : ¬ u < 128) : vput (k + 1) u = UInt8.ofNat (u % 128 + 128) :: vput k (u / 128) := by
  simp [vput, h]

theorem vput_mono (k u v : Nat) (h : u ≤ v) : (vput k u).length ≤ (vput k v).length := by
  induction k generalizing u v with
  | zero => simp [vput]
  | succ k ih =>
    by_cases hu : u < 128
    · rw [vput_small _ _ hu]; exact (vput_len (k + 1) v).1
    · have hv : ¬ v < 128 := by omega
      rw [vput_big _ _ hu, vput_big _ _ hv]
      have := ih (u / 128) (v / 128) (by omega)
      simp; omega

/-- More groups allowed than needed: the same varint. -/
theorem vput_more (k j u : Nat) (h : u < 128 ^ (k + 1)) (hj : k ≤ j) : vput j u = vput k u := by
  induction k generalizing j u with
  | zero =>
    have hu : u < 128 := by simpa using h
    rw [vput_small _ _ hu, vput_small _ _ hu]
  | succ k ih =>
    obtain ⟨j, rfl⟩ : ∃ i, j = i + 1 := ⟨j - 1, by omega⟩
    by_cases hu : u < 128
    · rw [vput_small _ _ hu, vput_small _ _ hu]
    · rw [vput_big _ _ hu, vput_big _ _ hu, ih j (u / 128) _ (by omega)]
      rw [Nat.pow_succ] at h
      omega

/-- The bound of what the groups from the i-th on can hold. -/
def room (i : Nat) : Nat := 2 ^ (64 - 7 * i)

theorem room_succ (i u : Nat) (hi : i < 9) (h : u < room i) : u / 128 < room (i + 1) := by
  unfold room at *
  have e : 64 - 7 * i = (64 - 7 * (i + 1)) + 7 := by omega
  rw [e, Nat.pow_add] at h
  omega

theorem vtk_put (k i acc u : Nat) (t : List UInt8) (hk : k + i = 9) (hu : u < room i) :
    vtk i acc (vput k u ++ t) = (acc + u * 128 ^ i, i + (vput k u).length, 0) := by
  induction k generalizing i acc u with
  | zero =>
    obtain rfl : i = 9 := by omega
    have hu2 : u < 2 := by simpa [room] using hu
    have hc := toNat_ofNat u (by omega)
    simp only [vput, List.cons_append, List.nil_append, vtk, hc]
    rw [if_neg (by omega), if_pos (by omega)]
    rfl
  | succ k ih =>
    by_cases h : u < 128
    · have hc := toNat_ofNat u (by omega)
      rw [vput_small _ _ h]
      simp only [List.cons_append, List.nil_append, vtk, hc]
      rw [if_neg (by omega), if_pos h]
      rfl
    · have hc := toNat_ofNat (u % 128 + 128) (by omega)
      rw [vput_big _ _ h]
      simp only [List.cons_append, vtk, hc]
      rw [if_neg (by omega), if_neg (by omega), ih (i + 1) _ (u / 128) (by omega) (room_succ i u (by omega) hu)]
      have e : acc + (u % 128 + 128 - 128) * 128 ^ i + u / 128 * 128 ^ (i + 1) = acc + u * 128 ^ i := by
        rw [Nat.pow_succ, Nat.add_sub_cancel, Nat.add_assoc, Nat.mul_comm (128 ^ i) 128, ← Nat.mul_assoc, ← Nat.add_mul]
        congr 2; omega
      rw [e]
      simp only [List.length_cons, Prod.mk.injEq, true_and, and_true]
      omega

theorem take_put (u : Nat) (t : List UInt8) (h : u < 2 ^ 64) : take (put u ++ t) = (u, (put u).length, 0) := by
  have := vtk_put 9 0 0 u t rfl (by simpa [room] using h)
  simpa [take, put] using this

theorem vtk_err (i acc : Nat) (s : List UInt8) : (vtk i acc s).2.2 = 0 ∨ (vtk i acc s).2.2 = 4 ∨ (vtk i acc s).2.2 = 6 := by
  induction s generalizing i acc with
  | nil => simp [vtk]
  | cons c t ih =>
    unfold vtk
    split
    · simp
    · split
      · simp
      · exact ih _ _

theorem vtk_zero (i acc : Nat) (s : List UInt8) (h : (vtk i acc s).2.2 ≠ 0) : (vtk i acc s).1 = 0 ∧ (vtk i acc s).2.1 = 0 := by
  induction s generalizing i acc with
  | nil => simp [vtk]
  | cons c t ih =>
    unfold vtk at h ⊢
    split
    · simp
    · rename_i h1
      rw [if_neg h1] at h
      split
      · rename_i h2; simp [h2] at h
      · rename_i h2
        rw [if_neg h2] at h
        exact ih _ _ h

/-- How far a number reads, and its bounds. -/
theorem vtk_bounds (i acc : Nat) (s : List UInt8) (hi : i ≤ 9) (ha : acc < 128 ^ i) (h : (vtk i acc s).2.2 = 0) :
    i < (vtk i acc s).2.1 ∧ (vtk i acc s).2.1 ≤ i + s.length ∧ (vtk i acc s).2.1 ≤ 10 ∧ (vtk i acc s).1 < 2 ^ 64 := by
  induction s generalizing i acc with
  | nil => simp [vtk] at h
  | cons c t ih =>
    unfold vtk at h ⊢
    split
    · rename_i h1; rw [if_pos h1] at h; simp at h
    · rename_i h1
      rw [if_neg h1] at h
      have hp : 128 ^ i = 2 ^ (7 * i) := by rw [show (128 : Nat) = 2 ^ 7 from rfl, ← Nat.pow_mul]
      split
      · rename_i h2
        refine ⟨Nat.lt_succ_self i, by simp, by show i + 1 ≤ 10; omega, ?_⟩
        show acc + c.toNat * 128 ^ i < 2 ^ 64
        rcases Nat.lt_or_ge i 9 with h9 | h9
        · have : c.toNat * 128 ^ i ≤ 127 * 128 ^ i := Nat.mul_le_mul_right _ (by omega)
          have h3 : acc + c.toNat * 128 ^ i < 128 ^ (i + 1) := by rw [Nat.pow_succ]; omega
          have h4 : 128 ^ (i + 1) ≤ 128 ^ 9 := Nat.pow_le_pow_right (by omega) (by omega)
          omega
        · obtain rfl : i = 9 := by omega
          have : c.toNat ≤ 1 := by omega
          omega
      · rename_i h2
        rw [if_neg h2] at h
        have h9 : i < 9 := by
          rcases Nat.lt_or_ge i 9 with h9 | h9
          · exact h9
          · exact absurd ⟨by omega, by omega⟩ h1
        have hc := c.toNat_lt
        have h3 : acc + (c.toNat - 128) * 128 ^ i < 128 ^ (i + 1) := by
          have : (c.toNat - 128) * 128 ^ i ≤ 127 * 128 ^ i := Nat.mul_le_mul_right _ (by omega)
          rw [Nat.pow_succ]; omega
        obtain ⟨a, b, d, e⟩ := ih (i + 1) _ (by omega) h3 h
        exact ⟨by omega, by simp; omega, d, e⟩

theorem take_bounds (s : List UInt8) (h : (take s).2.2 = 0) : 0 < (take s).2.1 ∧ (take s).2.1 ≤ s.length ∧ (take s).2.1 ≤ 10 ∧ (take s).1 < 2 ^ 64 := by
  have := vtk_bounds 0 0 s (by omega) (by omega) h
  simpa [take] using this

/-- What is read does not depend on what follows the bytes that were read. -/
theorem vtk_append (i acc : Nat) (s t : List UInt8) (h : (vtk i acc s).2.2 ≠ 4) : vtk i acc (s ++ t) = vtk i acc s := by
  induction s generalizing i acc with
  | nil => simp [vtk] at h
  | cons c r ih =>
    simp only [List.cons_append]
    unfold vtk at h ⊢
    split
    · rfl
    · rename_i h1
      rw [if_neg h1] at h
      split
      · rfl
      · rename_i h2
        rw [if_neg h2] at h
        exact ih _ _ h

/-- Ten bytes are enough. -/
theorem vtk_ten (i acc : Nat) (s : List UInt8) (hi : i ≤ 9) (hl : 10 ≤ i + s.length) : (vtk i acc s).2.2 ≠ 4 := by
  induction s generalizing i acc with
  | nil => simp at hl; omega
  | cons c r ih =>
    unfold vtk
    split
    · simp
    · rename_i h1
      split
      · simp
      · rename_i h2
        exact ih _ _ (by omega) (by simp at hl; omega)

theorem take_take (s : List UInt8) : take (s.take 10) = take s := by
  rcases Nat.lt_or_ge s.length 10 with h | h
  · rw [List.take_of_length_le (by omega)]
  · have := vtk_append 0 0 (s.take 10) (s.drop 10) (vtk_ten 0 0 _ (by omega) (by simp; omega))
    rw [List.take_append_drop] at this
    exact this.symm

/-- All bytes read: the number's groups; zero only if the last byte is; the shortest form only if the last byte is not zero (or the only one). -/
theorem vtk_all (i acc : Nat) (s : List UInt8) (k : Nat) (hk : k + i = 9) (h : (vtk i acc s).2.2 = 0) (hn : (vtk i acc s).2.1 = i + s.length) :
    ∃ v, (vtk i acc s).1 = acc + v * 128 ^ i ∧ (v = 0 → s.getLast? = some 0) ∧ (s.length = 1 → s.getLast? = some (UInt8.ofNat v) ∧ v < 128) ∧
      (vput k v = s ↔ (s.length = 1 ∨ s.getLast? ≠ some 0)) := by
  induction s generalizing i acc k with
  | nil => simp [vtk] at h
  | cons c t ih =>
    unfold vtk at h hn ⊢
    split
    · rename_i h1; rw [if_pos h1] at h; simp at h
    · rename_i h1
      rw [if_neg h1] at h hn
      split
      · rename_i h2
        rw [if_pos h2] at hn
        have ht : t = [] := by
          have : t.length = 0 := by
            have hn' : i + 1 = i + (t.length + 1) := hn
            omega
          exact List.eq_nil_of_length_eq_zero this
        subst ht
        have hc : UInt8.ofNat c.toNat = c := by simp
        refine ⟨c.toNat, rfl, fun h0 => by simp; exact UInt8.toNat.inj (by simpa using h0), fun _ => ⟨by simp, h2⟩, ?_⟩
        rw [vput_small _ _ h2, hc]
        simp
      · rename_i h2
        rw [if_neg h2] at h hn
        have h9 : i < 9 := by
          rcases Nat.lt_or_ge i 9 with h9 | h9
          · exact h9
          · exact absurd ⟨by omega, by omega⟩ h1
        obtain ⟨k, rfl⟩ : ∃ j, k = j + 1 := ⟨k - 1, by omega⟩
        obtain ⟨v, e, z, one, sh⟩ := ih (i + 1) _ k (by omega) h (by rw [hn, List.length_cons]; omega)
        have hcl := c.toNat_lt
        have htn : t ≠ [] := by rintro rfl; simp [vtk] at h
        have hlast : (c :: t).getLast? = t.getLast? := by
          cases t with
          | nil => exact absurd rfl htn
          | cons d t => simp
        have hlen : (c :: t).length ≠ 1 := by
          cases t with
          | nil => exact absurd rfl htn
          | cons d t => simp
        refine ⟨(c.toNat - 128) + v * 128, ?_, ?_, fun hl => absurd hl hlen, ?_⟩
        · rw [e, Nat.pow_succ, Nat.add_mul, Nat.mul_comm (128 ^ i) 128, ← Nat.mul_assoc, Nat.add_assoc]
        · intro h0; rw [hlast]; exact z (by omega)
        · rw [hlast]
          simp only [hlen, false_or]
          by_cases hv : v = 0
          · have := z hv
            rw [vput_small _ _ (by omega), this]
            simp
            intro _
            exact htn
          · rw [vput_big _ _ (by omega)]
            have e1 : (c.toNat - 128 + v * 128) % 128 + 128 = c.toNat := by omega
            have e2 : (c.toNat - 128 + v * 128) / 128 = v := by omega
            rw [e1, e2]
            have hc : UInt8.ofNat c.toNat = c := by simp
            rw [hc]
            simp only [List.cons.injEq, true_and]
            rw [sh]
            constructor
            · rintro (h1 | h1)
              · obtain ⟨hl, hv'⟩ := one h1
                rw [hl]
                intro h0
                simp at h0
                have := congrArg UInt8.toNat h0
                rw [toNat_ofNat _ (by omega)] at this
                exact hv this
              · exact h1
            · exact fun h1 => .inr h1

theorem put_take (s : List UInt8) (h : (take s).2.2 = 0) (hn : (take s).2.1 = s.length) : put (take s).1 = s ↔ (s.length = 1 ∨ s.getLast? ≠ some 0) := by
  obtain ⟨v, e, _, _, sh⟩ := vtk_all 0 0 s 9 rfl h (by simpa [take] using hn)
  have : (take s).1 = v := by simpa [take] using e
  rw [this]; exact sh

/-- The shortest form. -/
def short (s : List UInt8) : Bool := (take s).2.2 == 0 && (take s).2.1 == s.length && decide (put (take s).1 = s)

theorem short_put (u : Nat) (h : u < 2 ^ 64) : short (put u) = true := by
  have := take_put u [] h
  rw [List.append_nil] at this
  simp [short, this]

/-- What the law says of any bytes. -/
theorem round_trip (u : Nat) (s : List UInt8) (h : u < 2 ^ 64) (hp : put (take s).1 = put u) : short s = decide (s = put u) := by
  by_cases hs : s = put u
  · subst hs; rw [short_put u h]; simp
  · have : short s = false := by
      cases hsh : short s with
      | false => rfl
      | true =>
        simp [short] at hsh
        exact absurd (hsh.2.symm.trans hp) hs
    rw [this]; simp [hs]

end Go.Proofs.YtkjjfbknppahhaaGreatDoor.Vp

/- Cursors, as plain data: what each function of the package computes. -/
namespace Go.Proofs.YtkjjfbknppahhaaGreatDoor.Cp
open Go Am Bt Vp

/-- A cursor. -/
structure C where
  d : List UInt8
  a : Int
  e : Int
  dp : Int
  nd : Int
  tx : Int

def C.av (c : C) : AV := .agg [.str c.d, .int .i64 c.a, .int .i64 c.e, .int .i64 c.dp, .int .i64 c.nd, .int .i64 c.tx]
def zc : C := ⟨[], 0, 0, 0, 0, 0⟩

/-- Limits. -/
structure L where
  b : Int
  dp : Int
  nd : Int
  tx : Int
def L.av (l : L) : AV := .agg [.int .i64 l.b, .int .i64 l.dp, .int .i64 l.nd, .int .i64 l.tx]

def C.sound (c : C) : Bool := decide (0 ≤ c.a) && decide (c.a ≤ c.e) && decide (c.e ≤ (c.d.length : Int))
def C.rest (c : C) : List UInt8 := bif c.sound then (c.d.drop c.a.toNat).take (c.e.toNat - c.a.toNat) else []
def C.left (c : C) : Int := (c.rest.length : Int)
def C.ahead (c : C) (n : Int) : C := { c with a := IntKind.i64.wrap (c.a + n) }

def opn (s : List UInt8) (l : L) : C × Nat :=
  if l.b < 0 ∨ l.dp < 0 ∨ l.nd < 0 ∨ l.tx < 0 then (zc, 1) else if l.b < (s.length : Int) then (zc, 3) else (⟨s, 0, s.length, l.dp, l.nd, l.tx⟩, 0)

/-- A number read at a cursor. -/
def C.varint (c : C) : Nat × C × Nat :=
  let r := Vp.take c.rest
  if r.2.2 = 0 then (r.1, c.ahead r.2.1, 0) else (0, c, r.2.2)

def fix8 (s : List UInt8) : Nat := (s.take 8).foldr (fun b u => 256 * u + b.toNat) 0

def C.fixed (c : C) : Nat × C × Nat :=
  if c.rest.length < 8 then (0, c, 4) else (fix8 c.rest, c.ahead 8, 0)

def C.spend (c : C) (n : Int) : C × Nat :=
  if n < 0 then (c, 1) else if c.nd < n then (c, 3) else ({ c with nd := IntKind.i64.wrap (c.nd - n) }, 0)

def ncav (r : Nat × C × Nat) : AV := .tup [.int .u64 (r.1 : Nat), r.2.1.av, .int .i64 (r.2.2 : Nat)]
def cav (r : C × Nat) : AV := .tup [r.1.av, .int .i64 (r.2 : Nat)]

theorem C.sound_iff (c : C) : c.sound = true ↔ 0 ≤ c.a ∧ c.a ≤ c.e ∧ c.e ≤ (c.d.length : Int) := by
  simp [C.sound, and_assoc]

theorem C.rest_len (c : C) : c.left = if c.sound = true then c.e - c.a else 0 := by
  unfold C.left C.rest
  split
  · rename_i h
    rw [h]
    have := (C.sound_iff c).1 h
    simp
    omega
  · rename_i h
    have h : c.sound = false := by simpa using h
    rw [h]; rfl

theorem C.rest_of {c : C} (h : c.sound = true) : c.rest = (c.d.drop c.a.toNat).take (c.e.toNat - c.a.toNat) := by
  unfold C.rest; rw [h]; rfl

theorem C.rest_no {c : C} (h : c.sound = false) : c.rest = [] := by
  unfold C.rest; rw [h]; rfl

/-- The first bytes that are left. -/
theorem C.head_of {c : C} (h : c.sound = true) (n : Nat) (k : Int) (hk : k = if c.a + n < c.e then c.a + n else c.e) : c.rest.take n = (c.d.drop c.a.toNat).take (k.toNat - c.a.toNat) := by
  have hs := (C.sound_iff c).1 h
  rw [C.rest_of h, List.take_take]
  congr 1
  split at hk <;> omega

end Go.Proofs.YtkjjfbknppahhaaGreatDoor.Cp

/- Raw fields, as plain data: what each function of the package computes. -/
namespace Go.Proofs.YtkjjfbknppahhaaGreatDoor.Up
open Go Am Bt Vp Cp

/-- A raw field. -/
structure R where
  num : Int
  wire : Int
  bits : Nat
  data : List UInt8
  deriving DecidableEq

def R.av (f : R) : AV := .agg [.int .i64 f.num, .int .i64 f.wire, .int .u64 (f.bits : Nat), .str f.data]
def zr : R := ⟨0, 0, 0, []⟩

def tag (num wire : Int) : List UInt8 × Nat :=
  if num < 1 ∨ 65535 < num ∨ wire < 0 ∨ 6 < wire then ([], 6) else (Vp.put (num * 8 + wire).toNat, 0)
def tagv (r : List UInt8 × Nat) : AV := .tup [.str r.1, .int .i64 (r.2 : Nat)]

def takeTag (c : C) : Int × Int × C × Nat :=
  let r := c.varint
  if r.2.2 = 0 then
    if r.1 % 8 = 7 then (0, 0, c, 5) else if r.1 / 8 < 1 ∨ 65535 < r.1 / 8 then (0, 0, c, 6) else ((r.1 / 8 : Nat), (r.1 % 8 : Nat), r.2.1, 0)
  else (0, 0, c, r.2.2)
def ttv (r : Int × Int × C × Nat) : AV := .tup [.int .i64 r.1, .int .i64 r.2.1, r.2.2.1.av, .int .i64 (r.2.2.2 : Nat)]

def number (wire : Int) : Bool := wire == 0 || wire == 1 || wire == 2

/-- A length and as many bytes. -/
def dat (c : C) (wire : Int) : List UInt8 × C × Nat :=
  let r := c.varint
  if r.2.2 = 0 then
    if r.2.1.left < (r.1 : Int) then ([], c, 4)
    else if (if wire = 3 then c.tx else 65536) < (r.1 : Int) then ([], c, 3)
    else ((r.2.1.d.drop r.2.1.a.toNat).take r.1, r.2.1.ahead r.1, 0)
  else ([], c, r.2.2)
def datv (r : List UInt8 × C × Nat) : AV := .tup [.str r.1, r.2.1.av, .int .i64 (r.2.2 : Nat)]

/-- The contents of a field. -/
def cont (c : C) (f : R) : R × C × Nat :=
  if f.wire = 2 then ({ f with bits := c.fixed.1 }, c.fixed.2.1, c.fixed.2.2)
  else if f.wire = 0 ∨ f.wire = 1 then ({ f with bits := c.varint.1 }, c.varint.2.1, c.varint.2.2)
  else ({ f with data := (dat c f.wire).1 }, (dat c f.wire).2.1, (dat c f.wire).2.2)

/-- A raw field read at a cursor. -/
def nxt (c : C) : R × C × Nat :=
  let t := takeTag c
  if t.2.2.2 = 0 then
    let s := t.2.2.1.spend 1
    if s.2 = 0 then
      let k := cont s.1 { num := t.1, wire := t.2.1, bits := 0, data := [] }
      if k.2.2 = 0 then k else (zr, c, k.2.2)
    else (zr, c, s.2)
  else (zr, c, t.2.2.2)
def nxtv (r : R × C × Nat) : AV := .tup [r.1.av, r.2.1.av, .int .i64 (r.2.2 : Nat)]

theorem rest_snd {c : C} (h : c.rest ≠ []) : c.sound = true := by
  cases hs : c.sound with
  | true => rfl
  | false => exact absurd (C.rest_no hs) h

/-- Behind a number that was read the cursor is sound. -/
theorem varint_next {c : C} (hl : c.d.length ≤ 9223372036854775807) (h : c.varint.2.2 = 0) : ∃ n : Nat, 0 < n ∧ n ≤ 10 ∧ (n : Int) ≤ c.left ∧ c.varint.2.1 = { c with a := c.a + n } ∧ c.sound = true ∧ c.varint.2.1.sound = true ∧ c.varint.1 < 2 ^ 64 := by
  unfold C.varint at h ⊢
  have hb := take_bounds c.rest
  generalize Vp.take c.rest = r at h hb ⊢
  obtain ⟨u, n, e⟩ := r
  simp only at h hb ⊢
  split at h
  · rename_i he
    subst he
    obtain ⟨h1, h2, h3, h4⟩ := hb rfl
    have hne : c.rest ≠ [] := by intro e; rw [e] at h2; simp at h2; omega
    have hs := rest_snd hne
    have hs' := (C.sound_iff c).1 hs
    have hle := c.rest_len
    rw [if_pos hs] at hle
    have hw : IntKind.i64.wrap (c.a + (n : Int)) = c.a + n := by
      have : (n : Int) ≤ c.left := by unfold C.left; omega
      rw [wi64]; omega
    have hnl : (n : Int) ≤ c.left := by unfold C.left; omega
    refine ⟨n, h1, h3, hnl, ?_, hs, ?_, ?_⟩
    · rw [if_pos rfl]; simp only [C.ahead, hw]
    · rw [if_pos rfl]
      rw [C.sound_iff]
      simp only [C.ahead, hw]
      omega
    · rw [if_pos rfl]; exact h4
  · rename_i he; exact absurd h he

end Go.Proofs.YtkjjfbknppahhaaGreatDoor.Up

/- Raw fields as arguments. -/
namespace Go.Proofs.YtkjjfbknppahhaaGreatDoor.Br
open Go Am Up

theorem has_raw {M k : Nat} {cs : List AV} (h : Has Tryz.prog M k 111 cs) : ∃ f : R, ((Lit.int .i64 f.num).wf = true ∧ (Lit.int .i64 f.wire).wf = true ∧ (Lit.int .u64 (f.bits : Int)).wf = true ∧ f.data.length ≤ M) ∧ .agg cs = f.av := by
  obtain ⟨k, h⟩ := has_struct Tryz.underlying111 h
  simp only [Has.HasL] at h
  obtain ⟨_, _, rfl, h0, _, _, rfl, h1, _, _, rfl, h2, _, _, rfl, h3, rfl⟩ := h
  obtain ⟨a0, rfl, w0⟩ := has_int Tryz.underlying3 h0
  obtain ⟨a1, rfl, w1⟩ := has_int Tryz.underlying3 h1
  obtain ⟨a2, rfl, w2⟩ := has_int Tryz.underlying24 h2
  obtain ⟨a3, rfl, w3⟩ := has_str Tryz.underlying9 h3
  have hn : 0 ≤ a2 := u64_lo w2
  obtain ⟨n, rfl⟩ := Int.eq_ofNat_of_zero_le hn
  exact ⟨⟨a0, a1, n, a3⟩, ⟨w0, w1, w2, w3⟩, rfl⟩

end Go.Proofs.YtkjjfbknppahhaaGreatDoor.Br

/- Values as arguments: what their cells are. -/
set_option linter.unusedSimpArgs false
namespace Go.Proofs.YtkjjfbknppahhaaGreatDoor.Br
open Go Am Up

/-- The cells of a value. -/
def vcs (k b : Int) (t : List UInt8) (l p s : List AV) (r : List R) : List AV := [.int .i64 k, .int .u64 b, .str t, .list l, .list p, .list s, .list (r.map R.av)]

structure rok (f : R) : Prop where
  num : (Lit.int .i64 f.num).wf = true
  wire : (Lit.int .i64 f.wire).wf = true
  bits : (Lit.int .u64 (f.bits : Int)).wf = true
  data : f.data.length ≤ maxLen

/-- Cells of a value, as deep as it goes. -/
def IsV : Nat → List AV → Prop
  | 0, _ => False
  | n + 1, cs => ∃ (k b : Int) (t : List UInt8) (ls : List (List AV)) (ps : List (List AV × List AV)) (ss : List (Int × List AV)) (rs : List R), cs = vcs k b t (ls.map .agg) (ps.map fun p => .agg (p.1 ++ p.2)) (ss.map fun s => .agg (.int .i64 s.1 :: s.2)) rs ∧
      (Lit.int .i64 k).wf = true ∧ (Lit.int .u64 b).wf = true ∧ t.length ≤ maxLen ∧ ls.length ≤ maxLen ∧ ps.length ≤ maxLen ∧ ss.length ≤ maxLen ∧ rs.length ≤ maxLen ∧
      (∀ c ∈ ls, IsV n c) ∧ (∀ p ∈ ps, IsV n p.1 ∧ IsV n p.2) ∧ (∀ s ∈ ss, (Lit.int .i64 s.1).wf = true ∧ IsV n s.2) ∧ ∀ r ∈ rs, rok r

theorem isV_mono : ∀ {n m : Nat} {cs : List AV}, n ≤ m → IsV n cs → IsV m cs
  | 0, _, _, _, h => h.elim
  | n + 1, 0, _, h, _ => by omega
  | n + 1, m + 1, cs, hnm, h => by
    obtain ⟨k, b, t, ls, ps, ss, rs, e, h1, h2, h3, h4, h5, h6, h7, h8, h9, h10, h11⟩ := h
    have hl : n ≤ m := by omega
    exact ⟨k, b, t, ls, ps, ss, rs, e, h1, h2, h3, h4, h5, h6, h7, fun c hc => isV_mono hl (h8 c hc), fun p hp => ⟨isV_mono hl (h9 p hp).1, isV_mono hl (h9 p hp).2⟩, fun s hs => ⟨(h10 s hs).1, isV_mono hl (h10 s hs).2⟩, h11⟩

theorem isV_len {n : Nat} {cs : List AV} (h : IsV n cs) : cs.length = 7 := by
  cases n with
  | zero => exact h.elim
  | succ n =>
    obtain ⟨k, b, t, ls, ps, ss, rs, rfl, _⟩ := h
    rfl

/-- The same bound for all of a list. -/
theorem isV_bound {l : List (List AV)} (h : ∀ c ∈ l, ∃ n, IsV n c) : ∃ n, ∀ c ∈ l, IsV n c := by
  induction l with
  | nil => exact ⟨0, by simp⟩
  | cons c l ih =>
    obtain ⟨n, hn⟩ := ih fun x hx => h x (by simp [hx])
    obtain ⟨m, hm⟩ := h c (by simp)
    refine ⟨max n m, fun x hx => ?_⟩
    rcases List.mem_cons.1 hx with rfl | hx
    · exact isV_mono (Nat.le_max_right ..) hm
    · exact isV_mono (Nat.le_max_left ..) (hn x hx)

theorem elemV_two {c : List AV} (h : 2 ≤ c.length) : elemV c = .agg c := by
  match c, h with
  | _ :: _ :: _, _ => rfl

theorem has_value {M : Nat} (hM : M ≤ maxLen) : ∀ {k : Nat} {cs : List AV}, Has Tryz.prog M k 30 cs → ∃ n, IsV n cs := by
  intro k
  induction k using Nat.strongRecOn with
  | ind k ih =>
  intro cs h
  cases k with
  | zero => cases h
  | succ k =>
  simp only [Has, Tryz.underlying30, Has.HasL] at h
  obtain ⟨_, _, rfl, h0, _, _, rfl, h1, _, _, rfl, h2, _, _, rfl, h3, _, _, rfl, h4, _, _, rfl, h5, _, _, rfl, h6, rfl⟩ := h
  obtain ⟨a0, rfl, w0⟩ := has_int Tryz.underlying3 h0
  obtain ⟨a1, rfl, w1⟩ := has_int Tryz.underlying24 h1
  obtain ⟨a2, rfl, w2'⟩ := has_str Tryz.underlying9 h2
  have w2 := Nat.le_trans w2' hM
  have sl : ∀ {k0 : Nat} {t e : TypeId} {cs : List AV}, k0 ≤ k → Tryz.prog.underlying t = some (.slice e) → Has Tryz.prog M k0 t cs → ∃ (k' : Nat) (l : List (List AV)), k' < k ∧ cs = [.list (l.map elemV)] ∧ l.length ≤ maxLen ∧ ∀ c ∈ l, Has Tryz.prog M k' e c := by
    intro k0 t e cs hk hu h
    cases k0 with
    | zero => cases h
    | succ k0 =>
      simp only [Has, hu] at h
      obtain ⟨l, h1, h2, h3, _⟩ := h
      exact ⟨k0, l, by omega, h1, h2, h3⟩
  obtain ⟨k3, l3, b3, rfl, w3, hl3⟩ := sl (Nat.le_refl _) Tryz.underlying25 h3
  obtain ⟨k4, l4, b4, rfl, w4, hl4⟩ := sl (Nat.le_refl _) Tryz.underlying26 h4
  obtain ⟨k5, l5, b5, rfl, w5, hl5⟩ := sl (Nat.le_refl _) Tryz.underlying27 h5
  obtain ⟨k6, l6, b6, rfl, w6, hl6⟩ := sl (Nat.le_refl _) Tryz.underlying28 h6
  obtain ⟨n3, o3⟩ := isV_bound fun c hc => ih k3 (by omega) (hl3 c hc)
  have p4 : ∃ ps : List (List AV × List AV), l4 = ps.map (fun p => p.1 ++ p.2) ∧ ∀ p ∈ ps, (∃ n, IsV n p.1) ∧ ∃ n, IsV n p.2 :=
    list_of (f := fun p : List AV × List AV => p.1 ++ p.2) (ok := fun p => (∃ n, IsV n p.1) ∧ ∃ n, IsV n p.2) fun c hc => by
      have h := hl4 c hc
      cases k4 with
      | zero => cases h
      | succ k4 =>
      simp only [Has, Tryz.underlying139, Has.HasL] at h
      obtain ⟨a, _, rfl, h0, b, _, rfl, h1, rfl⟩ := h
      exact ⟨(a, b), ⟨ih k4 (by omega) h0, ih k4 (by omega) h1⟩, by simp⟩
  obtain ⟨ps, rfl, hps⟩ := p4
  have p5 : ∃ ss : List (Int × List AV), l5 = ss.map (fun s => .int .i64 s.1 :: s.2) ∧ ∀ s ∈ ss, (Lit.int .i64 s.1).wf = true ∧ ∃ n, IsV n s.2 :=
    list_of (f := fun s : Int × List AV => .int .i64 s.1 :: s.2) (ok := fun s => (Lit.int .i64 s.1).wf = true ∧ ∃ n, IsV n s.2) fun c hc => by
      have h := hl5 c hc
      cases k5 with
      | zero => cases h
      | succ k5 =>
      simp only [Has, Tryz.underlying108, Has.HasL] at h
      obtain ⟨_, _, rfl, h0, b, _, rfl, h1, rfl⟩ := h
      obtain ⟨a0, rfl, w0⟩ := has_int Tryz.underlying3 h0
      exact ⟨(a0, b), ⟨w0, ih k5 (by omega) h1⟩, by simp⟩
  obtain ⟨ss, rfl, hss⟩ := p5
  have p6 : ∃ rs : List R, l6 = rs.map (fun r => r.av.cells) ∧ ∀ r ∈ rs, rok r :=
    list_of (f := fun r : R => r.av.cells) (ok := rok) fun c hc => by
      obtain ⟨f, ⟨g1, g2, g3, g4⟩, e⟩ := has_raw (hl6 c hc)
      refine ⟨f, ⟨g1, g2, g3, Nat.le_trans g4 hM⟩, ?_⟩
      rw [← e]
      rfl
  obtain ⟨rs, rfl, hrs⟩ := p6
  obtain ⟨n4, o4⟩ := isV_bound (l := ps.map (·.1)) fun c hc => by
    obtain ⟨p, hp, rfl⟩ := List.mem_map.1 hc
    exact (hps p hp).1
  obtain ⟨n5, o5⟩ := isV_bound (l := ps.map (·.2)) fun c hc => by
    obtain ⟨p, hp, rfl⟩ := List.mem_map.1 hc
    exact (hps p hp).2
  obtain ⟨n6, o6⟩ := isV_bound (l := ss.map (·.2)) fun c hc => by
    obtain ⟨p, hp, rfl⟩ := List.mem_map.1 hc
    exact (hss p hp).2
  have m4 : ∀ p ∈ ps, IsV n4 p.1 := fun p hp => o4 _ (List.mem_map.2 ⟨p, hp, rfl⟩)
  have m5 : ∀ p ∈ ps, IsV n5 p.2 := fun p hp => o5 _ (List.mem_map.2 ⟨p, hp, rfl⟩)
  have m6 : ∀ p ∈ ss, IsV n6 p.2 := fun p hp => o6 _ (List.mem_map.2 ⟨p, hp, rfl⟩)
  refine ⟨(n3 + n4 + n5 + n6) + 1, a0, a1, a2, l3, ps, ss, rs, ?_, w0, w1, w2, w3, by simpa using w4, by simpa using w5, by simpa using w6,
    fun c hc => isV_mono (by omega) (o3 c hc), fun p hp => ⟨isV_mono (by omega) (m4 p hp), isV_mono (by omega) (m5 p hp)⟩, fun s hs => ⟨(hss s hs).1, isV_mono (by omega) (m6 s hs)⟩, hrs⟩
  have e3 : l3.map elemV = l3.map .agg := List.map_congr_left fun c hc => elemV_two (by rw [isV_len (o3 c hc)]; omega)
  have e4 : (ps.map (fun p => p.1 ++ p.2)).map elemV = ps.map fun p => .agg (p.1 ++ p.2) := by
    rw [List.map_map]
    exact List.map_congr_left fun p hp => elemV_two (by rw [List.length_append, isV_len (m4 p hp)]; omega)
  have e5 : (ss.map (fun s => AV.int .i64 s.1 :: s.2)).map elemV = ss.map fun s => .agg (.int .i64 s.1 :: s.2) := by
    rw [List.map_map]
    exact List.map_congr_left fun p hp => elemV_two (by rw [List.length_cons, isV_len (m6 p hp)]; omega)
  have e6 : (rs.map (fun r => r.av.cells)).map elemV = rs.map R.av := by
    rw [List.map_map]
    exact List.map_congr_left fun r _ => rfl
  rw [e3, e4, e5, e6]
  rfl

/-- The outermost cells, with the bounds on their lists. -/
theorem value_lens {M k : Nat} {cs : List AV} (h : Has Tryz.prog M k 30 cs) : ∃ (kd b : Int) (t : List UInt8) (l3 l4 l5 l6 : List AV), cs = [.int .i64 kd, .int .u64 b, .str t, .list l3, .list l4, .list l5, .list l6] ∧
    (Lit.int .u64 b).wf = true ∧ t.length ≤ M ∧ l3.length ≤ M ∧ l4.length ≤ M ∧ l5.length ≤ M ∧ l6.length ≤ M := by
  obtain ⟨k, h⟩ := has_struct Tryz.underlying30 h
  simp only [Has.HasL] at h
  obtain ⟨_, _, rfl, h0, _, _, rfl, h1, _, _, rfl, h2, _, _, rfl, h3, _, _, rfl, h4, _, _, rfl, h5, _, _, rfl, h6, rfl⟩ := h
  obtain ⟨a0, rfl, w0⟩ := has_int Tryz.underlying3 h0
  obtain ⟨a1, rfl, w1⟩ := has_int Tryz.underlying24 h1
  obtain ⟨a2, rfl, w2⟩ := has_str Tryz.underlying9 h2
  obtain ⟨_, l3, rfl, w3, _⟩ := has_sliceM Tryz.underlying25 h3
  obtain ⟨_, l4, rfl, w4, _⟩ := has_sliceM Tryz.underlying26 h4
  obtain ⟨_, l5, rfl, w5, _⟩ := has_sliceM Tryz.underlying27 h5
  obtain ⟨_, l6, rfl, w6, _⟩ := has_sliceM Tryz.underlying28 h6
  exact ⟨a0, a1, a2, _, _, _, _, rfl, w1, w2, by simpa using w3, by simpa using w4, by simpa using w5, by simpa using w6⟩

end Go.Proofs.YtkjjfbknppahhaaGreatDoor.Br

/- The law of wire types. -/
set_option linter.unusedSimpArgs false
namespace Go.Proofs.YtkjjfbknppahhaaGreatDoor.Va
open Go Am Rc Bt Br

theorem c3 (o : PO) (cs : List AV) {M : Nat} (hM : M ≤ 140737488351232) (h : ∃ (kd b : Int) (t : List UInt8) (l3 l4 l5 l6 : List AV), cs = [.int .i64 kd, .int .u64 b, .str t, .list l3, .list l4, .list l5, .list l6] ∧
    (Lit.int .u64 b).wf = true ∧ t.length ≤ M ∧ l3.length ≤ M ∧ l4.length ≤ M ∧ l5.length ≤ M ∧ l6.length ≤ M) : Fn1 Tryz.prog 3 [.agg o.cells, .agg cs] (.bool true) := by
  obtain ⟨kd, b, t, l3, l4, l5, l6, rfl, hb, _, h3, h4, h5, h6⟩ := h
  have hb0 : 0 ≤ b := u64_lo hb
  obtain ⟨b, rfl⟩ := Int.eq_ofNat_of_zero_le hb0
  obtain ⟨n, s, a, c, k, d, tg, u⟩ := o
  have c1 := y5 n s a c k d tg u
  have c2 := y6 n s a c k d tg u
  have c3 := y7 n s a c k d tg u
  have c4 := y8 n s a c k d tg u
  have c5 := y9 kd b t l3 l4 l5 l6 (by omega) (by omega) (by omega) (by omega)
  have c6 := y10 kd b t l3 l4 l5 l6
  simp only [oc, vo] at c1 c2 c3 c4 c5 c6
  refine fn1_of_awp (rc := r3) (rs := o3) Tryz.func3 rfl rfl Tryz.ntmps3 k3 q3 (by simp) ?_
  simp only [g3_0, g3_1, r3, o3, PO.cells, eES, eEX, Nat.reduceBEq, Int.reduceLE, Int.reduceLT, Int.reduceToNat, Int.reduceEq, ↓reduceIte, reduceCtorEq, Nat.reducePow, Nat.reduceAdd, Nat.reduceLeDiff, Nat.reduceLT, Nat.reduceSub, Nat.reduceEqDiff]
  refine aops_call c1 rfl rfl rfl (.inl rfl) ?_
  simp only [eES, eEX, Nat.reduceBEq, Int.reduceLE, Int.reduceLT, Int.reduceToNat, Int.reduceEq, ↓reduceIte, reduceCtorEq, Nat.reducePow, Nat.reduceAdd, Nat.reduceLeDiff, Nat.reduceLT, Nat.reduceSub, Nat.reduceEqDiff]
  refine aops_call c2 rfl rfl rfl (.inl rfl) ?_
  simp only [beq_self_eq_true, eES, eEX, Nat.reduceBEq, Int.reduceLE, Int.reduceLT, Int.reduceToNat, Int.reduceEq, ↓reduceIte, reduceCtorEq, Nat.reducePow, Nat.reduceAdd, Nat.reduceLeDiff, Nat.reduceLT, Nat.reduceSub, Nat.reduceEqDiff]
  refine aops_call c3 rfl rfl rfl (.inl rfl) ?_
  simp only [eES, eEX, Nat.reduceBEq, Int.reduceLE, Int.reduceLT, Int.reduceToNat, Int.reduceEq, ↓reduceIte, reduceCtorEq, Nat.reducePow, Nat.reduceAdd, Nat.reduceLeDiff, Nat.reduceLT, Nat.reduceSub, Nat.reduceEqDiff]
  refine aops_call c4 rfl rfl rfl (.inl rfl) ?_
  simp only [beq_self_eq_true, eES, eEX, Nat.reduceBEq, Int.reduceLE, Int.reduceLT, Int.reduceToNat, Int.reduceEq, ↓reduceIte, reduceCtorEq, Nat.reducePow, Nat.reduceAdd, Nat.reduceLeDiff, Nat.reduceLT, Nat.reduceSub, Nat.reduceEqDiff]
  refine aops_call c5 rfl rfl rfl (.inl rfl) ?_
  simp only [eES, eEX, Nat.reduceBEq, Int.reduceLE, Int.reduceLT, Int.reduceToNat, Int.reduceEq, ↓reduceIte, reduceCtorEq, Nat.reducePow, Nat.reduceAdd, Nat.reduceLeDiff, Nat.reduceLT, Nat.reduceSub, Nat.reduceEqDiff]
  refine aops_call c6 rfl rfl rfl (.inl rfl) ?_
  simp only [beq_self_eq_true, eES, eEX, Nat.reduceBEq, Int.reduceLE, Int.reduceLT, Int.reduceToNat, Int.reduceEq, ↓reduceIte, reduceCtorEq, Nat.reducePow, Nat.reduceAdd, Nat.reduceLeDiff, Nat.reduceLT, Nat.reduceSub, Nat.reduceEqDiff]
  refine aops_call Ev.awake_ok rfl rfl rfl (.inl rfl) ?_
  simp only [eES, eEX, Nat.reduceBEq, Int.reduceLE, Int.reduceLT, Int.reduceToNat, Int.reduceEq, ↓reduceIte, reduceCtorEq, Nat.reducePow, Nat.reduceAdd, Nat.reduceLeDiff, Nat.reduceLT, Nat.reduceSub, Nat.reduceEqDiff]

end Go.Proofs.YtkjjfbknppahhaaGreatDoor.Va

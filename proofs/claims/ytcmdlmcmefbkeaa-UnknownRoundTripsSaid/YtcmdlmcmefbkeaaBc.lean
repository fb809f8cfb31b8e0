/- Arguments that are structs of texts and numbers: opened and shut. -/
import Derived.Test.YtcmdlmcmefbkeaaBr
import Derived.Lib.SmallJoins
namespace Go.Proofs.Ytcmdlmcmefbkeaa.Br
open Go Am Go.RowKit Go.WideShapes Go.ChangeShapes Go.ChangeAt Go.Joins Go.Deep Go.WideElems Go.Maps

section
variable {H : Type} {enc : TypeId × Value → H} {P : Program} {W : World} {base : Nat} {sp : Nat → Bool} {held : Bool}

theorem array6 {α : Type} {cs : Array α} (h : cs.size = 6) : ∃ c0 c1 c2 c3 c4 c5, cs = #[c0, c1, c2, c3, c4, c5] := by
  obtain ⟨l⟩ := cs
  match l, h with
  | [c0, c1, c2, c3, c4, c5], _ => exact ⟨c0, c1, c2, c3, c4, c5, rfl⟩

/-- What the fields of a struct of one-cell fields read. -/
theorem open_six {r : Reach} {b0 : Nat} {t : TypeId} {f0 f1 f2 f3 f4 f5 : Field} {v : Value} {d : DataW H} {p : List MemPlace} (hs : P.underlying t = some (.struct #[f0, f1, f2, f3, f4, f5])) (hone : oneCellFields P #[f0, f1, f2, f3, f4, f5] = true) (hC : P.cellsOf t = 6)
    (hv : Value.okWide P W r b0 t v) (h : DataW.Trod enc P W base sp held t v d p) :
    ∃ (v0 v1 v2 v3 v4 v5 : Value) (y0 y1 y2 y3 y4 y5 : DataW H × List MemPlace) (n : Nat), v = .agg #[v0, v1, v2, v3, v4, v5] ∧ d = .agg [y0.1, y1.1, y2.1, y3.1, y4.1, y5.1] ∧ p = y0.2 ++ (y1.2 ++ (y2.2 ++ (y3.2 ++ (y4.2 ++ y5.2)))) ∧
      DataW.trod enc P W base sp held n f0.type [v0] = some y0 ∧ DataW.trod enc P W base sp held n f1.type [v1] = some y1 ∧ DataW.trod enc P W base sp held n f2.type [v2] = some y2 ∧ DataW.trod enc P W base sp held n f3.type [v3] = some y3 ∧
      DataW.trod enc P W base sp held n f4.type [v4] = some y4 ∧ DataW.trod enc P W base sp held n f5.type [v5] = some y5 := by
  obtain ⟨cs, rfl, hsz⟩ := okWide_struct hs hv
  obtain ⟨c0, c1, c2, c3, c4, c5, rfl⟩ := array6 (hsz.trans hC)
  obtain ⟨fuel, hf⟩ := h
  obtain ⟨xs, n, _, hx, _, hlen, hg⟩ := DataW.trod_struct hs hf
  have ho := fun i f => hone_of hone i f
  match xs, hlen with
  | [y0, y1, y2, y3, y4, y5], _ =>
    obtain ⟨o0, k0⟩ := ho 0 f0 rfl
    obtain ⟨o1, k1⟩ := ho 1 f1 rfl
    obtain ⟨o2, k2⟩ := ho 2 f2 rfl
    obtain ⟨o3, k3⟩ := ho 3 f3 rfl
    obtain ⟨o4, k4⟩ := ho 4 f4 rfl
    obtain ⟨o5, k5⟩ := ho 5 f5 rfl
    simp only [Prod.mk.injEq] at hx
    refine ⟨c0, c1, c2, c3, c4, c5, y0, y1, y2, y3, y4, y5, n, rfl, by rw [hx.1]; rfl, by rw [hx.2]; simp, ?_, ?_, ?_, ?_, ?_, ?_⟩
    · simpa [Value.cells, o0, k0] using hg 0 f0 rfl
    · simpa [Value.cells, o1, k1] using hg 1 f1 rfl
    · simpa [Value.cells, o2, k2] using hg 2 f2 rfl
    · simpa [Value.cells, o3, k3] using hg 3 f3 rfl
    · simpa [Value.cells, o4, k4] using hg 4 f4 rfl
    · simpa [Value.cells, o5, k5] using hg 5 f5 rfl

/-- A text and five numbers. -/
theorem open_cur {r : Reach} {b0 : Nat} {t ts ti : TypeId} {f0 f1 f2 f3 f4 f5 : Field} {v : Value} {d : DataW H} {p : List MemPlace} (hs : P.underlying t = some (.struct #[f0, f1, f2, f3, f4, f5])) (hone : oneCellFields P #[f0, f1, f2, f3, f4, f5] = true) (hC : P.cellsOf t = 6)
    (hts : P.underlying ts = some .string) (hti : P.underlying ti = some (.int .i64)) (hf : f0.type = ts ∧ f1.type = ti ∧ f2.type = ti ∧ f3.type = ti ∧ f4.type = ti ∧ f5.type = ti)
    (hv : Value.okWide P W r b0 t v) (h : DataW.Trod enc P W base sp held t v d p) :
    ∃ (s : ByteArray) (a b c e g : Int), v = .agg #[.string s, .int .i64 a, .int .i64 b, .int .i64 c, .int .i64 e, .int .i64 g] ∧ d = .agg [.lit (.string s.data.toList), .lit (.int .i64 a), .lit (.int .i64 b), .lit (.int .i64 c), .lit (.int .i64 e), .lit (.int .i64 g)] ∧ p = [] ∧
      s.size ≤ maxLen ∧ (Lit.int .i64 a).wf = true ∧ (Lit.int .i64 b).wf = true ∧ (Lit.int .i64 c).wf = true ∧ (Lit.int .i64 e).wf = true ∧ (Lit.int .i64 g).wf = true := by
  obtain ⟨v0, v1, v2, v3, v4, v5, y0, y1, y2, y3, y4, y5, n, rfl, rfl, rfl, h0, h1, h2, h3, h4, h5⟩ := open_six hs hone hC hv h
  obtain ⟨t0, t1, t2, t3, t4, t5⟩ := hf
  rw [t0] at h0
  rw [t1] at h1
  rw [t2] at h2
  rw [t3] at h3
  rw [t4] at h4
  rw [t5] at h5
  obtain ⟨s, e0, rfl, w0⟩ := DataW.trod_string hts h0
  obtain ⟨a, e1, rfl, w1⟩ := DataW.trod_int hti h1
  obtain ⟨b, e2, rfl, w2⟩ := DataW.trod_int hti h2
  obtain ⟨c, e3, rfl, w3⟩ := DataW.trod_int hti h3
  obtain ⟨e, e4, rfl, w4⟩ := DataW.trod_int hti h4
  obtain ⟨g, e5, rfl, w5⟩ := DataW.trod_int hti h5
  simp at e0 e1 e2 e3 e4 e5
  subst e0 e1 e2 e3 e4 e5
  exact ⟨s, a, b, c, e, g, rfl, rfl, rfl, w0, w1, w2, w3, w4, w5⟩

theorem shut_cur {t ts ti : TypeId} {f0 f1 f2 f3 f4 f5 : Field} (hs : P.underlying t = some (.struct #[f0, f1, f2, f3, f4, f5])) (hone : oneCellFields P #[f0, f1, f2, f3, f4, f5] = true) (hC : P.cellsOf t = 6)
    (hts : P.underlying ts = some .string) (hti : P.underlying ti = some (.int .i64)) (hf : f0.type = ts ∧ f1.type = ti ∧ f2.type = ti ∧ f3.type = ti ∧ f4.type = ti ∧ f5.type = ti)
    {s : ByteArray} {a b c e g : Int} (w0 : s.size ≤ maxLen) (w1 : (Lit.int .i64 a).wf = true) (w2 : (Lit.int .i64 b).wf = true) (w3 : (Lit.int .i64 c).wf = true) (w4 : (Lit.int .i64 e).wf = true) (w5 : (Lit.int .i64 g).wf = true) :
    DataW.Trod enc P W base sp held t (.agg #[.string s, .int .i64 a, .int .i64 b, .int .i64 c, .int .i64 e, .int .i64 g]) (.agg [.lit (.string s.data.toList), .lit (.int .i64 a), .lit (.int .i64 b), .lit (.int .i64 c), .lit (.int .i64 e), .lit (.int .i64 g)]) [] := by
  have hint : ∀ n : Int, (Lit.int .i64 n).wf = true → DataW.trod enc P W base sp held 1 ti [.int .i64 n] = some (.lit (.int .i64 n), []) := fun n hn => by simp [DataW.trod, hti, hn]
  have hstr : DataW.trod enc P W base sp held 1 ts [.string s] = some (.lit (.string s.data.toList), []) := by simp [DataW.trod, hts, w0]
  obtain ⟨t0, t1, t2, t3, t4, t5⟩ := hf
  have ho := fun i f => hone_of hone i f
  obtain ⟨o0, k0⟩ := ho 0 f0 rfl
  obtain ⟨o1, k1⟩ := ho 1 f1 rfl
  obtain ⟨o2, k2⟩ := ho 2 f2 rfl
  obtain ⟨o3, k3⟩ := ho 3 f3 rfl
  obtain ⟨o4, k4⟩ := ho 4 f4 rfl
  obtain ⟨o5, k5⟩ := ho 5 f5 rfl
  have := trod_struct_mk (enc := enc) (w := W) (base := base) (spare := sp) (held := held) (n := 1) (cs := [.string s, .int .i64 a, .int .i64 b, .int .i64 c, .int .i64 e, .int .i64 g])
    (xs := [(.lit (.string s.data.toList), []), (.lit (.int .i64 a), []), (.lit (.int .i64 b), []), (.lit (.int .i64 c), []), (.lit (.int .i64 e), []), (.lit (.int .i64 g), [])]) hs (by rw [hC]; rfl)
    (by rw [t0] at k0; rw [t1] at k1; rw [t2] at k2; rw [t3] at k3; rw [t4] at k4; rw [t5] at k5
        simp [o0, o1, o2, o3, o4, o5, k0, k1, t0, t1, t2, t3, t4, t5, hstr, hint _ w1, hint _ w2, hint _ w3, hint _ w4, hint _ w5])
  exact ⟨_, by simpa [Value.cells] using this⟩

theorem rep_cur {G : Gh} (s : ByteArray) (a b c e g : Int) : Rep G (.agg [.str s.data.toList, .int .i64 a, .int .i64 b, .int .i64 c, .int .i64 e, .int .i64 g]) (.agg #[.string s, .int .i64 a, .int .i64 b, .int .i64 c, .int .i64 e, .int .i64 g]) :=
  .agg (.cons (rep_str _) (.cons (.int _ _) (.cons (.int _ _) (.cons (.int _ _) (.cons (.int _ _) (.cons (.int _ _) .nil))))))

/-- Four numbers. -/
theorem open_lim {r : Reach} {b0 : Nat} {t ti : TypeId} {f0 f1 f2 f3 : Field} {v : Value} {d : DataW H} {p : List MemPlace} (hs : P.underlying t = some (.struct #[f0, f1, f2, f3])) (hone : oneCellFields P #[f0, f1, f2, f3] = true) (hC : P.cellsOf t = 4)
    (hti : P.underlying ti = some (.int .i64)) (hf : f0.type = ti ∧ f1.type = ti ∧ f2.type = ti ∧ f3.type = ti)
    (hv : Value.okWide P W r b0 t v) (h : DataW.Trod enc P W base sp held t v d p) :
    ∃ (a b c e : Int), v = .agg #[.int .i64 a, .int .i64 b, .int .i64 c, .int .i64 e] ∧ d = .agg [.lit (.int .i64 a), .lit (.int .i64 b), .lit (.int .i64 c), .lit (.int .i64 e)] ∧ p = [] ∧
      (Lit.int .i64 a).wf = true ∧ (Lit.int .i64 b).wf = true ∧ (Lit.int .i64 c).wf = true ∧ (Lit.int .i64 e).wf = true := by
  obtain ⟨v0, v1, v2, v3, y0, y1, y2, y3, n, rfl, rfl, rfl, h0, h1, h2, h3⟩ := open_agg4 hs hone hC hv h
  obtain ⟨t0, t1, t2, t3⟩ := hf
  rw [t0] at h0
  rw [t1] at h1
  rw [t2] at h2
  rw [t3] at h3
  obtain ⟨a, e0, rfl, w0⟩ := DataW.trod_int hti h0
  obtain ⟨b, e1, rfl, w1⟩ := DataW.trod_int hti h1
  obtain ⟨c, e2, rfl, w2⟩ := DataW.trod_int hti h2
  obtain ⟨e, e3, rfl, w3⟩ := DataW.trod_int hti h3
  simp at e0 e1 e2 e3
  subst e0 e1 e2 e3
  exact ⟨a, b, c, e, rfl, rfl, rfl, w0, w1, w2, w3⟩

theorem shut_lim {t ti : TypeId} {f0 f1 f2 f3 : Field} (hs : P.underlying t = some (.struct #[f0, f1, f2, f3])) (hone : oneCellFields P #[f0, f1, f2, f3] = true) (hC : P.cellsOf t = 4)
    (hti : P.underlying ti = some (.int .i64)) (hf : f0.type = ti ∧ f1.type = ti ∧ f2.type = ti ∧ f3.type = ti) {a b c e : Int} (w1 : (Lit.int .i64 a).wf = true) (w2 : (Lit.int .i64 b).wf = true) (w3 : (Lit.int .i64 c).wf = true) (w4 : (Lit.int .i64 e).wf = true) :
    DataW.Trod enc P W base sp held t (.agg #[.int .i64 a, .int .i64 b, .int .i64 c, .int .i64 e]) (.agg [.lit (.int .i64 a), .lit (.int .i64 b), .lit (.int .i64 c), .lit (.int .i64 e)]) [] := by
  have hint : ∀ n : Int, (Lit.int .i64 n).wf = true → ∃ m, DataW.trod enc P W base sp held m ti [.int .i64 n] = some (.lit (.int .i64 n), []) := fun n hn => ⟨1, by simp [DataW.trod, hti, hn]⟩
  obtain ⟨t0, t1, t2, t3⟩ := hf
  have := shut_agg4 (enc := enc) (w := W) (base := base) (spare := sp) (held := held) (y0 := (.lit (.int .i64 a), [])) (y1 := (.lit (.int .i64 b), [])) (y2 := (.lit (.int .i64 c), [])) (y3 := (.lit (.int .i64 e), [])) hs hone hC
    (by rw [t0]; exact hint _ w1) (by rw [t1]; exact hint _ w2) (by rw [t2]; exact hint _ w3) (by rw [t3]; exact hint _ w4)
  simpa using this

theorem rep_lim {G : Gh} (a b c e : Int) : Rep G (.agg [.int .i64 a, .int .i64 b, .int .i64 c, .int .i64 e]) (.agg #[.int .i64 a, .int .i64 b, .int .i64 c, .int .i64 e]) :=
  .agg (.cons (.int _ _) (.cons (.int _ _) (.cons (.int _ _) (.cons (.int _ _) .nil))))

end

end Go.Proofs.Ytcmdlmcmefbkeaa.Br

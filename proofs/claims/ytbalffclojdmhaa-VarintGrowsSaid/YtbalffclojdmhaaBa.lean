/- An argument that is an array of two numbers: opened and shut. -/
import Derived.Test.YtbalffclojdmhaaBr
import Derived.WideKeyArr2
namespace Go.Proofs.Ytbalffclojdmhaa.Br
open Go Am Go.RowKit Go.WideShapes Go.ChangeShapes Go.ChangeAt

section
variable {H : Type} {enc : TypeId × Value → H} {P : Program} {W : World} {base : Nat} {sp : Nat → Bool} {held : Bool}

theorem open_pair {t e : TypeId} {k : IntKind} {r : Reach} {b0 : Nat} {v : Value} {d : DataW H} {ps : List MemPlace} (ht : P.underlying t = some (.array 2 e)) (he : P.underlying e = some (.int k)) (hc : P.cellsOf e = 1) (hct : P.cellsOf t = 2)
    (hval : Value.okWide P W r b0 t v) (hd : DataW.Trod enc P W base sp held t v d ps) :
    ∃ a b : Int, v = .agg #[.int k a, .int k b] ∧ d = .agg [.lit (.int k a), .lit (.int k b)] ∧ ps = [] ∧ (Lit.int k a).wf = true ∧ (Lit.int k b).wf = true := by
  simp only [Value.okWide, ht] at hval
  obtain ⟨cs, rfl, h2, _⟩ := hval
  obtain ⟨fuel, hf⟩ := hd
  cases fuel with
  | zero => simp [DataW.trod] at hf
  | succ m =>
    rw [DataW.trod_step] at hf
    unfold DataW.trodStep at hf
    simp only [ht, Value.cells, hc] at hf
    rw [hct] at h2
    obtain ⟨l⟩ := cs
    obtain ⟨x, y, rfl⟩ : ∃ x y, l = [x, y] := by
      match l, h2 with
      | [x, y], _ => exact ⟨x, y, rfl⟩
    rw [if_pos (by rw [hct]; rfl)] at hf
    simp only [Option.map_eq_some_iff] at hf
    obtain ⟨ys, hy, e1⟩ := hf
    rw [show List.range 2 = [0, 1] from rfl] at hy
    simp only [List.mapM_cons, List.mapM_nil, bind, pure, Option.bind_eq_some_iff, Option.some.injEq] at hy
    obtain ⟨z0, hz0, z1, ⟨z2, hz2, z3, h3, rfl⟩, rfl⟩ := hy
    subst h3
    obtain ⟨a, ea, rfl, wa⟩ := DataW.trod_int he hz0
    obtain ⟨b, eb, rfl, wb⟩ := DataW.trod_int he hz2
    simp only [Prod.mk.injEq] at e1
    simp at ea eb
    subst ea eb
    exact ⟨a, b, rfl, by rw [← e1.1]; rfl, by rw [← e1.2]; rfl, wa, wb⟩

theorem shut_pair {t e : TypeId} {k : IntKind} {a b : Int} (ht : P.underlying t = some (.array 2 e)) (he : P.underlying e = some (.int k)) (hc : P.cellsOf e = 1) (hct : P.cellsOf t = 2)
    (wa : (Lit.int k a).wf = true) (wb : (Lit.int k b).wf = true) : DataW.Trod enc P W base sp held t (.agg #[.int k a, .int k b]) (.agg [.lit (.int k a), .lit (.int k b)]) [] := by
  have h : ∀ n : Int, (Lit.int k n).wf = true → DataW.trod enc P W base sp held 1 e [.int k n] = some (.lit (.int k n), []) := fun n hn => by simp [DataW.trod, he, hn]
  refine ⟨2, ?_⟩
  rw [DataW.trod_step]
  unfold DataW.trodStep
  simp only [ht, Value.cells, hc]
  rw [if_pos (by rw [hct]; rfl), show List.range 2 = [0, 1] from rfl]
  simp [h a wa, h b wb]

theorem okWide_pair_rep {G : Gh} {k : IntKind} {a b : Int} : Rep G (.agg [.int k a, .int k b]) (.agg #[.int k a, .int k b]) := .agg (.cons (.int _ _) (.cons (.int _ _) .nil))

end

end Go.Proofs.Ytbalffclojdmhaa.Br

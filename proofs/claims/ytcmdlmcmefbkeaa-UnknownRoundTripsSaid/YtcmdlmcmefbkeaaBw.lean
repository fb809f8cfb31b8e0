/- Elements that are raw fields: opened and shut. -/
import Derived.Test.YtcmdlmcmefbkeaaBs
import Derived.Test.YtcmdlmcmefbkeaaUp
namespace Go.Proofs.Ytcmdlmcmefbkeaa.Br
open Go Am Go.RowKit Go.WideShapes Go.ChangeShapes Go.ChangeAt Go.Joins Go.Deep Go.WideElems Go.Maps Up

instance : Inhabited R := ⟨zr⟩

section
variable {H : Type} {enc : TypeId × Value → H} {P : Program}

def elRaw {e ti tu ts : TypeId} {f0 f1 f2 f3 : Field} (hs : P.underlying e = some (.struct #[f0, f1, f2, f3])) (hone : oneCellFields P #[f0, f1, f2, f3] = true) (hC : P.cellsOf e = 4)
    (hti : P.underlying ti = some (.int .i64)) (htu : P.underlying tu = some (.int .u64)) (hts : P.underlying ts = some .string) (hf : f0.type = ti ∧ f1.type = ti ∧ f2.type = tu ∧ f3.type = ts) : El enc P e 4 R where
  av f := f.av
  vals f := [.int .i64 f.num, .int .i64 f.wire, .int .u64 (f.bits : Nat), .string ⟨⟨f.data⟩⟩]
  dat f := .agg [.lit (.int .i64 f.num), .lit (.int .i64 f.wire), .lit (.int .u64 (f.bits : Nat)), .lit (.string f.data)]
  ok f := (Lit.int .i64 f.num).wf = true ∧ (Lit.int .i64 f.wire).wf = true ∧ (Lit.int .u64 (f.bits : Nat)).wf = true ∧ f.data.length ≤ maxLen
  pos := by decide
  len _ := rfl
  cells _ := rfl
  rfl' _ := rfl
  leaf _ := rfl
  rep _ f := .cons (.int _ _) (.cons (.int _ _) (.cons (.int _ _) (.cons (.str _) .nil)))
  opened := by
    intro W n cs d pl hlen h
    obtain ⟨xs, n, _, hx, _, hl2, hg⟩ := DataW.trod_struct hs h
    obtain ⟨t0, t1, t2, t3⟩ := hf
    have ho := fun i f => hone_of hone i f
    match cs, hlen, xs, hl2 with
    | [c0, c1, c2, c3], _, [y0, y1, y2, y3], _ =>
      obtain ⟨o0, k0⟩ := ho 0 f0 rfl
      obtain ⟨o1, k1⟩ := ho 1 f1 rfl
      obtain ⟨o2, k2⟩ := ho 2 f2 rfl
      obtain ⟨o3, k3⟩ := ho 3 f3 rfl
      have h0 : DataW.trod enc P W 0 (fun _ => true) true n f0.type [c0] = some y0 := by simpa [o0, k0] using hg 0 f0 rfl
      have h1 : DataW.trod enc P W 0 (fun _ => true) true n f1.type [c1] = some y1 := by simpa [o1, k1] using hg 1 f1 rfl
      have h2 : DataW.trod enc P W 0 (fun _ => true) true n f2.type [c2] = some y2 := by simpa [o2, k2] using hg 2 f2 rfl
      have h3 : DataW.trod enc P W 0 (fun _ => true) true n f3.type [c3] = some y3 := by simpa [o3, k3] using hg 3 f3 rfl
      rw [t0] at h0
      rw [t1] at h1
      rw [t2] at h2
      rw [t3] at h3
      obtain ⟨a, e0, rfl, w0⟩ := DataW.trod_int hti h0
      obtain ⟨b, e1, rfl, w1⟩ := DataW.trod_int hti h1
      obtain ⟨u, e2, rfl, w2⟩ := DataW.trod_int htu h2
      obtain ⟨s, e3, rfl, w3⟩ := DataW.trod_string hts h3
      simp at e0 e1 e2 e3
      subst e0 e1 e2 e3
      simp only [Prod.mk.injEq] at hx
      obtain ⟨u, rfl⟩ := Int.eq_ofNat_of_zero_le (u64_lo w2)
      obtain ⟨⟨s⟩⟩ := s
      exact ⟨⟨a, b, u, s⟩, ⟨w0, w1, w2, w3⟩, rfl, by rw [hx.1]; rfl, by rw [hx.2]; rfl⟩
  shut := by
    intro W sp o ho
    have hint : ∀ n : Int, (Lit.int .i64 n).wf = true → DataW.trod enc P W 0 sp true 1 ti [.int .i64 n] = some (.lit (.int .i64 n), []) := fun n hn => by simp [DataW.trod, hti, hn]
    have hu : ∀ n : Int, (Lit.int .u64 n).wf = true → DataW.trod enc P W 0 sp true 1 tu [.int .u64 n] = some (.lit (.int .u64 n), []) := fun n hn => by simp [DataW.trod, htu, hn]
    have hstr : DataW.trod enc P W 0 sp true 1 ts [.string ⟨⟨o.data⟩⟩] = some (.lit (.string o.data), []) := by
      have : (ByteArray.mk ⟨o.data⟩).size ≤ maxLen := ho.2.2.2
      simp [DataW.trod, hts, this]
    obtain ⟨t0, t1, t2, t3⟩ := hf
    have hoo := fun i f => hone_of hone i f
    obtain ⟨o0, k0⟩ := hoo 0 f0 rfl
    obtain ⟨o1, k1⟩ := hoo 1 f1 rfl
    obtain ⟨o2, k2⟩ := hoo 2 f2 rfl
    obtain ⟨o3, k3⟩ := hoo 3 f3 rfl
    have := trod_struct_mk (enc := enc) (w := W) (base := 0) (spare := sp) (held := true) (n := 1) (cs := [.int .i64 o.num, .int .i64 o.wire, .int .u64 (o.bits : Nat), .string ⟨⟨o.data⟩⟩])
      (xs := [(.lit (.int .i64 o.num), []), (.lit (.int .i64 o.wire), []), (.lit (.int .u64 (o.bits : Nat)), []), (.lit (.string o.data), [])]) hs (by rw [hC]; rfl)
      (by rw [t0] at k0; rw [t1] at k1; rw [t2] at k2; rw [t3] at k3
          simp [o0, o1, o2, o3, k0, k2, k3, t0, t1, t2, t3, hint _ ho.1, hint _ ho.2.1, hu _ ho.2.2.1, hstr])
    exact ⟨_, by simpa using this⟩

end
end Go.Proofs.Ytcmdlmcmefbkeaa.Br

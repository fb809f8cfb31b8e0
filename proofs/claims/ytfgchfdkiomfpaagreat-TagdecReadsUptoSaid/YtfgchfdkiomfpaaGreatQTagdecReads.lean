/- Wireschema law TagdecReads: whatever the input (of bulk at most 1048576), the law returns true and its input reads as it did. -/
import Derived.Test.YtfgchfdkiomfpaaGreatRows
import Derived.ProofKit
import Derived.JoinedCond
import Derived.ChangeMaps5
import Derived.Test.YtfgchfdkiomfpaaGreatMTagdecReads5
set_option linter.unusedSimpArgs false
namespace Go.Proofs.YtfgchfdkiomfpaaGreat
open Go.ChangeShapes Go.WideShapes Go.ChangeAt Go.RowKit Go.ChangeMaps Am Br

namespace PTagdecReads
theorem own : ownKnob Tryz.prog.godebug = none := by kernel_rfl

set_option maxRecDepth 100000 in
theorem lifted (os : Os) (started : os.Started) (H : Type) (enc : TypeId × Value → H) (F : Stop.Interp) :
    ReturnsInHanded {} Tryz.checked os 3 .any ((Rows.OpenSpec.upto Rows.tagdecReadsSpec).pre6 enc Tryz.prog Tryz.f3 Rows.tagdecReadsUptoRow.domain false) (((Rows.OpenSpec.upto Rows.tagdecReadsSpec).at F).post enc Tryz.prog Tryz.f3 false true false false) := by
  refine returnsInHanded_of_cond (C := Tryz.checked) (s := Rows.OpenSpec.upto Rows.tagdecReadsSpec) (k := Rows.uptoSmall) rfl own started (by kernel_rfl) Tryz.func3
    (OpenSpec.witness (enc := enc) (C := Tryz.checked) (s := Rows.OpenSpec.upto Rows.tagdecReadsSpec) (k := Rows.uptoSmall) (x := ([.agg [.nil, .nil], .lit (.string []), .lit (.string []), .agg [.lit (.int .i64 0), .lit (.int .i64 0), .lit (.int .i64 0), .lit (.int .i64 0)]], [], [])) rfl false ⟨#[], #[.agg #[.slice none 0 0, .slice none 0 0], .string ⟨#[]⟩, .string ⟨#[]⟩, .agg #[.int .i64 0, .int .i64 0, .int .i64 0, .int .i64 0]], []⟩ 8 (by kernel_rfl) (by kernel_rfl) (by kernel_rfl) (by kernel_rfl) (by kernel_rfl) (by kernel_rfl) (by kernel_rfl)) ?_
  intro W base args ds gs before hval0 hW hcnd hk _
  show Calls Tryz.prog 3 args W fun e W' => ∃ v, e = .returned v ∧ Rows.tagdecReadsSpec.post enc Tryz.prog Tryz.f3 false true false false W args v W'
  have hval : ∀ (j : Nat) t v, Tryz.f3.params[j]? = some t → args[j]? = some v → Value.okWide Tryz.prog W .any base t v := hval0
  have hW1 := hW
  obtain ⟨p, q, hA0, hV, rfl, hfz, hnd⟩ := hW
  have hA : DataW.TrodAll enc Tryz.prog W 0 (fun _ => true) true Tryz.f3.params.toList args.toList ds p := hA0
  rw [Tryz.params3] at hA hval
  obtain ⟨v0, v1, v2, v3, d0, d1, d2, d3, p0, p1, p2, p3, rfl, rfl, rfl, a0, a1, a2, a3⟩ := trodAll_four hA
  obtain ⟨rfl, rfl⟩ := trodVars_none hV
  have hb0 : Rows.uptoBulk d0 ≤ 1048576 := by
    have h := hk
    simp only [Rows.uptoSmall, QQD, Rows.uptoBulkAll, QQW] at h
    omega
  obtain ⟨k0, as0, has0, hr0⟩ := Nq (M := 1048576) (ts := [25, 22, 54, 9, 52, 51, 3, 23, 100, 4, 96, 103, 98, 108, 35, 29, 30, 31, 113, 32, 56, 33, 86, 97, 106]) (by decide +kernel) (by decide) Tryz.underlying25 (hval 0 25 v0 rfl rfl) a0 (.inr (.inl ⟨by decide, hb0⟩))
  obtain ⟨x0, ok0, e0⟩ := RS has0
  rw [e0] at hr0
  obtain ⟨x1, rfl, rfl, rfl, w1⟩ := open_string Tryz.underlying9 (hval 1 9 v1 rfl rfl) a1
  obtain ⟨x2, rfl, rfl, rfl, w2⟩ := open_string Tryz.underlying9 (hval 2 9 v2 rfl rfl) a2
  obtain ⟨a31, a32, a33, a34, rfl, rfl, rfl, w31, w32, w33, w34⟩ := RG Tryz.underlying27 (by kernel_rfl) (by kernel_rfl) Tryz.underlying3 ⟨rfl, rfl, rfl, rfl⟩ (hval 3 27 v3 rfl rfl) a3
  clear hA0 hval0
  simp only [QQD] at hW1
  refine (FT (stab := fun b o => sv W b o) (Va.c3 x0 ok0 (by decide) (by decide) x1.data.toList ⟨a31, a32, a33, a34⟩ (FU w32) (FU w33) x2.data.toList) (fun _ _ _ h => Fl h) (.cons (hr0) (.cons (NG _) (.cons (NG _) (.cons (LU _ _ _ _) (.nil)))))).mono fun e W1 he => ?_
  obtain ⟨rfl, hb⟩ := he
  exact ⟨_, rfl, Fk (pa := p0) (pv := []) hW1 (fun _ _ _ => trodAll_mk1 (shut_bool Tryz.underlying4 _)) (fun sp hsp => by have h := trodAll_mk4 (Ch (by kernel_rfl) (by kernel_rfl) (by decide) a0 W1 sp hb (fun q hq => hsp q (by simp [hq]))) (shut_string Tryz.underlying9 w1) (shut_string Tryz.underlying9 w2) (RH Tryz.underlying27 (by kernel_rfl) (by kernel_rfl) Tryz.underlying3 ⟨rfl, rfl, rfl, rfl⟩ w31 w32 w33 w34); simp only [QQD] at h; exact h) (fun _ _ => rfl) (by simp) hb
    (ok_one (by kernel_rfl) rfl (okWide_bool_mk Tryz.underlying4 _))⟩

theorem holds : Rows.TagdecReadsUptoSaid :=
  OpenClaim.holds_of_cond 3 Tryz.f3 rfl rfl rfl rfl rfl rfl rfl ⟨rfl, rfl, rfl, rfl, rfl⟩ rfl rfl rfl rfl rfl (by kernel_rfl) Tryz.func3 (by kernel_rfl)
    (of_decide_eq_true (by kernel_rfl)) (by unfold Func.isWrapper; first | (rw [QP5 (by decide +kernel)]; kernel_rfl) | (rw [QPO (by decide +kernel)]; exact ⟨rfl, rfl⟩))
    (fun os started H enc _ F => lifted os started H enc F)

end PTagdecReads
end Go.Proofs.YtfgchfdkiomfpaaGreat

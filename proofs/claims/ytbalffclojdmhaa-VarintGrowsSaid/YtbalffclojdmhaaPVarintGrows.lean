/- Wireschema law VarintGrows: whatever the input, the law returns true and its input reads as it did. -/
import Derived.Test.YtbalffclojdmhaaRows
import Derived.ProofKit
import Derived.ChangeMaps5
import Derived.Test.YtbalffclojdmhaaBr
import Derived.Test.YtbalffclojdmhaaVg
import Derived.Test.YtbalffclojdmhaaBa
namespace Go.Proofs.Ytbalffclojdmhaa
open Go.ChangeShapes Go.WideShapes Go.ChangeAt Go.RowKit Go.ChangeMaps Am Br

namespace PVarintGrows
theorem own : ownKnob Try.prog.godebug = none := by kernel_rfl

set_option maxRecDepth 100000 in
theorem lifted (os : Os) (started : os.Started) (H : Type) (enc : TypeId × Value → H) :
    ReturnsInHanded {} Try.checked os 4 .any (Rows.varintGrowsSpec.pre6 enc Try.prog Try.f4 Rows.varintGrowsRow.domain false) (Rows.varintGrowsSpec.post enc Try.prog Try.f4 false true false false) := by
  refine returnsInHanded_of_change (C := Try.checked) own started (by kernel_rfl) Try.func4
    (ChangeSpec.witness6 (enc := enc) (C := Try.checked) false ⟨#[], #[.agg #[.int .u64 0, .int .u64 0], .agg #[.int .i64 0, .int .i64 0]], []⟩ 8 (by kernel_rfl) (by kernel_rfl) (by kernel_rfl) (by kernel_rfl)) ?_
  intro W base args ds gs before hval0 hW hcnd _
  have hval : ∀ (j : Nat) t v, Try.f4.params[j]? = some t → args[j]? = some v → Value.okWide Try.prog W .any base t v := hval0
  have hW1 := hW
  obtain ⟨p, q, hA0, hV, rfl, hfz, hnd⟩ := hW
  have hA : DataW.TrodAll enc Try.prog W 0 (fun _ => true) true Try.f4.params.toList args.toList ds p := hA0
  rw [Try.params4] at hA hval
  obtain ⟨v0, v1, d0, d1, p0, p1, rfl, rfl, rfl, a0, a1⟩ := trodAll_two hA
  obtain ⟨rfl, rfl⟩ := trodVars_none hV
  obtain ⟨x0, y0, rfl, rfl, rfl, w0, z0⟩ := open_pair Try.underlying26 Try.underlying22 (by kernel_rfl) (by kernel_rfl) (hval 0 26 v0 rfl rfl) a0
  obtain ⟨x1, y1, rfl, rfl, rfl, w1, z1⟩ := open_pair Try.underlying27 Try.underlying3 (by kernel_rfl) (by kernel_rfl) (hval 1 27 v1 rfl rfl) a1
  clear hA0 hval0
  simp only [List.append_nil] at hW1
  refine (calls_of_fn1 (stab := fun _ _ => none) (Va.grows_of x0 y0 x1 y1 w0 z0 w1 z1) (fun _ _ _ h => by cases h) (.cons (okWide_pair_rep) (.cons (okWide_pair_rep) (.nil)))).mono fun e W1 he => ?_
  obtain ⟨rfl, hb⟩ := he
  exact ⟨_, rfl, post_of_below (pa := []) (pv := []) hW1 (fun _ _ _ => trodAll_mk1 (shut_bool Try.underlying4 _)) (fun sp _ => trodAll_mk2 (shut_pair Try.underlying26 Try.underlying22 (by kernel_rfl) (by kernel_rfl) w0 z0) (shut_pair Try.underlying27 Try.underlying3 (by kernel_rfl) (by kernel_rfl) w1 z1)) (fun _ _ => rfl) rfl hb
    (ok_one (by kernel_rfl) rfl (okWide_bool_mk Try.underlying4 _))⟩

theorem holds : Rows.VarintGrowsSaid :=
  OpenClaim.holds_of_wide 4 Try.f4 rfl rfl rfl rfl rfl rfl rfl ⟨rfl, rfl, rfl, rfl, rfl⟩ rfl rfl rfl rfl rfl (by kernel_rfl) Try.func4 (by kernel_rfl)
    (of_decide_eq_true (by kernel_rfl)) (by unfold Func.isWrapper; first | (rw [if_pos (by decide +kernel)]; kernel_rfl) | (rw [if_neg (by decide +kernel)]; exact ⟨rfl, rfl⟩))
    (fun os started H enc _ => lifted os started H enc)

end PVarintGrows
end Go.Proofs.Ytbalffclojdmhaa

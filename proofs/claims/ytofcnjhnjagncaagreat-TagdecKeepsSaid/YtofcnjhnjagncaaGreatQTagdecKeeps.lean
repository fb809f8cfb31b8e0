/- Wireschema law TagdecKeeps: whatever the input, the law returns true and its input reads as it did. -/
import Derived.Test.YtofcnjhnjagncaaGreatRows
import Derived.ProofKit
import Derived.ChangeMaps5
import Derived.Test.YtofcnjhnjagncaaGreatMTagdecKeeps5
namespace Go.Proofs.YtofcnjhnjagncaaGreat
open Go.ChangeShapes Go.WideShapes Go.ChangeAt Go.RowKit Go.ChangeMaps Am Br

namespace PTagdecKeeps
theorem own : ownKnob Tryz.prog.godebug = none := by kernel_rfl

set_option maxRecDepth 100000 in
theorem lifted (os : Os) (started : os.Started) (H : Type) (enc : TypeId × Value → H) :
    ReturnsInHanded {} Tryz.checked os 3 .any (Rows.tagdecKeepsSpec.pre6 enc Tryz.prog Tryz.f3 Rows.tagdecKeepsRow.domain false) (Rows.tagdecKeepsSpec.post enc Tryz.prog Tryz.f3 false true false false) := by
  refine returnsInHanded_of_change (C := Tryz.checked) own started (by kernel_rfl) Tryz.func3
    (ChangeSpec.witness6 (enc := enc) (C := Tryz.checked) false ⟨#[], #[.string ⟨#[]⟩, .agg #[.int .i64 0, .int .i64 0, .int .i64 0, .int .i64 0]], []⟩ 8 (by kernel_rfl) (by kernel_rfl) (by kernel_rfl) (by kernel_rfl)) ?_
  intro W base args ds gs before hval0 hW hcnd _
  have hval : ∀ (j : Nat) t v, Tryz.f3.params[j]? = some t → args[j]? = some v → Value.okWide Tryz.prog W .any base t v := hval0
  have hW1 := hW
  obtain ⟨p, q, hA0, hV, rfl, hfz, hnd⟩ := hW
  have hA : DataW.TrodAll enc Tryz.prog W 0 (fun _ => true) true Tryz.f3.params.toList args.toList ds p := hA0
  rw [Tryz.params3] at hA hval
  obtain ⟨v0, v1, d0, d1, p0, p1, rfl, rfl, rfl, a0, a1⟩ := trodAll_two hA
  obtain ⟨rfl, rfl⟩ := trodVars_none hV
  obtain ⟨x0, rfl, rfl, rfl, w0⟩ := open_string Tryz.underlying9 (hval 0 9 v0 rfl rfl) a0
  obtain ⟨a11, a12, a13, a14, rfl, rfl, rfl, w11, w12, w13, w14⟩ := open_lim Tryz.underlying23 (by kernel_rfl) (by kernel_rfl) Tryz.underlying3 ⟨rfl, rfl, rfl, rfl⟩ (hval 1 23 v1 rfl rfl) a1
  clear hA0 hval0
  simp only [List.append_nil] at hW1
  refine (calls_of_fn1 (stab := fun _ _ => none) (Va.c3 x0.data.toList ⟨a11, a12, a13, a14⟩ (i64_hi w12)) (fun _ _ _ h => by cases h) (.cons (rep_str _) (.cons (rep_lim _ _ _ _) (.nil)))).mono fun e W1 he => ?_
  obtain ⟨rfl, hb⟩ := he
  exact ⟨_, rfl, post_of_below (pa := []) (pv := []) hW1 (fun _ _ _ => trodAll_mk1 (shut_bool Tryz.underlying4 _)) (fun sp _ => trodAll_mk2 (shut_string Tryz.underlying9 w0) (shut_lim Tryz.underlying23 (by kernel_rfl) (by kernel_rfl) Tryz.underlying3 ⟨rfl, rfl, rfl, rfl⟩ w11 w12 w13 w14)) (fun _ _ => rfl) rfl hb
    (ok_one (by kernel_rfl) rfl (okWide_bool_mk Tryz.underlying4 _))⟩

theorem holds : Rows.TagdecKeepsSaid :=
  OpenClaim.holds_of_wide 3 Tryz.f3 rfl rfl rfl rfl rfl rfl rfl ⟨rfl, rfl, rfl, rfl, rfl⟩ rfl rfl rfl rfl rfl (by kernel_rfl) Tryz.func3 (by kernel_rfl)
    (of_decide_eq_true (by kernel_rfl)) (by unfold Func.isWrapper; first | (rw [if_pos (by decide +kernel)]; kernel_rfl) | (rw [if_neg (by decide +kernel)]; exact ⟨rfl, rfl⟩))
    (fun os started H enc _ => lifted os started H enc)

end PTagdecKeeps
end Go.Proofs.YtofcnjhnjagncaaGreat

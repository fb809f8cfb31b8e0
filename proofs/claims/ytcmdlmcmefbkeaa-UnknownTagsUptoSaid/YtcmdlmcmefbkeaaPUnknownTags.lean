/- Wireschema law UnknownTags: whatever the input (of bulk at most 1048576), the law returns true and its input reads as it did. -/
import Derived.Test.YtcmdlmcmefbkeaaRows
import Derived.ProofKit
import Derived.JoinedCond
import Derived.ChangeMaps5
import Derived.Test.YtcmdlmcmefbkeaaBr
import Derived.Test.YtcmdlmcmefbkeaaUk
import Derived.Test.YtcmdlmcmefbkeaaBc
namespace Go.Proofs.Ytcmdlmcmefbkeaa
open Go.ChangeShapes Go.WideShapes Go.ChangeAt Go.RowKit Go.ChangeMaps Am Br

namespace PUnknownTags
theorem own : ownKnob Try.prog.godebug = none := by kernel_rfl

set_option maxRecDepth 100000 in
theorem lifted (os : Os) (started : os.Started) (H : Type) (enc : TypeId × Value → H) (F : Stop.Interp) :
    ReturnsInHanded {} Try.checked os 3 .any ((Rows.OpenSpec.upto Rows.unknownTagsSpec).pre6 enc Try.prog Try.f3 Rows.unknownTagsUptoRow.domain false) (((Rows.OpenSpec.upto Rows.unknownTagsSpec).at F).post enc Try.prog Try.f3 false true false false) := by
  refine returnsInHanded_of_cond (C := Try.checked) (s := Rows.OpenSpec.upto Rows.unknownTagsSpec) (k := Rows.uptoSmall) rfl own started (by kernel_rfl) Try.func3
    (OpenSpec.witness (enc := enc) (C := Try.checked) (s := Rows.OpenSpec.upto Rows.unknownTagsSpec) (k := Rows.uptoSmall) (x := ([.lit (.int .i64 0), .lit (.int .i64 0), .agg [.lit (.string []), .lit (.int .i64 0), .lit (.int .i64 0), .lit (.int .i64 0), .lit (.int .i64 0), .lit (.int .i64 0)]], [], [])) rfl false ⟨#[], #[.int .i64 0, .int .i64 0, .agg #[.string ⟨#[]⟩, .int .i64 0, .int .i64 0, .int .i64 0, .int .i64 0, .int .i64 0]], []⟩ 8 (by kernel_rfl) (by kernel_rfl) (by kernel_rfl) (by kernel_rfl) (by kernel_rfl) (by kernel_rfl) (by kernel_rfl)) ?_
  intro W base args ds gs before hval0 hW hcnd hk _
  show Calls Try.prog 3 args W fun e W' => ∃ v, e = .returned v ∧ Rows.unknownTagsSpec.post enc Try.prog Try.f3 false true false false W args v W'
  have hval : ∀ (j : Nat) t v, Try.f3.params[j]? = some t → args[j]? = some v → Value.okWide Try.prog W .any base t v := hval0
  have hW1 := hW
  obtain ⟨p, q, hA0, hV, rfl, hfz, hnd⟩ := hW
  have hA : DataW.TrodAll enc Try.prog W 0 (fun _ => true) true Try.f3.params.toList args.toList ds p := hA0
  rw [Try.params3] at hA hval
  obtain ⟨v0, v1, v2, d0, d1, d2, p0, p1, p2, rfl, rfl, rfl, a0, a1, a2⟩ := trodAll_three hA
  obtain ⟨rfl, rfl⟩ := trodVars_none hV
  obtain ⟨x0, rfl, rfl, rfl, w0⟩ := open_int Try.underlying3 (hval 0 3 v0 rfl rfl) a0
  obtain ⟨x1, rfl, rfl, rfl, w1⟩ := open_int Try.underlying3 (hval 1 3 v1 rfl rfl) a1
  obtain ⟨x2, a21, a22, a23, a24, a25, rfl, rfl, rfl, w2, w21, w22, w23, w24, w25⟩ := open_cur Try.underlying23 (by kernel_rfl) (by kernel_rfl) Try.underlying9 Try.underlying3 ⟨rfl, rfl, rfl, rfl, rfl, rfl⟩ (hval 2 23 v2 rfl rfl) a2
  clear hA0 hval0
  have hlen : x2.data.toList.length ≤ 1048576 := by
    have h := hk
    simp [Rows.uptoSmall, Rows.uptoBulkAll, Rows.uptoBulk] at h
    simp
    omega
  simp only [List.append_nil] at hW1
  refine (calls_of_fn1 (stab := fun _ _ => none) (Va.c3 x0 x1 ⟨x2.data.toList, a21, a22, a23, a24, a25⟩ (Nat.le_trans hlen (by decide))) (fun _ _ _ h => by cases h) (.cons (.int _ _) (.cons (.int _ _) (.cons (rep_cur _ _ _ _ _ _) (.nil))))).mono fun e W1 he => ?_
  obtain ⟨rfl, hb⟩ := he
  exact ⟨_, rfl, post_of_below (pa := []) (pv := []) hW1 (fun _ _ _ => trodAll_mk1 (shut_bool Try.underlying4 _)) (fun sp _ => trodAll_mk3 (shut_int Try.underlying3 w0) (shut_int Try.underlying3 w1) (shut_cur Try.underlying23 (by kernel_rfl) (by kernel_rfl) Try.underlying9 Try.underlying3 ⟨rfl, rfl, rfl, rfl, rfl, rfl⟩ w2 w21 w22 w23 w24 w25)) (fun _ _ => rfl) rfl hb
    (ok_one (by kernel_rfl) rfl (okWide_bool_mk Try.underlying4 _))⟩

theorem holds : Rows.UnknownTagsUptoSaid :=
  OpenClaim.holds_of_cond 3 Try.f3 rfl rfl rfl rfl rfl rfl rfl ⟨rfl, rfl, rfl, rfl, rfl⟩ rfl rfl rfl rfl rfl (by kernel_rfl) Try.func3 (by kernel_rfl)
    (of_decide_eq_true (by kernel_rfl)) (by unfold Func.isWrapper; first | (rw [if_pos (by decide +kernel)]; kernel_rfl) | (rw [if_neg (by decide +kernel)]; exact ⟨rfl, rfl⟩))
    (fun os started H enc _ F => lifted os started H enc F)

end PUnknownTags
end Go.Proofs.Ytcmdlmcmefbkeaa

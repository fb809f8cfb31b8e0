/- Wireschema law UnknownLists: whatever the input, the law returns true and its input reads as it did. -/
import Derived.Test.YtcmdlmcmefbkeaaRows
import Derived.ProofKit
import Derived.ChangeMaps5
import Derived.Test.YtcmdlmcmefbkeaaMUnknownLists4
namespace Go.Proofs.Ytcmdlmcmefbkeaa
open Go.ChangeShapes Go.WideShapes Go.ChangeAt Go.RowKit Go.ChangeMaps Am Br

namespace PUnknownLists
theorem own : ownKnob Try.prog.godebug = none := by kernel_rfl

set_option maxRecDepth 100000 in
theorem lifted (os : Os) (started : os.Started) (H : Type) (enc : TypeId × Value → H) :
    ReturnsInHanded {} Try.checked os 9 .any (Rows.unknownListsSpec.pre6 enc Try.prog Try.f9 Rows.unknownListsRow.domain false) (Rows.unknownListsSpec.post enc Try.prog Try.f9 false true false false) := by
  refine returnsInHanded_of_change (C := Try.checked) own started (by kernel_rfl) Try.func9
    (ChangeSpec.witness6 (enc := enc) (C := Try.checked) false ⟨#[], #[.slice none 0 0, .int .i64 0], []⟩ 8 (by kernel_rfl) (by kernel_rfl) (by kernel_rfl) (by kernel_rfl)) ?_
  intro W base args ds gs before hval0 hW hcnd _
  have hval : ∀ (j : Nat) t v, Try.f9.params[j]? = some t → args[j]? = some v → Value.okWide Try.prog W .any base t v := hval0
  have hW1 := hW
  obtain ⟨p, q, hA0, hV, rfl, hfz, hnd⟩ := hW
  have hA : DataW.TrodAll enc Try.prog W 0 (fun _ => true) true Try.f9.params.toList args.toList ds p := hA0
  rw [Try.params9] at hA hval
  obtain ⟨v0, v1, d0, d1, p0, p1, rfl, rfl, rfl, a0, a1⟩ := trodAll_two hA
  obtain ⟨rfl, rfl⟩ := trodVars_none hV
  obtain ⟨y0, xs0, hy0, hok0, ⟨rest0, hd0⟩, hr0, hsh0⟩ := open_row (enc := enc) (elRaw Try.underlying33 (by kernel_rfl) (by kernel_rfl) Try.underlying3 Try.underlying31 Try.underlying9 ⟨rfl, rfl, rfl, rfl⟩) Try.underlying39 (by kernel_rfl) (hval 0 39 v0 rfl rfl) a0
  obtain ⟨x1, rfl, rfl, rfl, w1⟩ := open_int Try.underlying3 (hval 1 3 v1 rfl rfl) a1
  replace hr0 := rep_list hy0 hr0
  clear hA0 hval0
  simp only [List.append_nil] at hW1
  refine (calls_of_fn1 (stab := fun b o => W.cell? ⟨b, o, none⟩) (Va.c9 xs0 x1 (fun f hf => by have := u64_hi (hok0 f hf).2.2.1; omega)) (fun _ _ _ h => h) (.cons (hr0) (.cons (.int _ _) (.nil)))).mono fun e W1 he => ?_
  obtain ⟨rfl, hb⟩ := he
  exact ⟨_, rfl, post_of_below (pa := p0) (pv := []) hW1 (fun _ _ _ => trodAll_mk1 (shut_bool Try.underlying4 _)) (fun sp hsp => by have h := trodAll_mk2 (hsh0 W1 sp hb hsp) (shut_int Try.underlying3 w1); rwa [List.append_nil] at h) (fun _ _ => rfl) (by simp) hb
    (ok_one (by kernel_rfl) rfl (okWide_bool_mk Try.underlying4 _))⟩

theorem holds : Rows.UnknownListsSaid :=
  OpenClaim.holds_of_wide 9 Try.f9 rfl rfl rfl rfl rfl rfl rfl ⟨rfl, rfl, rfl, rfl, rfl⟩ rfl rfl rfl rfl rfl (by kernel_rfl) Try.func9 (by kernel_rfl)
    (of_decide_eq_true (by kernel_rfl)) (by unfold Func.isWrapper; first | (rw [if_pos (by decide +kernel)]; kernel_rfl) | (rw [if_neg (by decide +kernel)]; exact ⟨rfl, rfl⟩))
    (fun os started H enc _ => lifted os started H enc)

end PUnknownLists
end Go.Proofs.Ytcmdlmcmefbkeaa

/- Wireschema law UnknownRoundTrips: whatever the input, the law returns true and its input reads as it did. -/
import Derived.Test.YtcmdlmcmefbkeaaRows
import Derived.ProofKit
import Derived.ChangeMaps5
import Derived.Test.YtcmdlmcmefbkeaaBr
import Derived.Test.YtcmdlmcmefbkeaaUw
import Derived.Test.YtcmdlmcmefbkeaaBw
namespace Go.Proofs.Ytcmdlmcmefbkeaa
open Go.ChangeShapes Go.WideShapes Go.ChangeAt Go.RowKit Go.ChangeMaps Am Br

namespace PUnknownRoundTrips
theorem own : ownKnob Try.prog.godebug = none := by kernel_rfl

set_option maxRecDepth 100000 in
theorem lifted (os : Os) (started : os.Started) (H : Type) (enc : TypeId × Value → H) :
    ReturnsInHanded {} Try.checked os 6 .any (Rows.unknownRoundTripsSpec.pre6 enc Try.prog Try.f6 Rows.unknownRoundTripsRow.domain false) (Rows.unknownRoundTripsSpec.post enc Try.prog Try.f6 false true false false) := by
  refine returnsInHanded_of_change (C := Try.checked) own started (by kernel_rfl) Try.func6
    (ChangeSpec.witness6 (enc := enc) (C := Try.checked) false ⟨#[], #[.slice none 0 0], []⟩ 8 (by kernel_rfl) (by kernel_rfl) (by kernel_rfl) (by kernel_rfl)) ?_
  intro W base args ds gs before hval0 hW hcnd _
  have hval : ∀ (j : Nat) t v, Try.f6.params[j]? = some t → args[j]? = some v → Value.okWide Try.prog W .any base t v := hval0
  have hW1 := hW
  obtain ⟨p, q, hA0, hV, rfl, hfz, hnd⟩ := hW
  have hA : DataW.TrodAll enc Try.prog W 0 (fun _ => true) true Try.f6.params.toList args.toList ds p := hA0
  rw [Try.params6] at hA hval
  obtain ⟨v0, d0, rfl, rfl, a0⟩ := trodAll_one hA
  obtain ⟨rfl, rfl⟩ := trodVars_none hV
  obtain ⟨y0, xs0, hy0, hok0, ⟨rest0, hd0⟩, hr0, hsh0⟩ := open_row (enc := enc) (elRaw Try.underlying33 (by kernel_rfl) (by kernel_rfl) Try.underlying3 Try.underlying31 Try.underlying9 ⟨rfl, rfl, rfl, rfl⟩) Try.underlying39 (by kernel_rfl) (hval 0 39 v0 rfl rfl) a0
  clear hA0 hval0
  simp only [List.append_nil] at hW1
  refine (calls_of_fn1 (stab := fun b o => W.cell? ⟨b, o, none⟩) (Va.a6 y0 xs0 hy0 (fun f hf => by have := u64_hi (hok0 f hf).2.2.1; omega)) (fun _ _ _ h => h) (.cons (hr0) (.nil))).mono fun e W1 he => ?_
  obtain ⟨rfl, hb⟩ := he
  exact ⟨_, rfl, post_of_below (pa := p) (pv := []) hW1 (fun _ _ _ => trodAll_mk1 (shut_bool Try.underlying4 _)) (fun sp hsp => trodAll_mk1 (hsh0 W1 sp hb hsp)) (fun _ _ => rfl) (by simp) hb
    (ok_one (by kernel_rfl) rfl (okWide_bool_mk Try.underlying4 _))⟩

theorem holds : Rows.UnknownRoundTripsSaid :=
  OpenClaim.holds_of_wide 6 Try.f6 rfl rfl rfl rfl rfl rfl rfl ⟨rfl, rfl, rfl, rfl, rfl⟩ rfl rfl rfl rfl rfl (by kernel_rfl) Try.func6 (by kernel_rfl)
    (of_decide_eq_true (by kernel_rfl)) (by unfold Func.isWrapper; first | (rw [if_pos (by decide +kernel)]; kernel_rfl) | (rw [if_neg (by decide +kernel)]; exact ⟨rfl, rfl⟩))
    (fun os started H enc _ => lifted os started H enc)

end PUnknownRoundTrips
end Go.Proofs.Ytcmdlmcmefbkeaa

/- Wireschema law VarintFixed: whatever the input (of bulk at most 1048576), the law returns true and its input reads as it did. -/
import Derived.Test.YtbalffclojdmhaaRows
import Derived.ProofKit
import Derived.JoinedCond
import Derived.ChangeMaps5
import Derived.Test.YtbalffclojdmhaaBr
import Derived.Test.YtbalffclojdmhaaFy
namespace Go.Proofs.Ytbalffclojdmhaa
open Go.ChangeShapes Go.WideShapes Go.ChangeAt Go.RowKit Go.ChangeMaps Am Br

namespace PVarintFixed
theorem own : ownKnob Try.prog.godebug = none := by kernel_rfl

set_option maxRecDepth 100000 in
theorem lifted (os : Os) (started : os.Started) (H : Type) (enc : TypeId × Value → H) (F : Stop.Interp) :
    ReturnsInHanded {} Try.checked os 6 .any ((Rows.OpenSpec.upto Rows.varintFixedSpec).pre6 enc Try.prog Try.f6 Rows.varintFixedUptoRow.domain false) (((Rows.OpenSpec.upto Rows.varintFixedSpec).at F).post enc Try.prog Try.f6 false true false false) := by
  refine returnsInHanded_of_cond (C := Try.checked) (s := Rows.OpenSpec.upto Rows.varintFixedSpec) (k := Rows.uptoSmall) rfl own started (by kernel_rfl) Try.func6
    (OpenSpec.witness (enc := enc) (C := Try.checked) (s := Rows.OpenSpec.upto Rows.varintFixedSpec) (k := Rows.uptoSmall) (x := ([.lit (.int .u64 0), .lit (.string [])], [], [])) rfl false ⟨#[], #[.int .u64 0, .string ⟨#[]⟩], []⟩ 8 (by kernel_rfl) (by kernel_rfl) (by kernel_rfl) (by kernel_rfl) (by kernel_rfl) (by kernel_rfl) (by kernel_rfl)) ?_
  intro W base args ds gs before hval0 hW hcnd hk _
  show Calls Try.prog 6 args W fun e W' => ∃ v, e = .returned v ∧ Rows.varintFixedSpec.post enc Try.prog Try.f6 false true false false W args v W'
  have hval : ∀ (j : Nat) t v, Try.f6.params[j]? = some t → args[j]? = some v → Value.okWide Try.prog W .any base t v := hval0
  have hW1 := hW
  obtain ⟨p, q, hA0, hV, rfl, hfz, hnd⟩ := hW
  have hA : DataW.TrodAll enc Try.prog W 0 (fun _ => true) true Try.f6.params.toList args.toList ds p := hA0
  rw [Try.params6] at hA hval
  obtain ⟨v0, v1, d0, d1, p0, p1, rfl, rfl, rfl, a0, a1⟩ := trodAll_two hA
  obtain ⟨rfl, rfl⟩ := trodVars_none hV
  obtain ⟨x0, rfl, rfl, rfl, w0⟩ := open_int Try.underlying22 (hval 0 22 v0 rfl rfl) a0
  obtain ⟨x1, rfl, rfl, rfl, w1⟩ := open_string Try.underlying9 (hval 1 9 v1 rfl rfl) a1
  clear hA0 hval0
  have hlen : x1.data.toList.length ≤ 1048576 := by
    have h := hk
    simp [Rows.uptoSmall, Rows.uptoBulkAll, Rows.uptoBulk] at h
    simp
    omega
  simp only [List.append_nil] at hW1
  refine (calls_of_fn1 (stab := fun _ _ => none) (Va.c6 x0 x1.data.toList (u64_lo w0) (u64_hi w0) (Nat.le_trans hlen (by decide))) (fun _ _ _ h => by cases h) (.cons (.int _ _) (.cons (rep_str _) (.nil)))).mono fun e W1 he => ?_
  obtain ⟨rfl, hb⟩ := he
  exact ⟨_, rfl, post_of_below (pa := []) (pv := []) hW1 (fun _ _ _ => trodAll_mk1 (shut_bool Try.underlying4 _)) (fun sp _ => trodAll_mk2 (shut_int Try.underlying22 w0) (shut_string Try.underlying9 w1)) (fun _ _ => rfl) rfl hb
    (ok_one (by kernel_rfl) rfl (okWide_bool_mk Try.underlying4 _))⟩

theorem holds : Rows.VarintFixedUptoSaid :=
  OpenClaim.holds_of_cond 6 Try.f6 rfl rfl rfl rfl rfl rfl rfl ⟨rfl, rfl, rfl, rfl, rfl⟩ rfl rfl rfl rfl rfl (by kernel_rfl) Try.func6 (by kernel_rfl)
    (of_decide_eq_true (by kernel_rfl)) (by unfold Func.isWrapper; first | (rw [if_pos (by decide +kernel)]; kernel_rfl) | (rw [if_neg (by decide +kernel)]; exact ⟨rfl, rfl⟩))
    (fun os started H enc _ F => lifted os started H enc F)

end PVarintFixed
end Go.Proofs.Ytbalffclojdmhaa

/- Wireschema law TagdecScalars: whatever the input (of bulk at most 1048576), the law returns true and its input reads as it did. -/
import Derived.Test.YtdmbncmbkocjjaaGreatRows
import Derived.ProofKit
import Derived.JoinedCond
import Derived.ChangeMaps5
import Derived.Test.YtdmbncmbkocjjaaGreatMTagdecScalars5
namespace Go.Proofs.YtdmbncmbkocjjaaGreat
open Go.ChangeShapes Go.WideShapes Go.ChangeAt Go.RowKit Go.ChangeMaps Am Br

namespace PTagdecScalars
theorem own : ownKnob Tryz.prog.godebug = none := by kernel_rfl

set_option maxRecDepth 100000 in
theorem lifted (os : Os) (started : os.Started) (H : Type) (enc : TypeId × Value → H) (F : Stop.Interp) :
    ReturnsInHanded {} Tryz.checked os 3 .any ((Rows.OpenSpec.upto Rows.tagdecScalarsSpec).pre6 enc Tryz.prog Tryz.f3 Rows.tagdecScalarsUptoRow.domain false) (((Rows.OpenSpec.upto Rows.tagdecScalarsSpec).at F).post enc Tryz.prog Tryz.f3 false true false false) := by
  refine returnsInHanded_of_cond (C := Tryz.checked) (s := Rows.OpenSpec.upto Rows.tagdecScalarsSpec) (k := Rows.uptoSmall) rfl own started (by kernel_rfl) Tryz.func3
    (OpenSpec.witness (enc := enc) (C := Tryz.checked) (s := Rows.OpenSpec.upto Rows.tagdecScalarsSpec) (k := Rows.uptoSmall) (x := ([.agg [.nil, .nil], .agg [.lit (.int .i64 0), .lit (.int .i64 0)], .agg [.lit (.int .i64 0), .lit (.int .i64 0), .lit (.int .u64 0), .lit (.string [])]], [], [])) rfl false ⟨#[], #[.agg #[.slice none 0 0, .slice none 0 0], .agg #[.int .i64 0, .int .i64 0], .agg #[.int .i64 0, .int .i64 0, .int .u64 0, .string ⟨#[]⟩]], []⟩ 8 (by kernel_rfl) (by kernel_rfl) (by kernel_rfl) (by kernel_rfl) (by kernel_rfl) (by kernel_rfl) (by kernel_rfl)) ?_
  intro W base args ds gs before hval0 hW hcnd hk _
  show Calls Tryz.prog 3 args W fun e W' => ∃ v, e = .returned v ∧ Rows.tagdecScalarsSpec.post enc Tryz.prog Tryz.f3 false true false false W args v W'
  have hval : ∀ (j : Nat) t v, Tryz.f3.params[j]? = some t → args[j]? = some v → Value.okWide Tryz.prog W .any base t v := hval0
  have hW1 := hW
  obtain ⟨p, q, hA0, hV, rfl, hfz, hnd⟩ := hW
  have hA : DataW.TrodAll enc Tryz.prog W 0 (fun _ => true) true Tryz.f3.params.toList args.toList ds p := hA0
  rw [Tryz.params3] at hA hval
  obtain ⟨v0, v1, v2, d0, d1, d2, p0, p1, p2, rfl, rfl, rfl, a0, a1, a2⟩ := trodAll_three hA
  obtain ⟨rfl, rfl⟩ := trodVars_none hV
  have hb0 : Rows.uptoBulk d0 ≤ 1048576 := by
    have h := hk
    simp only [Rows.uptoSmall, List.append_nil, Rows.uptoBulkAll, decide_eq_true_eq] at h
    omega
  obtain ⟨k0, as0, has0, hr0⟩ := open_struct (M := 1048576) (ts := [25, 22, 35, 9, 33, 32, 3, 23, 70, 4, 66, 73, 68, 85, 41, 27, 36, 37, 121, 38, 61, 39, 29, 67, 83]) (by decide +kernel) (by decide) Tryz.underlying25 (hval 0 25 v0 rfl rfl) a0 (.inr hb0)
  obtain ⟨x0, ok0, e0⟩ := has_plan has0
  rw [e0] at hr0
  obtain ⟨G0, E0, ip0, iw0, pe0⟩ := Va.isPW ok0
  rw [pe0] at hr0
  obtain ⟨x1, y1, rfl, rfl, rfl, w1, z1⟩ := open_pair Tryz.underlying26 Tryz.underlying3 (by kernel_rfl) (by kernel_rfl) (hval 1 26 v1 rfl rfl) a1
  have hb2 : Rows.uptoBulk d2 ≤ 1048576 := by
    have h := hk
    simp only [Rows.uptoSmall, List.append_nil, Rows.uptoBulkAll, decide_eq_true_eq] at h
    omega
  obtain ⟨k2, as2, has2, hr2⟩ := open_struct (M := 1048576) (ts := [29, 3, 27, 9]) (by decide +kernel) (by decide) Tryz.underlying29 (hval 2 29 v2 rfl rfl) a2 (.inr hb2)
  obtain ⟨x2, ok2, e2⟩ := has_raw has2
  rw [e2] at hr2
  clear hA0 hval0
  simp only [List.append_nil] at hW1
  refine (calls_of_fn1 (stab := fun b o => W.cell? ⟨b, o, none⟩) (Va.c3 G0 E0 ip0 iw0 x1 y1 x2 (by have := u64_hi ok2.2.2.1; omega) (Va.bm8 ok2.2.2.2)) (fun _ _ _ h => h) (.cons (hr0) (.cons (okWide_pair_rep) (.cons (hr2) (.nil))))).mono fun e W1 he => ?_
  obtain ⟨rfl, hb⟩ := he
  exact ⟨_, rfl, post_of_below (pa := p0 ++ p2) (pv := []) hW1 (fun _ _ _ => trodAll_mk1 (shut_bool Tryz.underlying4 _)) (fun sp hsp => trodAll_mk3 (deep_stays (by kernel_rfl) (by kernel_rfl) (by decide) a0 W1 sp hb (fun q hq => hsp q (by simp [hq]))) (shut_pair Tryz.underlying26 Tryz.underlying3 (by kernel_rfl) (by kernel_rfl) w1 z1) (deep_stays (by kernel_rfl) (by kernel_rfl) (by decide) a2 W1 sp hb (fun q hq => hsp q (by simp [hq])))) (fun _ _ => rfl) (by simp) hb
    (ok_one (by kernel_rfl) rfl (okWide_bool_mk Tryz.underlying4 _))⟩

theorem holds : Rows.TagdecScalarsUptoSaid :=
  OpenClaim.holds_of_cond 3 Tryz.f3 rfl rfl rfl rfl rfl rfl rfl ⟨rfl, rfl, rfl, rfl, rfl⟩ rfl rfl rfl rfl rfl (by kernel_rfl) Tryz.func3 (by kernel_rfl)
    (of_decide_eq_true (by kernel_rfl)) (by unfold Func.isWrapper; first | (rw [if_pos (by decide +kernel)]; kernel_rfl) | (rw [if_neg (by decide +kernel)]; exact ⟨rfl, rfl⟩))
    (fun os started H enc _ F => lifted os started H enc F)

end PTagdecScalars
end Go.Proofs.YtdmbncmbkocjjaaGreat

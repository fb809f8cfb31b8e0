/- The law LensKeeps of layer 30: for any two plans, any name and any value within the reach of the statement the function returns true, its arguments read afterwards as before. No condition beyond the statement's own. -/
import Derived.Test.YtmlohboeoeoamaaGreatDoorRows
import Derived.ProofKit
import Derived.JoinedCond
import Derived.Deep.DeepHandedRow
import Derived.Lay
import Derived.OpenShut
import Derived.SevenTiedAt
import Derived.Test.YtmlohboeoeoamaaGreatDoorCards
import Derived.Test.YtmlohboeoeoamaaGreatDoorTie
import Derived.ChangeMaps5
import Derived.Test.YtmlohboeoeoamaaGreatDoorMLensKeeps6
import Derived.Test.YtmlohboeoeoamaaGreatDoorFLensKeeps
import Derived.Test.YtmlohboeoeoamaaGreatDoorGLensKeeps
set_option linter.unusedSimpArgs false
namespace Go.Proofs.YtmlohboeoeoamaaGreatDoor
open Go.ChangeShapes Go.WideShapes Go.ChangeAt Go.RowKit Go.ChangeMaps Am Br

namespace PLensKeeps
theorem own : ownKnob Tryz.prog.godebug = none := by kernel_rfl

theorem wit (os : Os) (H : Type) (enc : TypeId × Value → H) : ∃ (w : World) (tape : Tape) (i : Input), w.os = os ∧ (w.forCall tape i).Shaped Tryz.checked.prog ∧ i.vars = [] ∧ Input.okWide Tryz.checked.prog (w.forCall tape i) .any w.heap.size 4 i ∧
      (Rows.OpenSpec.upto Rows.lensKeepsSpec).preRow enc Tryz.prog Tryz.f4 Rows.lensKeepsUptoRow.domain false Rows.lensKeepsUptoRow.laid (w.forCall tape i).memory i.args ∧ ({ modest := false } : Assume).holds Tryz.checked.prog (lone (Frame.enter Tryz.checked.prog 4 i.args .normal) [] (w.forCall tape i)) := by
  have hok : Input.okWideB Tryz.checked.prog ((World.laidAll Tryz.prog os Rows.lensKeepsUptoRow.laid).forCall (fun _ _ => 0) ⟨#[], #[.agg #[.slice none 0 0, .slice none 0 0], .agg #[.slice none 0 0, .slice none 0 0], .string ⟨#[]⟩, .agg #[.int .i64 0, .int .u64 0, .string ⟨#[]⟩, .slice none 0 0, .slice none 0 0, .slice none 0 0, .slice none 0 0]], []⟩) 4 ⟨#[], #[.agg #[.slice none 0 0, .slice none 0 0], .agg #[.slice none 0 0, .slice none 0 0], .string ⟨#[]⟩, .agg #[.int .i64 0, .int .u64 0, .string ⟨#[]⟩, .slice none 0 0, .slice none 0 0, .slice none 0 0, .slice none 0 0]], []⟩ = true := by kernel_rfl
  refine ⟨World.laidAll Tryz.prog os Rows.lensKeepsUptoRow.laid, fun _ _ => 0, ⟨#[], #[.agg #[.slice none 0 0, .slice none 0 0], .agg #[.slice none 0 0, .slice none 0 0], .string ⟨#[]⟩, .agg #[.int .i64 0, .int .u64 0, .string ⟨#[]⟩, .slice none 0 0, .slice none 0 0, .slice none 0 0, .slice none 0 0]], []⟩, World.laidAll_os _ _ _, World.shaped_of_ZipB (by kernel_rfl) (by kernel_rfl), (Input.okWide_of_okWideB (base := 0) hok).1, (Input.okWide_of_okWideB hok).2, ?_, by
    simp only [Assume.holds]
    exact ⟨by simp, by simp, fun _ => Modest.zero, by simp, by simp⟩⟩
  exact OpenSpec.preRow_of_cond 8 (x := ([.agg [.nil, .nil], .agg [.nil, .nil], .lit (.string []), .agg [.lit (.int .i64 0), .lit (.int .u64 0), .lit (.string []), .nil, .nil, .nil, .nil]], [], [])) (by kernel_rfl) (by kernel_rfl) (fun k hk => by cases hk; rfl) (by kernel_rfl) (by rw [MakeChecks.laidMetH_plain _ _ _ (by kernel_rfl)]; exact laidMet_laidAll _ (by kernel_rfl) (by kernel_rfl))

set_option maxRecDepth 100000 in
theorem lifted (os : Os) (started : os.Started) (H : Type) (enc : TypeId × Value → H) (F : Stop.Interp) :
    ReturnsInHanded {} Tryz.checked os 4 .any ((Rows.OpenSpec.upto Rows.lensKeepsSpec).preRow enc Tryz.prog Tryz.f4 Rows.lensKeepsUptoRow.domain false Rows.lensKeepsUptoRow.laid) (((Rows.OpenSpec.upto Rows.lensKeepsSpec).at F).post enc Tryz.prog Tryz.f4 false true false false) := by
  refine returnsInHanded_of_row (C := Tryz.checked) (s := Rows.OpenSpec.upto Rows.lensKeepsSpec) own started (by kernel_rfl) Tryz.func4 (wit os H enc) ?_
  intro W base args ds gs before hval0 hW hcnd hk0 _ hlaid _ _
  have hk : Rows.uptoSmall H (ds ++ gs) = true := hk0 _ rfl
  show Calls Tryz.prog 4 args W fun e W' => ∃ v, e = .returned v ∧ Rows.lensKeepsSpec.post enc Tryz.prog Tryz.f4 false true false false W args v W'
  have hval : ∀ (j : Nat) t v, Tryz.f4.params[j]? = some t → args[j]? = some v → Value.okWide Tryz.prog W .any base t v := hval0
  have hW1 := hW
  obtain ⟨p, q, hA0, hV, rfl, hfz, hnd⟩ := hW
  have hA : DataW.TrodAll enc Tryz.prog W 0 (fun _ => true) true Tryz.f4.params.toList args.toList ds p := hA0
  rw [Tryz.params4] at hA hval
  have hL : GG W := Qbv (by rw [MakeChecks.laidMetH_plain _ _ _ (by kernel_rfl)] at hlaid; exact hlaid) (by decide +kernel)
  obtain ⟨v0, v1, v2, v3, d0, d1, d2, d3, p0, p1, p2, p3, rfl, rfl, rfl, a0, a1, a2, a3⟩ := trodAll_four hA
  obtain ⟨rfl, rfl⟩ := trodVars_none hV
  have hb0 : Rows.uptoBulk d0 ≤ 1048576 := by
    have h := hk
    simp only [Rows.uptoSmall, Qms, Rows.uptoBulkAll, Qlr] at h
    omega
  obtain ⟨k0, as0, has0, hr0⟩ := Fv (hL := hL) (M := 1048576) (ts := [25, 22, 48, 9, 46, 43, 3, 23, 109, 4, 105, 112, 107, 117, 32, 26, 27, 28, 68, 29, 50, 30, 57, 106, 115]) (by decide +kernel) (by decide) Tryz.underlying25 (hval 0 25 v0 rfl rfl) a0 (.inr (.inl ⟨by decide, hb0⟩))
  obtain ⟨x0, ok0, e0⟩ := Mi has0
  rw [e0] at hr0
  have hb1 : Rows.uptoBulk d1 ≤ 1048576 := by
    have h := hk
    simp only [Rows.uptoSmall, Qms, Rows.uptoBulkAll, Qlr] at h
    omega
  obtain ⟨k1, as1, has1, hr1⟩ := Fv (hL := hL) (M := 1048576) (ts := [25, 22, 48, 9, 46, 43, 3, 23, 109, 4, 105, 112, 107, 117, 32, 26, 27, 28, 68, 29, 50, 30, 57, 106, 115]) (by decide +kernel) (by decide) Tryz.underlying25 (hval 1 25 v1 rfl rfl) a1 (.inr (.inl ⟨by decide, hb1⟩))
  obtain ⟨x1, ok1, e1⟩ := Mi has1
  rw [e1] at hr1
  obtain ⟨x2, rfl, rfl, rfl, w2⟩ := open_string Tryz.underlying9 (hval 2 9 v2 rfl rfl) a2
  have hb3 : Rows.uptoBulk d3 ≤ 1048576 := by
    have h := hk
    simp only [Rows.uptoSmall, Qms, Rows.uptoBulkAll, Qlr] at h
    omega
  obtain ⟨k3, as3, has3, hr3, cw3⟩ := V8 (hL := hL) (M := 1048576) (ts := [32, 3, 26, 9, 27, 28, 68, 29, 50, 30, 57]) (by decide +kernel) (by decide) Tryz.underlying32 (hval 3 32 v3 rfl rfl) a3 (.inr (.inl ⟨by decide, hb3⟩))
  obtain ⟨x3, vk3, e3⟩ := Qfy (.inr (by decide)) has3
  rw [e3] at hr3 cw3
  clear hA0 hval0
  simp only [Qms] at hW1
  refine (CW (stab := fun b o => sv W b o) (Va.c4 x0 x1 ok0 ok1 (by decide) (by decide) x2.data.toList x3 vk3 (Qll (Va.DG x3) (Qll cw3 hb3))) (fun _ _ _ h => Ca (hL _ _ _ h)) (fun _ _ _ h => V9 h) (.cons (hr0) (.cons (hr1) (.cons (Qbu _) (.cons (hr3) (.nil)))))).mono fun e W1 he => ?_
  obtain ⟨rfl, hb⟩ := he
  exact ⟨_, rfl, V7 (pa := p0 ++ (p1 ++ (p3))) (pv := []) hW1 (fun _ _ _ => trodAll_mk1 (shut_bool Tryz.underlying4 _)) (fun sp hsp => trodAll_mk4 (HZ (by kernel_rfl) (by kernel_rfl) (by decide) a0 W1 sp hb (fun q hq => hsp q (by simp [hq]))) (HZ (by kernel_rfl) (by kernel_rfl) (by decide) a1 W1 sp hb (fun q hq => hsp q (by simp [hq]))) (shut_string Tryz.underlying9 w2) (HZ (by kernel_rfl) (by kernel_rfl) (by decide) a3 W1 sp hb (fun q hq => hsp q (by simp [hq])))) (fun _ _ => rfl) (by simp) hb
    (ok_one (by kernel_rfl) rfl (okWide_bool_mk Tryz.underlying4 _))⟩

theorem holds : Rows.LensKeepsUptoSaid :=
  OpenClaim.holds_of_cond 4 Tryz.f4 rfl rfl rfl rfl rfl rfl rfl ⟨rfl, rfl, rfl, rfl, rfl⟩ rfl rfl rfl rfl rfl (by kernel_rfl) Tryz.func4 jf
    (of_decide_eq_true (by kernel_rfl)) (by unfold Func.isWrapper; first | (rw [Qlv (by decide +kernel)]; kernel_rfl) | (rw [Qlu (by decide +kernel)]; exact ⟨rfl, rfl⟩))
    (fun os started H enc _ F => by rw [OpenClaim.pre_eq_preRow]; exact lifted os started H enc F)

theorem plain (f : FuncId) (fn : Func) (hf : Tryz.pinned.checked.prog.funcNamed "wireschema/wireschemalaw30.LensKeeps" = some f) (hfn : Tryz.pinned.checked.prog.funcs[f]? = some fn) :
    true = Tryz.pinned.checked.prog.looks [] ∧ ∀ (j : Nat) t, fn.params[j]? = some t → Tryz.pinned.checked.prog.wantsStandIn t = false := by
  obtain rfl : f = 4 := Option.some.inj ((show Tryz.prog.funcNamed "wireschema/wireschemalaw30.LensKeeps" = some 4 by kernel_rfl).symm.trans hf) |>.symm
  obtain rfl : fn = Tryz.f4 := (Option.some.inj (Tryz.func4.symm.trans hfn)).symm
  refine ⟨by kernel_rfl, fun j t ht => ?_⟩
  rw [Tryz.params4] at ht
  have hm : t ∈ [25, 25, 9, 32] := by simpa using Array.mem_of_getElem? ht
  have hall : ([25, 25, 9, 32].all fun u => !Tryz.prog.wantsStandIn u) = true := by kernel_rfl
  exact (show Tryz.prog.wantsStandIn t = false by simpa using QlB.1 hall t hm)

theorem card : Rows.LensKeepsUptoCardSaid :=
  Claim7.holds_tied_plain_at .later [] _ _ _ _ holds (fun _ h => by cases h) (by kernel_rfl) (fun _ h => by cases h) lensKeepsUpto_row_tie rfl ⟨rfl, rfl⟩ (by kernel_rfl) rfl plain jg

end PLensKeeps
end Go.Proofs.YtmlohboeoeoamaaGreatDoor

/- The law PlanMakes of layer 22: for any schema within the reach of the statement the function returns true, its argument read afterwards as before. No condition beyond the statement; the proof walks through the code of the program as an abstract machine has it. -/
import Derived.Test.YtaiflhahcglpgaaGreatDoorRows
import Derived.ProofKit
import Derived.JoinedCond
import Derived.Deep.DeepHandedRow
import Derived.Lay
import Derived.OpenShut
import Derived.SevenTiedAt
import Derived.Test.YtaiflhahcglpgaaGreatDoorCards
import Derived.Test.YtaiflhahcglpgaaGreatDoorTie
import Derived.ChangeMaps5
import Derived.Test.YtaiflhahcglpgaaGreatDoorMPlanMakes4
import Derived.Test.YtaiflhahcglpgaaGreatDoorFPlanMakes
set_option linter.unusedSimpArgs false
namespace Go.Proofs.YtaiflhahcglpgaaGreatDoor
open Go.ChangeShapes Go.WideShapes Go.ChangeAt Go.RowKit Go.ChangeMaps Am Br

namespace PPlanMakes
theorem own : ownKnob Tryz.prog.godebug = none := by kernel_rfl

theorem wit (os : Os) (H : Type) (enc : TypeId × Value → H) : ∃ (w : World) (tape : Tape) (i : Input), w.os = os ∧ (w.forCall tape i).Shaped Tryz.checked.prog ∧ i.vars = [] ∧ Input.okWide Tryz.checked.prog (w.forCall tape i) .any w.heap.size 3 i ∧
      (Rows.OpenSpec.upto Rows.planMakesSpec).preRow enc Tryz.prog Tryz.f3 Rows.planMakesUptoRow.domain false Rows.planMakesUptoRow.laid (w.forCall tape i).memory i.args ∧ ({ modest := false } : Assume).holds Tryz.checked.prog (lone (Frame.enter Tryz.checked.prog 3 i.args .normal) [] (w.forCall tape i)) := by
  have hok : Input.okWideB Tryz.checked.prog ((World.laidAll Tryz.prog os Rows.planMakesUptoRow.laid).forCall (fun _ _ => 0) ⟨#[], #[.agg #[.slice none 0 0, .slice none 0 0, .slice none 0 0]], []⟩) 3 ⟨#[], #[.agg #[.slice none 0 0, .slice none 0 0, .slice none 0 0]], []⟩ = true := by kernel_rfl
  refine ⟨World.laidAll Tryz.prog os Rows.planMakesUptoRow.laid, fun _ _ => 0, ⟨#[], #[.agg #[.slice none 0 0, .slice none 0 0, .slice none 0 0]], []⟩, World.laidAll_os _ _ _, World.shaped_of_ZipB (by kernel_rfl) (by kernel_rfl), (Input.okWide_of_okWideB (base := 0) hok).1, (Input.okWide_of_okWideB hok).2, ?_, by
    simp only [Assume.holds]
    exact ⟨by simp, by simp, fun _ => Modest.zero, by simp, by simp⟩⟩
  exact OpenSpec.preRow_of_cond 8 (x := ([.agg [.nil, .nil, .nil]], [], [])) (by kernel_rfl) (by kernel_rfl) (fun k hk => by cases hk; rfl) (by kernel_rfl) (by rw [MakeChecks.laidMetH_plain _ _ _ (by kernel_rfl)]; exact laidMet_laidAll _ (by kernel_rfl) (by kernel_rfl))

set_option maxRecDepth 100000 in
theorem lifted (os : Os) (started : os.Started) (H : Type) (enc : TypeId × Value → H) (F : Stop.Interp) :
    ReturnsInHanded {} Tryz.checked os 3 .any ((Rows.OpenSpec.upto Rows.planMakesSpec).preRow enc Tryz.prog Tryz.f3 Rows.planMakesUptoRow.domain false Rows.planMakesUptoRow.laid) (((Rows.OpenSpec.upto Rows.planMakesSpec).at F).post enc Tryz.prog Tryz.f3 false true false false) := by
  refine returnsInHanded_of_row (C := Tryz.checked) (s := Rows.OpenSpec.upto Rows.planMakesSpec) own started (by kernel_rfl) Tryz.func3 (wit os H enc) ?_
  intro W base args ds gs before hval0 hW hcnd hk0 _ hlaid _ _
  have hk : Rows.uptoSmall H (ds ++ gs) = true := hk0 _ rfl
  show Calls Tryz.prog 3 args W fun e W' => ∃ v, e = .returned v ∧ Rows.planMakesSpec.post enc Tryz.prog Tryz.f3 false true false false W args v W'
  have hval : ∀ (j : Nat) t v, Tryz.f3.params[j]? = some t → args[j]? = some v → Value.okWide Tryz.prog W .any base t v := hval0
  have hW1 := hW
  obtain ⟨p, q, hA0, hV, rfl, hfz, hnd⟩ := hW
  have hA : DataW.TrodAll enc Tryz.prog W 0 (fun _ => true) true Tryz.f3.params.toList args.toList ds p := hA0
  rw [Tryz.params3] at hA hval
  have hL : Y9 W := fun _ _ _ h => by cases h
  obtain ⟨v0, d0, rfl, rfl, a0⟩ := trodAll_one hA
  obtain ⟨rfl, rfl⟩ := trodVars_none hV
  have hb0 : Rows.uptoBulk d0 ≤ 1048576 := by
    have h := hk
    simp only [Rows.uptoSmall, Qz6, Rows.uptoBulkAll, QAl] at h
    omega
  obtain ⟨k0, as0, has0, hr0⟩ := Dt (hL := hL) (M := 1048576) (ts := [26, 22, 42, 9, 37, 71, 3, 62, 4, 69, 63, 64, 65, 193, 66, 152, 67, 155, 40, 91, 38, 87, 39, 23, 50, 48, 57, 24, 111, 109, 169]) (by decide +kernel) (by decide) Tryz.underlying26 (hval 0 26 v0 rfl rfl) a0 (.inr (.inl ⟨by decide, hb0⟩))
  obtain ⟨x0, ok0, e0⟩ := BF (.inr (Qzc _)) has0
  rw [e0] at hr0
  clear hA0 hval0
  simp only [Qz6] at hW1
  refine (HS (stab := fun b o => sv W b o) (Va.c3 (Qzc _) x0 ok0) (fun _ _ _ h => Hf (hL _ _ _ h)) (fun _ _ _ h => He h) (.cons (hr0) (.nil))).mono fun e W1 he => ?_
  obtain ⟨rfl, hb⟩ := he
  exact ⟨_, rfl, Hc (pa := p) (pv := []) hW1 (fun _ _ _ => trodAll_mk1 (shut_bool Tryz.underlying4 _)) (fun sp hsp => trodAll_mk1 (F4 (by kernel_rfl) (by kernel_rfl) (by decide) a0 W1 sp hb (fun q hq => hsp q (by simp [hq])))) (fun _ _ => rfl) (by simp) hb
    (ok_one (by kernel_rfl) rfl (okWide_bool_mk Tryz.underlying4 _))⟩

theorem holds : Rows.PlanMakesUptoSaid :=
  OpenClaim.holds_of_cond 3 Tryz.f3 rfl rfl rfl rfl rfl rfl rfl ⟨rfl, rfl, rfl, rfl, rfl⟩ rfl rfl rfl rfl rfl (by kernel_rfl) Tryz.func3 jf
    (of_decide_eq_true (by kernel_rfl)) (by unfold Func.isWrapper; first | (rw [Qzk (by decide +kernel)]; kernel_rfl) | (rw [Qzj (by decide +kernel)]; exact ⟨rfl, rfl⟩))
    (fun os started H enc _ F => by rw [OpenClaim.pre_eq_preRow]; exact lifted os started H enc F)

theorem plain (f : FuncId) (fn : Func) (hf : Tryz.pinned.checked.prog.funcNamed "wireschema/wireschemalaw22.PlanMakes" = some f) (hfn : Tryz.pinned.checked.prog.funcs[f]? = some fn) :
    true = Tryz.pinned.checked.prog.looks [] ∧ ∀ (j : Nat) t, fn.params[j]? = some t → Tryz.pinned.checked.prog.wantsStandIn t = false := by
  obtain rfl : f = 3 := Option.some.inj ((show Tryz.prog.funcNamed "wireschema/wireschemalaw22.PlanMakes" = some 3 by kernel_rfl).symm.trans hf) |>.symm
  obtain rfl : fn = Tryz.f3 := (Option.some.inj (Tryz.func3.symm.trans hfn)).symm
  refine ⟨by kernel_rfl, fun j t ht => ?_⟩
  rw [Tryz.params3] at ht
  have hm : t ∈ [26] := by simpa using Array.mem_of_getElem? ht
  have hall : ([26].all fun u => !Tryz.prog.wantsStandIn u) = true := by kernel_rfl
  exact (show Tryz.prog.wantsStandIn t = false by simpa using Qzp.1 hall t hm)

theorem card : Rows.PlanMakesUptoCardSaid :=
  Claim7.holds_tied_plain_at .later [] _ _ _ _ holds (fun _ h => by cases h) (by kernel_rfl) (fun _ h => by cases h) planMakesUpto_row_tie rfl ⟨rfl, rfl⟩ (by kernel_rfl) rfl plain (by kernel_rfl)

end PPlanMakes
end Go.Proofs.YtaiflhahcglpgaaGreatDoor

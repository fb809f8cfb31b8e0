/- The law VerdictWords of layer 37: for any change, format and findings within the reach of the statement the function returns true, its arguments read afterwards as before. No condition beyond the statement; the proof walks through the code of the program as an abstract machine has it. -/
import Derived.Test.YtaobkcgjidhpkaaGreatDoorRows
import Derived.ProofKit
import Derived.JoinedCond
import Derived.Deep.DeepHandedRow
import Derived.Lay
import Derived.OpenShut
import Derived.SevenTiedAt
import Derived.Test.YtaobkcgjidhpkaaGreatDoorCards
import Derived.Test.YtaobkcgjidhpkaaGreatDoorTie
import Derived.ChangeMaps5
import Derived.Test.YtaobkcgjidhpkaaGreatDoorMVerdictWords3
set_option linter.unusedSimpArgs false
namespace Go.Proofs.YtaobkcgjidhpkaaGreatDoor
open Go.ChangeShapes Go.WideShapes Go.ChangeAt Go.RowKit Go.ChangeMaps Am Br

namespace PVerdictWords
theorem own : ownKnob Tryz.prog.godebug = none := by kernel_rfl

theorem wit (os : Os) (H : Type) (enc : TypeId × Value → H) : ∃ (w : World) (tape : Tape) (i : Input), w.os = os ∧ (w.forCall tape i).Shaped Tryz.checked.prog ∧ i.vars = [] ∧ Input.okWide Tryz.checked.prog (w.forCall tape i) .any w.heap.size 3 i ∧
      (Rows.OpenSpec.upto Rows.verdictWordsSpec).preRow enc Tryz.prog Tryz.f3 Rows.verdictWordsUptoRow.domain false Rows.verdictWordsUptoRow.laid (w.forCall tape i).memory i.args ∧ ({ modest := false } : Assume).holds Tryz.checked.prog (lone (Frame.enter Tryz.checked.prog 3 i.args .normal) [] (w.forCall tape i)) := by
  have hok : Input.okWideB Tryz.checked.prog ((World.laidAll Tryz.prog os Rows.verdictWordsUptoRow.laid).forCall (fun _ _ => 0) ⟨#[], #[.agg #[.int .i64 0, .string ⟨#[]⟩, .int .i64 0, .string ⟨#[]⟩, .string ⟨#[]⟩], .int .i64 0, .slice none 0 0], []⟩) 3 ⟨#[], #[.agg #[.int .i64 0, .string ⟨#[]⟩, .int .i64 0, .string ⟨#[]⟩, .string ⟨#[]⟩], .int .i64 0, .slice none 0 0], []⟩ = true := by kernel_rfl
  refine ⟨World.laidAll Tryz.prog os Rows.verdictWordsUptoRow.laid, fun _ _ => 0, ⟨#[], #[.agg #[.int .i64 0, .string ⟨#[]⟩, .int .i64 0, .string ⟨#[]⟩, .string ⟨#[]⟩], .int .i64 0, .slice none 0 0], []⟩, World.laidAll_os _ _ _, World.shaped_of_ZipB (by kernel_rfl) (by kernel_rfl), (Input.okWide_of_okWideB (base := 0) hok).1, (Input.okWide_of_okWideB hok).2, ?_, by
    simp only [Assume.holds]
    exact ⟨by simp, by simp, fun _ => Modest.zero, by simp, by simp⟩⟩
  exact OpenSpec.preRow_of_cond 8 (x := ([.agg [.lit (.int .i64 0), .lit (.string []), .lit (.int .i64 0), .lit (.string []), .lit (.string [])], .lit (.int .i64 0), .nil], [], [])) (by kernel_rfl) (by kernel_rfl) (fun k hk => by cases hk; rfl) (by kernel_rfl) (by rw [MakeChecks.laidMetH_plain _ _ _ (by kernel_rfl)]; exact laidMet_laidAll _ (by kernel_rfl) (by kernel_rfl))

set_option maxRecDepth 100000 in
theorem lifted (os : Os) (started : os.Started) (H : Type) (enc : TypeId × Value → H) (F : Stop.Interp) :
    ReturnsInHanded {} Tryz.checked os 3 .any ((Rows.OpenSpec.upto Rows.verdictWordsSpec).preRow enc Tryz.prog Tryz.f3 Rows.verdictWordsUptoRow.domain false Rows.verdictWordsUptoRow.laid) (((Rows.OpenSpec.upto Rows.verdictWordsSpec).at F).post enc Tryz.prog Tryz.f3 false true false false) := by
  refine returnsInHanded_of_row (C := Tryz.checked) (s := Rows.OpenSpec.upto Rows.verdictWordsSpec) own started (by kernel_rfl) Tryz.func3 (wit os H enc) ?_
  intro W base args ds gs before hval0 hW hcnd hk0 _ hlaid _ _
  have hk : Rows.uptoSmall H (ds ++ gs) = true := hk0 _ rfl
  show Calls Tryz.prog 3 args W fun e W' => ∃ v, e = .returned v ∧ Rows.verdictWordsSpec.post enc Tryz.prog Tryz.f3 false true false false W args v W'
  have hval : ∀ (j : Nat) t v, Tryz.f3.params[j]? = some t → args[j]? = some v → Value.okWide Tryz.prog W .any base t v := hval0
  have hW1 := hW
  obtain ⟨p, q, hA0, hV, rfl, hfz, hnd⟩ := hW
  have hA : DataW.TrodAll enc Tryz.prog W 0 (fun _ => true) true Tryz.f3.params.toList args.toList ds p := hA0
  rw [Tryz.params3] at hA hval
  have hL : Laid W := laid_of (by rw [MakeChecks.laidMetH_plain _ _ _ (by kernel_rfl)] at hlaid; exact hlaid) (by decide +kernel)
  obtain ⟨v0, v1, v2, d0, d1, d2, p0, p1, p2, rfl, rfl, rfl, a0, a1, a2⟩ := trodAll_three hA
  obtain ⟨rfl, rfl⟩ := trodVars_none hV
  have hb0 : Rows.uptoBulk d0 ≤ 1048576 := by
    have h := hk
    simp only [Rows.uptoSmall, List.append_nil, Rows.uptoBulkAll, decide_eq_true_eq] at h
    omega
  obtain ⟨k0, as0, has0, hr0⟩ := open_struct (hL := hL) (M := 1048576) (ts := [23, 3, 9]) (by decide +kernel) (by decide) Tryz.underlying23 (hval 0 23 v0 rfl rfl) a0 (.inr (.inl ⟨by decide, hb0⟩))
  obtain ⟨x0, ok0, e0⟩ := has_change has0
  rw [e0] at hr0
  obtain ⟨x1, rfl, rfl, rfl, w1⟩ := open_int Tryz.underlying3 (hval 1 3 v1 rfl rfl) a1
  have hb2 : Rows.uptoBulk d2 ≤ 1048576 := by
    have h := hk
    simp only [Rows.uptoSmall, List.append_nil, Rows.uptoBulkAll, decide_eq_true_eq] at h
    omega
  obtain ⟨k2, l2, has2, ll2, hr2⟩ := open_slc (hL := hL) (M := 1048576) (ts := [24, 29, 9, 3, 26, 27]) (by decide +kernel) (by decide) Tryz.underlying24 (hval 2 24 v2 rfl rfl) a2 (.inr (.inl ⟨by decide, hb2⟩))
  obtain ⟨xs2, e2, ok2⟩ := has_findings has2
  rw [e2] at hr2
  clear hA0 hval0
  simp only [List.append_nil] at hW1
  refine (calls_of_fn1 (stab := fun b o => sv W b o) (Va.c3 (by decide) x0 x1 xs2 ok2) (fun _ _ _ h => sv_rd (hL _ _ _ h)) (fun _ _ _ h => rd_sv h) (.cons (hr0) (.cons (.int _ _) (.cons (hr2) (.nil))))).mono fun e W1 he => ?_
  obtain ⟨rfl, hb⟩ := he
  exact ⟨_, rfl, post_of_below (pa := p0 ++ (p2)) (pv := []) hW1 (fun _ _ _ => trodAll_mk1 (shut_bool Tryz.underlying4 _)) (fun sp hsp => trodAll_mk3 (deep_stays (by kernel_rfl) (by kernel_rfl) (by decide) a0 W1 sp hb (fun q hq => hsp q (by simp [hq]))) (shut_int Tryz.underlying3 w1) (deep_stays (by kernel_rfl) (by kernel_rfl) (by decide) a2 W1 sp hb (fun q hq => hsp q (by simp [hq])))) (fun _ _ => rfl) (by simp) hb
    (ok_one (by kernel_rfl) rfl (okWide_bool_mk Tryz.underlying4 _))⟩

theorem holds : Rows.VerdictWordsUptoSaid :=
  OpenClaim.holds_of_cond 3 Tryz.f3 rfl rfl rfl rfl rfl rfl rfl ⟨rfl, rfl, rfl, rfl, rfl⟩ rfl rfl rfl rfl rfl (by kernel_rfl) Tryz.func3 (by kernel_rfl)
    (of_decide_eq_true (by kernel_rfl)) (by unfold Func.isWrapper; first | (rw [if_pos (by decide +kernel)]; kernel_rfl) | (rw [if_neg (by decide +kernel)]; exact ⟨rfl, rfl⟩))
    (fun os started H enc _ F => by rw [OpenClaim.pre_eq_preRow]; exact lifted os started H enc F)

theorem plain (f : FuncId) (fn : Func) (hf : Tryz.pinned.checked.prog.funcNamed "wireschema/wireschemalaw37.VerdictWords" = some f) (hfn : Tryz.pinned.checked.prog.funcs[f]? = some fn) :
    false = Tryz.pinned.checked.prog.looks [] ∧ ∀ (j : Nat) t, fn.params[j]? = some t → Tryz.pinned.checked.prog.wantsStandIn t = false := by
  obtain rfl : f = 3 := Option.some.inj ((show Tryz.prog.funcNamed "wireschema/wireschemalaw37.VerdictWords" = some 3 by kernel_rfl).symm.trans hf) |>.symm
  obtain rfl : fn = Tryz.f3 := (Option.some.inj (Tryz.func3.symm.trans hfn)).symm
  refine ⟨by kernel_rfl, fun j t ht => ?_⟩
  rw [Tryz.params3] at ht
  have hm : t ∈ [23, 3, 24] := by simpa using Array.mem_of_getElem? ht
  have hall : ([23, 3, 24].all fun u => !Tryz.prog.wantsStandIn u) = true := by kernel_rfl
  exact (show Tryz.prog.wantsStandIn t = false by simpa using List.all_eq_true.1 hall t hm)

theorem card : Rows.VerdictWordsUptoCardSaid :=
  Claim7.holds_tied_plain_at .later [] _ _ _ _ holds (fun _ h => by cases h) (by kernel_rfl) (fun _ h => by cases h) verdictWordsUpto_row_tie rfl ⟨rfl, rfl⟩ (by kernel_rfl) rfl plain (by kernel_rfl)

end PVerdictWords
end Go.Proofs.YtaobkcgjidhpkaaGreatDoor

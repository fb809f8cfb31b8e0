/- Wireschema law RowreadNeeds: whatever the input, the law returns true and its input reads as it did. -/
import Derived.Test.YtdgbidbkcigkhaaGreatDoorRows
import Derived.ProofKit
import Derived.Lay
import Derived.OpenShut
import Derived.SevenTiedAt
import Derived.Test.YtdgbidbkcigkhaaGreatDoorCards
import Derived.Test.YtdgbidbkcigkhaaGreatDoorTie
import Derived.ChangeMaps5
import Derived.Test.YtdgbidbkcigkhaaGreatDoorMRowreadNeeds4
import Derived.Test.YtdgbidbkcigkhaaGreatDoorFRowreadNeeds
set_option linter.unusedSimpArgs false
namespace Go.Proofs.YtdgbidbkcigkhaaGreatDoor
open Go.ChangeShapes Go.WideShapes Go.ChangeAt Go.RowKit Go.ChangeMaps Am Br

namespace PRowreadNeeds
theorem own : ownKnob Tryz.prog.godebug = none := by kernel_rfl

set_option maxRecDepth 100000 in
theorem lifted (os : Os) (started : os.Started) (H : Type) (enc : TypeId × Value → H) :
    ReturnsInHanded {} Tryz.checked os 3 .any (fun w args => (Rows.rowreadNeedsSpec.pre enc Tryz.prog Tryz.f3 [] false w args ∧ laidMetH Tryz.prog Rows.rowreadNeedsRow.laid w) ∧ sizedMet enc Tryz.prog Tryz.f3 (OpenSpec.ofChange Rows.rowreadNeedsSpec) false w args) (Rows.rowreadNeedsSpec.post enc Tryz.prog Tryz.f3 false true false false) := by
  refine returnsInHanded_of_change_and (C := Tryz.checked) (X := fun w _ => laidMetH Tryz.prog Rows.rowreadNeedsRow.laid w) (fun _ _ _ hh h => h.of_heap hh) own started (by kernel_rfl) Tryz.func3
    (ChangeSpec.witness_shaped (enc := enc) (C := Tryz.checked) (os := os) (X := fun w _ => laidMetH Tryz.prog Rows.rowreadNeedsRow.laid w) false (World.laidAll Tryz.prog os Rows.rowreadNeedsRow.laid) #[.agg #[.slice none 0 0, .slice none 0 0], .agg #[.slice none 0 0, .slice none 0 0], .string ⟨#[]⟩, .slice none 0 0] 8 (World.laidAll_os _ _ _)
      (World.shaped_of_ZipB (by kernel_rfl) (by kernel_rfl)) (by kernel_rfl) (by kernel_rfl) (by kernel_rfl)
      (by rw [MakeChecks.laidMetH_plain _ _ _ (by kernel_rfl)]; exact laidMet_laidAll _ (by kernel_rfl) (by kernel_rfl))) ?_
  intro W base args ds gs before hval0 hW hcnd hsz hlaid _
  have hval : ∀ (j : Nat) t v, Tryz.f3.params[j]? = some t → args[j]? = some v → Value.okWide Tryz.prog W .any base t v := hval0
  have hW1 := hW
  obtain ⟨p, q, hA0, hV, rfl, hfz, hnd⟩ := hW
  have hA : DataW.TrodAll enc Tryz.prog W 0 (fun _ => true) true Tryz.f3.params.toList args.toList ds p := hA0
  rw [Tryz.params3] at hA hval hsz
  have hL : Laid W := laid_of (by rw [MakeChecks.laidMetH_plain _ _ _ (by kernel_rfl)] at hlaid; exact hlaid) (by decide +kernel)
  obtain ⟨v0, v1, v2, v3, d0, d1, d2, d3, p0, p1, p2, p3, rfl, rfl, rfl, a0, a1, a2, a3⟩ := trodAll_four hA
  obtain ⟨rfl, rfl⟩ := trodVars_none hV
  obtain ⟨k0, as0, has0, hr0⟩ := open_struct (hL := hL) (M := reachBytes) (ts := [25, 22, 39, 9, 37, 41, 3, 23, 80, 4, 76, 83, 78, 88, 58, 52, 53, 54, 180, 55, 65, 56, 158, 77, 86]) (by decide +kernel) (by decide) Tryz.underlying25 (hval 0 25 v0 rfl rfl) a0 (.inr (.inr (weights_at 0 hsz rfl rfl)))
  obtain ⟨x0, ok0, e0⟩ := has_plan has0
  rw [e0] at hr0
  obtain ⟨k1, as1, has1, hr1⟩ := open_struct (hL := hL) (M := reachBytes) (ts := [25, 22, 39, 9, 37, 41, 3, 23, 80, 4, 76, 83, 78, 88, 58, 52, 53, 54, 180, 55, 65, 56, 158, 77, 86]) (by decide +kernel) (by decide) Tryz.underlying25 (hval 1 25 v1 rfl rfl) a1 (.inr (.inr (weights_at 1 hsz rfl rfl)))
  obtain ⟨x1, ok1, e1⟩ := has_plan has1
  rw [e1] at hr1
  obtain ⟨x2, rfl, rfl, rfl, w2⟩ := open_string Tryz.underlying9 (hval 2 9 v2 rfl rfl) a2
  obtain ⟨k3, l3, has3, ll3, hr3⟩ := open_slc (hL := hL) (M := reachBytes) (ts := [26, 47, 3, 45, 49, 28]) (by decide +kernel) (by decide) Tryz.underlying26 (hval 3 26 v3 rfl rfl) a3 (.inr (.inr (weights_at 3 hsz rfl rfl)))
  obtain ⟨xs3, e3, ok3⟩ := Va.has_adapts rfl has3
  rw [e3] at hr3
  clear hA0 hval0
  simp only [List.append_nil] at hW1
  refine (calls_of_fn1 (stab := fun b o => sv W b o) (Va.c3 rfl x0 ok0 x1 ok1 x2.data.toList xs3 ok3) (fun _ _ _ h => sv_rd (hL _ _ _ h)) (fun _ _ _ h => rd_sv h) (.cons (hr0) (.cons (hr1) (.cons (rep_str _) (.cons (hr3) (.nil)))))).mono fun e W1 he => ?_
  obtain ⟨rfl, hb⟩ := he
  exact ⟨_, rfl, post_of_below (pa := p0 ++ (p1 ++ (p3))) (pv := []) hW1 (fun _ _ _ => trodAll_mk1 (shut_bool Tryz.underlying4 _)) (fun sp hsp => trodAll_mk4 (deep_stays (by kernel_rfl) (by kernel_rfl) (by decide) a0 W1 sp hb (fun q hq => hsp q (by simp [hq]))) (deep_stays (by kernel_rfl) (by kernel_rfl) (by decide) a1 W1 sp hb (fun q hq => hsp q (by simp [hq]))) (shut_string Tryz.underlying9 w2) (deep_stays (by kernel_rfl) (by kernel_rfl) (by decide) a3 W1 sp hb (fun q hq => hsp q (by simp [hq])))) (fun _ _ => rfl) (by simp) hb
    (ok_one (by kernel_rfl) rfl (okWide_bool_mk Tryz.underlying4 _))⟩

theorem holds : Rows.RowreadNeedsSaid :=
  OpenClaim.holds_of_wide 3 Tryz.f3 rfl rfl rfl rfl rfl rfl rfl ⟨rfl, rfl, rfl, rfl, rfl⟩ rfl rfl rfl rfl rfl (by kernel_rfl) Tryz.func3 jf
    (of_decide_eq_true (by kernel_rfl)) (by unfold Func.isWrapper; first | (rw [if_pos (by decide +kernel)]; kernel_rfl) | (rw [if_neg (by decide +kernel)]; exact ⟨rfl, rfl⟩))
    (fun os started H enc _ => lifted os started H enc)

theorem plain (f : FuncId) (fn : Func) (hf : Tryz.pinned.checked.prog.funcNamed "wireschema/wireschemalaw32.RowreadNeeds" = some f) (hfn : Tryz.pinned.checked.prog.funcs[f]? = some fn) :
    true = Tryz.pinned.checked.prog.looks [] ∧ ∀ (j : Nat) t, fn.params[j]? = some t → Tryz.pinned.checked.prog.wantsStandIn t = false := by
  obtain rfl : f = 3 := Option.some.inj ((show Tryz.prog.funcNamed "wireschema/wireschemalaw32.RowreadNeeds" = some 3 by kernel_rfl).symm.trans hf) |>.symm
  obtain rfl : fn = Tryz.f3 := (Option.some.inj (Tryz.func3.symm.trans hfn)).symm
  refine ⟨by kernel_rfl, fun j t ht => ?_⟩
  rw [Tryz.params3] at ht
  have hm : t ∈ [25, 25, 9, 26] := by simpa using Array.mem_of_getElem? ht
  have hall : ([25, 25, 9, 26].all fun u => !Tryz.prog.wantsStandIn u) = true := by kernel_rfl
  exact (show Tryz.prog.wantsStandIn t = false by simpa using List.all_eq_true.1 hall t hm)

theorem card : Rows.RowreadNeedsCardSaid :=
  Claim7.holds_tied_plain_at .later [] _ _ _ _ holds (fun _ h => by cases h) (by kernel_rfl) (fun _ h => by cases h) rowreadNeeds_row_tie rfl ⟨rfl, rfl⟩ (by kernel_rfl) rfl plain (by kernel_rfl)

end PRowreadNeeds
end Go.Proofs.YtdgbidbkcigkhaaGreatDoor

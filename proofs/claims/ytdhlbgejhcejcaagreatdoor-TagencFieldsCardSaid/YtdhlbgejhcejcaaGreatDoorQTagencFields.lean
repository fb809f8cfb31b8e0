/- The law TagencFields of layer 24: for any plan, program and value the function returns true, its arguments read afterwards as before. No condition beyond the statement; the proof walks through the program's code as an abstract machine has it. -/
import Derived.Test.YtdhlbgejhcejcaaGreatDoorRows
import Derived.ProofKit
import Derived.Lay
import Derived.OpenShut
import Derived.SevenTiedAt
import Derived.Test.YtdhlbgejhcejcaaGreatDoorCards
import Derived.Test.YtdhlbgejhcejcaaGreatDoorTie
import Derived.ChangeMaps5
import Derived.Test.YtdhlbgejhcejcaaGreatDoorMTagencFields5
import Derived.Test.YtdhlbgejhcejcaaGreatDoorFTagencFields
set_option linter.unusedSimpArgs false
namespace Go.Proofs.YtdhlbgejhcejcaaGreatDoor
open Go.ChangeShapes Go.WideShapes Go.ChangeAt Go.RowKit Go.ChangeMaps Am Br

namespace PTagencFields
theorem own : ownKnob Tryz.prog.godebug = none := by kernel_rfl

set_option maxRecDepth 100000 in
theorem lifted (os : Os) (started : os.Started) (H : Type) (enc : TypeId × Value → H) :
    ReturnsInHanded {} Tryz.checked os 4 .any (fun w args => (Rows.tagencFieldsSpec.pre enc Tryz.prog Tryz.f4 [] false w args ∧ laidMetH Tryz.prog Rows.tagencFieldsRow.laid w) ∧ sizedMet enc Tryz.prog Tryz.f4 (OpenSpec.ofChange Rows.tagencFieldsSpec) false w args) (Rows.tagencFieldsSpec.post enc Tryz.prog Tryz.f4 false true false false) := by
  refine returnsInHanded_of_change_and (C := Tryz.checked) (X := fun w _ => laidMetH Tryz.prog Rows.tagencFieldsRow.laid w) (fun _ _ _ hh h => h.of_heap hh) own started (by kernel_rfl) Tryz.func4
    (ChangeSpec.witness_shaped (enc := enc) (C := Tryz.checked) (os := os) (X := fun w _ => laidMetH Tryz.prog Rows.tagencFieldsRow.laid w) false (World.laidAll Tryz.prog os Rows.tagencFieldsRow.laid) #[.agg #[.slice none 0 0, .slice none 0 0], .int .i64 0, .agg #[.int .i64 0, .int .u64 0, .string ⟨#[]⟩, .slice none 0 0, .slice none 0 0, .slice none 0 0, .slice none 0 0]] 8 (World.laidAll_os _ _ _)
      (World.shaped_of_ZipB (by kernel_rfl) (by kernel_rfl)) (by kernel_rfl) (by kernel_rfl) (by kernel_rfl)
      (by rw [MakeChecks.laidMetH_plain _ _ _ (by kernel_rfl)]; exact laidMet_laidAll _ (by kernel_rfl) (by kernel_rfl))) ?_
  intro W base args ds gs before hval0 hW hcnd hsz _ _
  have hval : ∀ (j : Nat) t v, Tryz.f4.params[j]? = some t → args[j]? = some v → Value.okWide Tryz.prog W .any base t v := hval0
  have hW1 := hW
  obtain ⟨p, q, hA0, hV, rfl, hfz, hnd⟩ := hW
  have hA : DataW.TrodAll enc Tryz.prog W 0 (fun _ => true) true Tryz.f4.params.toList args.toList ds p := hA0
  rw [Tryz.params4] at hA hval hsz
  obtain ⟨v0, v1, v2, d0, d1, d2, p0, p1, p2, rfl, rfl, rfl, a0, a1, a2⟩ := trodAll_three hA
  obtain ⟨rfl, rfl⟩ := trodVars_none hV
  obtain ⟨k0, as0, has0, hr0⟩ := Hf (M := reachBytes) (ts := [25, 22, 41, 9, 39, 67, 3, 23, 90, 4, 86, 92, 88, 94, 32, 26, 27, 28, 77, 29, 55, 30, 53, 87, 119]) (by decide +kernel) (by decide) Tryz.underlying25 (hval 0 25 v0 rfl rfl) a0 (.inr (.inr (K5 0 hsz rfl rfl)))
  obtain ⟨x0, ok0, e0⟩ := RY has0
  rw [e0] at hr0
  obtain ⟨x1, rfl, rfl, rfl, w1⟩ := open_int Tryz.underlying3 (hval 1 3 v1 rfl rfl) a1
  obtain ⟨k2, as2, has2, hr2⟩ := Hf (M := reachBytes) (ts := [32, 3, 26, 9, 27, 28, 77, 29, 55, 30, 53]) (by decide +kernel) (by decide) Tryz.underlying32 (hval 2 32 v2 rfl rfl) a2 (.inr (.inr (K5 2 hsz rfl rfl)))
  obtain ⟨x2, vk2, e2⟩ := QHP (.inl rfl) has2
  rw [e2] at hr2
  clear hA0 hval0
  simp only [QXj] at hW1
  refine (F5 (stab := fun b o => sv W b o) (Va.c4 x0 ok0 (by decide) x1 x2 vk2) (fun _ _ _ h => Fw h) (.cons (hr0) (.cons (.int _ _) (.cons (hr2) (.nil))))).mono fun e W1 he => ?_
  obtain ⟨rfl, hb⟩ := he
  exact ⟨_, rfl, Fv (pa := p0 ++ p2) (pv := []) hW1 (fun _ _ _ => trodAll_mk1 (shut_bool Tryz.underlying4 _)) (fun sp hsp => trodAll_mk3 (Gw (by kernel_rfl) (by kernel_rfl) (by decide) a0 W1 sp hb (fun q hq => hsp q (by simp [hq]))) (shut_int Tryz.underlying3 w1) (Gw (by kernel_rfl) (by kernel_rfl) (by decide) a2 W1 sp hb (fun q hq => hsp q (by simp [hq])))) (fun _ _ => rfl) (by simp) hb
    (ok_one (by kernel_rfl) rfl (okWide_bool_mk Tryz.underlying4 _))⟩

theorem holds : Rows.TagencFieldsSaid :=
  OpenClaim.holds_of_wide 4 Tryz.f4 rfl rfl rfl rfl rfl rfl rfl ⟨rfl, rfl, rfl, rfl, rfl⟩ rfl rfl rfl rfl rfl (by kernel_rfl) Tryz.func4 jf
    (of_decide_eq_true (by kernel_rfl)) (by unfold Func.isWrapper; first | (rw [QWJ (by decide +kernel)]; kernel_rfl) | (rw [QWu (by decide +kernel)]; exact ⟨rfl, rfl⟩))
    (fun os started H enc _ => lifted os started H enc)

theorem plain (f : FuncId) (fn : Func) (hf : Tryz.pinned.checked.prog.funcNamed "wireschema/wireschemalaw24.TagencFields" = some f) (hfn : Tryz.pinned.checked.prog.funcs[f]? = some fn) :
    true = Tryz.pinned.checked.prog.looks [] ∧ ∀ (j : Nat) t, fn.params[j]? = some t → Tryz.pinned.checked.prog.wantsStandIn t = false := by
  obtain rfl : f = 4 := Option.some.inj ((show Tryz.prog.funcNamed "wireschema/wireschemalaw24.TagencFields" = some 4 by kernel_rfl).symm.trans hf) |>.symm
  obtain rfl : fn = Tryz.f4 := (Option.some.inj (Tryz.func4.symm.trans hfn)).symm
  refine ⟨by kernel_rfl, fun j t ht => ?_⟩
  rw [Tryz.params4] at ht
  have hm : t ∈ [25, 3, 32] := by simpa using Array.mem_of_getElem? ht
  have hall : ([25, 3, 32].all fun u => !Tryz.prog.wantsStandIn u) = true := by kernel_rfl
  exact (show Tryz.prog.wantsStandIn t = false by simpa using QWs.1 hall t hm)

theorem card : Rows.TagencFieldsCardSaid :=
  Claim7.holds_tied_plain_at .later [] _ _ _ _ holds (fun _ h => by cases h) (by kernel_rfl) (fun _ h => by cases h) tagencFields_row_tie rfl ⟨rfl, rfl⟩ (by kernel_rfl) rfl plain (by kernel_rfl)

end PTagencFields
end Go.Proofs.YtdhlbgejhcejcaaGreatDoor

/- The law TagencCanonical of layer 24: for any plan, program and two values the function returns true, its arguments read afterwards as before. No condition beyond the statement; the proof walks through the program's code as an abstract machine has it. -/
import Derived.Test.YtdhlbgejhcejcaaGreatDoorRows
import Derived.ProofKit
import Derived.Lay
import Derived.OpenShut
import Derived.SevenTiedAt
import Derived.Test.YtdhlbgejhcejcaaGreatDoorCards
import Derived.Test.YtdhlbgejhcejcaaGreatDoorTie
import Derived.ChangeMaps5
import Derived.Test.YtdhlbgejhcejcaaGreatDoorMTagencCanonical5
import Derived.Test.YtdhlbgejhcejcaaGreatDoorFTagencCanonical
set_option linter.unusedSimpArgs false
namespace Go.Proofs.YtdhlbgejhcejcaaGreatDoor
open Go.ChangeShapes Go.WideShapes Go.ChangeAt Go.RowKit Go.ChangeMaps Am Br

namespace PTagencCanonical
theorem own : ownKnob Tryz.prog.godebug = none := by kernel_rfl

set_option maxRecDepth 100000 in
theorem lifted (os : Os) (started : os.Started) (H : Type) (enc : TypeId × Value → H) :
    ReturnsInHanded {} Tryz.checked os 3 .any (fun w args => (Rows.tagencCanonicalSpec.pre enc Tryz.prog Tryz.f3 [] false w args ∧ laidMetH Tryz.prog Rows.tagencCanonicalRow.laid w) ∧ sizedMet enc Tryz.prog Tryz.f3 (OpenSpec.ofChange Rows.tagencCanonicalSpec) false w args) (Rows.tagencCanonicalSpec.post enc Tryz.prog Tryz.f3 false true false false) := by
  refine returnsInHanded_of_change_and (C := Tryz.checked) (X := fun w _ => laidMetH Tryz.prog Rows.tagencCanonicalRow.laid w) (fun _ _ _ hh h => h.of_heap hh) own started (by kernel_rfl) Tryz.func3
    (ChangeSpec.witness_shaped (enc := enc) (C := Tryz.checked) (os := os) (X := fun w _ => laidMetH Tryz.prog Rows.tagencCanonicalRow.laid w) false (World.laidAll Tryz.prog os Rows.tagencCanonicalRow.laid) #[.agg #[.slice none 0 0, .slice none 0 0], .int .i64 0, .agg #[.int .i64 0, .int .u64 0, .string ⟨#[]⟩, .slice none 0 0, .slice none 0 0, .slice none 0 0, .slice none 0 0], .agg #[.int .i64 0, .int .u64 0, .string ⟨#[]⟩, .slice none 0 0, .slice none 0 0, .slice none 0 0, .slice none 0 0]] 8 (World.laidAll_os _ _ _)
      (World.shaped_of_ZipB (by kernel_rfl) (by kernel_rfl)) (by kernel_rfl) (by kernel_rfl) (by kernel_rfl)
      (by rw [MakeChecks.laidMetH_plain _ _ _ (by kernel_rfl)]; exact laidMet_laidAll _ (by kernel_rfl) (by kernel_rfl))) ?_
  intro W base args ds gs before hval0 hW hcnd hsz _ _
  have hval : ∀ (j : Nat) t v, Tryz.f3.params[j]? = some t → args[j]? = some v → Value.okWide Tryz.prog W .any base t v := hval0
  have hW1 := hW
  obtain ⟨p, q, hA0, hV, rfl, hfz, hnd⟩ := hW
  have hA : DataW.TrodAll enc Tryz.prog W 0 (fun _ => true) true Tryz.f3.params.toList args.toList ds p := hA0
  rw [Tryz.params3] at hA hval hsz
  obtain ⟨v0, v1, v2, v3, d0, d1, d2, d3, p0, p1, p2, p3, rfl, rfl, rfl, a0, a1, a2, a3⟩ := trodAll_four hA
  obtain ⟨rfl, rfl⟩ := trodVars_none hV
  obtain ⟨k0, as0, has0, hr0⟩ := Yl (M := reachBytes) (ts := [25, 22, 41, 9, 39, 67, 3, 23, 90, 4, 86, 92, 88, 94, 32, 26, 27, 28, 77, 29, 55, 30, 53, 87, 119]) (by decide +kernel) (by decide) Tryz.underlying25 (hval 0 25 v0 rfl rfl) a0 (.inr (.inr (Ke 0 hsz rfl rfl)))
  obtain ⟨x0, ok0, e0⟩ := R1 has0
  rw [e0] at hr0
  obtain ⟨x1, rfl, rfl, rfl, w1⟩ := open_int Tryz.underlying3 (hval 1 3 v1 rfl rfl) a1
  obtain ⟨k2, as2, has2, hr2⟩ := Yl (M := reachBytes) (ts := [32, 3, 26, 9, 27, 28, 77, 29, 55, 30, 53]) (by decide +kernel) (by decide) Tryz.underlying32 (hval 2 32 v2 rfl rfl) a2 (.inr (.inr (Ke 2 hsz rfl rfl)))
  obtain ⟨x2, vk2, e2⟩ := TV (.inl rfl) has2
  rw [e2] at hr2
  obtain ⟨k3, as3, has3, hr3⟩ := Yl (M := reachBytes) (ts := [32, 3, 26, 9, 27, 28, 77, 29, 55, 30, 53]) (by decide +kernel) (by decide) Tryz.underlying32 (hval 3 32 v3 rfl rfl) a3 (.inr (.inr (Ke 3 hsz rfl rfl)))
  obtain ⟨x3, vk3, e3⟩ := TV (.inl rfl) has3
  rw [e3] at hr3
  clear hA0 hval0
  simp only [QVp] at hW1
  refine (Bb (stab := fun b o => sv W b o) (Va.c3 x0 ok0 (by decide) x1 x2 x3 vk2 vk3) (fun _ _ _ h => FE h) (.cons (hr0) (.cons (.int _ _) (.cons (hr2) (.cons (hr3) (.nil)))))).mono fun e W1 he => ?_
  obtain ⟨rfl, hb⟩ := he
  exact ⟨_, rfl, FD (pa := p0 ++ (p2 ++ (p3))) (pv := []) hW1 (fun _ _ _ => trodAll_mk1 (shut_bool Tryz.underlying4 _)) (fun sp hsp => trodAll_mk4 (YQ (by kernel_rfl) (by kernel_rfl) (by decide) a0 W1 sp hb (fun q hq => hsp q (by simp [hq]))) (shut_int Tryz.underlying3 w1) (YQ (by kernel_rfl) (by kernel_rfl) (by decide) a2 W1 sp hb (fun q hq => hsp q (by simp [hq]))) (YQ (by kernel_rfl) (by kernel_rfl) (by decide) a3 W1 sp hb (fun q hq => hsp q (by simp [hq])))) (fun _ _ => rfl) (by simp) hb
    (ok_one (by kernel_rfl) rfl (okWide_bool_mk Tryz.underlying4 _))⟩

theorem holds : Rows.TagencCanonicalSaid :=
  OpenClaim.holds_of_wide 3 Tryz.f3 rfl rfl rfl rfl rfl rfl rfl ⟨rfl, rfl, rfl, rfl, rfl⟩ rfl rfl rfl rfl rfl (by kernel_rfl) Tryz.func3 jf
    (of_decide_eq_true (by kernel_rfl)) (by unfold Func.isWrapper; first | (rw [QUQ (by decide +kernel)]; kernel_rfl) | (rw [QUB (by decide +kernel)]; exact ⟨rfl, rfl⟩))
    (fun os started H enc _ => lifted os started H enc)

theorem plain (f : FuncId) (fn : Func) (hf : Tryz.pinned.checked.prog.funcNamed "wireschema/wireschemalaw24.TagencCanonical" = some f) (hfn : Tryz.pinned.checked.prog.funcs[f]? = some fn) :
    true = Tryz.pinned.checked.prog.looks [] ∧ ∀ (j : Nat) t, fn.params[j]? = some t → Tryz.pinned.checked.prog.wantsStandIn t = false := by
  obtain rfl : f = 3 := Option.some.inj ((show Tryz.prog.funcNamed "wireschema/wireschemalaw24.TagencCanonical" = some 3 by kernel_rfl).symm.trans hf) |>.symm
  obtain rfl : fn = Tryz.f3 := (Option.some.inj (Tryz.func3.symm.trans hfn)).symm
  refine ⟨by kernel_rfl, fun j t ht => ?_⟩
  rw [Tryz.params3] at ht
  have hm : t ∈ [25, 3, 32, 32] := by simpa using Array.mem_of_getElem? ht
  have hall : ([25, 3, 32, 32].all fun u => !Tryz.prog.wantsStandIn u) = true := by kernel_rfl
  exact (show Tryz.prog.wantsStandIn t = false by simpa using QUz.1 hall t hm)

theorem card : Rows.TagencCanonicalCardSaid :=
  Claim7.holds_tied_plain_at .later [] _ _ _ _ holds (fun _ h => by cases h) (by kernel_rfl) (fun _ h => by cases h) tagencCanonical_row_tie rfl ⟨rfl, rfl⟩ (by kernel_rfl) rfl plain (by kernel_rfl)

end PTagencCanonical
end Go.Proofs.YtdhlbgejhcejcaaGreatDoor

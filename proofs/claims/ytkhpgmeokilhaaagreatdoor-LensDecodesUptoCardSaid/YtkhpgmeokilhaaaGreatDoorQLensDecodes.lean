/- The law LensDecodes of layer 30: for any two plans, any name and any value within the reach of the statement the function returns true, its arguments read afterwards as before. No condition beyond the statement. -/
import Derived.Test.YtkhpgmeokilhaaaGreatDoorRows
import Derived.ProofKit
import Derived.JoinedCond
import Derived.Deep.DeepHandedRow
import Derived.Lay
import Derived.OpenShut
import Derived.SevenTiedAt
import Derived.Test.YtkhpgmeokilhaaaGreatDoorCards
import Derived.Test.YtkhpgmeokilhaaaGreatDoorTie
import Derived.ChangeMaps5
import Derived.Test.YtkhpgmeokilhaaaGreatDoorMLensDecodes5
import Derived.Test.YtkhpgmeokilhaaaGreatDoorFLensDecodes
set_option linter.unusedSimpArgs false
namespace Go.Proofs.YtkhpgmeokilhaaaGreatDoor
open Go.ChangeShapes Go.WideShapes Go.ChangeAt Go.RowKit Go.ChangeMaps Am Br

namespace Va
open Go Rc Bt Up
theorem raws_wt : ∀ r : List R, r.length ≤ Kd (r.map R.av)
  | [] => Nat.le_refl _
  | x :: r => by
    have := raws_wt r
    simp only [List.map_cons, List.length_cons, Kd, wt, R.av]
    omega
mutual
theorem cnt_wt : ∀ v : V, v.cnt ≤ Kd v.cells
  | .mk k b t l p s r => by
    have h1 := cntL_wt l
    have h2 := cntP_wt p
    have h3 := cntS_wt s
    have h4 := raws_wt r
    rw [V.cells, V.cnt]
    simp only [Kd, wt]
    omega
theorem cntL_wt : ∀ l : List V, Q9 l ≤ Kd (V.cl l)
  | [] => Nat.le_refl _
  | x :: l => by
    have h1 := cnt_wt x
    have h2 := cntL_wt l
    rw [V.cl, Q9]
    simp only [Kd, wt]
    omega
theorem cntP_wt : ∀ l : List (V × V), Xi l ≤ Kd (V.cp l)
  | [] => Nat.le_refl _
  | (a, b) :: l => by
    have h1 := cnt_wt a
    have h2 := cnt_wt b
    have h3 := cntP_wt l
    rw [V.cp, Xi]
    simp only [Kd, wt, MS]
    omega
theorem cntS_wt : ∀ l : List (Int × V), Xg l ≤ Kd (V.cs l)
  | [] => Nat.le_refl _
  | (n, a) :: l => by
    have h1 := cnt_wt a
    have h3 := cntS_wt l
    rw [V.cs, Xg]
    simp only [Kd, wt]
    omega
end
end Va

namespace PLensDecodes
theorem own : ownKnob Tryz.prog.godebug = none := by kernel_rfl

theorem wit (os : Os) (H : Type) (enc : TypeId × Value → H) : ∃ (w : World) (tape : Tape) (i : Input), w.os = os ∧ (w.forCall tape i).Shaped Tryz.checked.prog ∧ i.vars = [] ∧ Input.okWide Tryz.checked.prog (w.forCall tape i) .any w.heap.size 3 i ∧
      (Rows.OpenSpec.upto Rows.lensDecodesSpec).preRow enc Tryz.prog Tryz.f3 Rows.lensDecodesUptoRow.domain false Rows.lensDecodesUptoRow.laid (w.forCall tape i).memory i.args ∧ ({ modest := false } : Assume).holds Tryz.checked.prog (lone (Frame.enter Tryz.checked.prog 3 i.args .normal) [] (w.forCall tape i)) := by
  have hok : Input.okWideB Tryz.checked.prog ((World.laidAll Tryz.prog os Rows.lensDecodesUptoRow.laid).forCall (fun _ _ => 0) ⟨#[], #[.agg #[.slice none 0 0, .slice none 0 0], .agg #[.slice none 0 0, .slice none 0 0], .string ⟨#[]⟩, .agg #[.int .i64 0, .int .u64 0, .string ⟨#[]⟩, .slice none 0 0, .slice none 0 0, .slice none 0 0, .slice none 0 0]], []⟩) 3 ⟨#[], #[.agg #[.slice none 0 0, .slice none 0 0], .agg #[.slice none 0 0, .slice none 0 0], .string ⟨#[]⟩, .agg #[.int .i64 0, .int .u64 0, .string ⟨#[]⟩, .slice none 0 0, .slice none 0 0, .slice none 0 0, .slice none 0 0]], []⟩ = true := by kernel_rfl
  refine ⟨World.laidAll Tryz.prog os Rows.lensDecodesUptoRow.laid, fun _ _ => 0, ⟨#[], #[.agg #[.slice none 0 0, .slice none 0 0], .agg #[.slice none 0 0, .slice none 0 0], .string ⟨#[]⟩, .agg #[.int .i64 0, .int .u64 0, .string ⟨#[]⟩, .slice none 0 0, .slice none 0 0, .slice none 0 0, .slice none 0 0]], []⟩, World.laidAll_os _ _ _, World.shaped_of_ZipB (by kernel_rfl) (by kernel_rfl), (Input.okWide_of_okWideB (base := 0) hok).1, (Input.okWide_of_okWideB hok).2, ?_, by
    simp only [Assume.holds]
    exact ⟨by simp, by simp, fun _ => Modest.zero, by simp, by simp⟩⟩
  exact OpenSpec.preRow_of_cond 8 (x := ([.agg [.nil, .nil], .agg [.nil, .nil], .lit (.string []), .agg [.lit (.int .i64 0), .lit (.int .u64 0), .lit (.string []), .nil, .nil, .nil, .nil]], [], [])) (by kernel_rfl) (by kernel_rfl) (fun k hk => by cases hk; rfl) (by kernel_rfl) (by rw [MakeChecks.laidMetH_plain _ _ _ (by kernel_rfl)]; exact laidMet_laidAll _ (by kernel_rfl) (by kernel_rfl))

set_option maxRecDepth 100000 in
theorem lifted (os : Os) (started : os.Started) (H : Type) (enc : TypeId × Value → H) (F : Stop.Interp) :
    ReturnsInHanded {} Tryz.checked os 3 .any ((Rows.OpenSpec.upto Rows.lensDecodesSpec).preRow enc Tryz.prog Tryz.f3 Rows.lensDecodesUptoRow.domain false Rows.lensDecodesUptoRow.laid) (((Rows.OpenSpec.upto Rows.lensDecodesSpec).at F).post enc Tryz.prog Tryz.f3 false true false false) := by
  refine returnsInHanded_of_row (C := Tryz.checked) (s := Rows.OpenSpec.upto Rows.lensDecodesSpec) own started (by kernel_rfl) Tryz.func3 (wit os H enc) ?_
  intro W base args ds gs before hval0 hW hcnd hk0 _ hlaid _ _
  have hk : Rows.uptoSmall H (ds ++ gs) = true := hk0 _ rfl
  show Calls Tryz.prog 3 args W fun e W' => ∃ v, e = .returned v ∧ Rows.lensDecodesSpec.post enc Tryz.prog Tryz.f3 false true false false W args v W'
  have hval : ∀ (j : Nat) t v, Tryz.f3.params[j]? = some t → args[j]? = some v → Value.okWide Tryz.prog W .any base t v := hval0
  have hW1 := hW
  obtain ⟨p, q, hA0, hV, rfl, hfz, hnd⟩ := hW
  have hA : DataW.TrodAll enc Tryz.prog W 0 (fun _ => true) true Tryz.f3.params.toList args.toList ds p := hA0
  rw [Tryz.params3] at hA hval
  have hL : HC W := L1 (by rw [MakeChecks.laidMetH_plain _ _ _ (by kernel_rfl)] at hlaid; exact hlaid) (by decide +kernel)
  obtain ⟨v0, v1, v2, v3, d0, d1, d2, d3, p0, p1, p2, p3, rfl, rfl, rfl, a0, a1, a2, a3⟩ := trodAll_four hA
  obtain ⟨rfl, rfl⟩ := trodVars_none hV
  have hb0 : Rows.uptoBulk d0 ≤ 1048576 := by
    have h := hk
    simp only [Rows.uptoSmall, Qnz, Rows.uptoBulkAll, Qmz] at h
    omega
  obtain ⟨k0, as0, has0, hr0⟩ := Df (hL := hL) (M := 1048576) (ts := [25, 22, 61, 9, 59, 74, 3, 23, 115, 4, 111, 118, 113, 123, 32, 26, 27, 28, 70, 29, 52, 30, 72, 112, 121]) (by decide +kernel) (by decide) Tryz.underlying25 (hval 0 25 v0 rfl rfl) a0 (.inr (.inl ⟨by decide, hb0⟩))
  obtain ⟨x0, ok0, e0⟩ := VW has0
  rw [e0] at hr0
  have hb1 : Rows.uptoBulk d1 ≤ 1048576 := by
    have h := hk
    simp only [Rows.uptoSmall, Qnz, Rows.uptoBulkAll, Qmz] at h
    omega
  obtain ⟨k1, as1, has1, hr1⟩ := Df (hL := hL) (M := 1048576) (ts := [25, 22, 61, 9, 59, 74, 3, 23, 115, 4, 111, 118, 113, 123, 32, 26, 27, 28, 70, 29, 52, 30, 72, 112, 121]) (by decide +kernel) (by decide) Tryz.underlying25 (hval 1 25 v1 rfl rfl) a1 (.inr (.inl ⟨by decide, hb1⟩))
  obtain ⟨x1, ok1, e1⟩ := VW has1
  rw [e1] at hr1
  obtain ⟨x2, rfl, rfl, rfl, w2⟩ := open_string Tryz.underlying9 (hval 2 9 v2 rfl rfl) a2
  have hb3 : Rows.uptoBulk d3 ≤ 1048576 := by
    have h := hk
    simp only [Rows.uptoSmall, Qnz, Rows.uptoBulkAll, Qmz] at h
    omega
  obtain ⟨k3, as3, has3, hr3, cw3⟩ := NV (hL := hL) (M := 1048576) (ts := [32, 3, 26, 9, 27, 28, 70, 29, 52, 30, 72]) (by decide +kernel) (by decide) Tryz.underlying32 (hval 3 32 v3 rfl rfl) a3 (.inr (.inl ⟨by decide, hb3⟩))
  obtain ⟨x3, vk3, e3⟩ := Qga (.inr (by decide)) has3
  rw [e3] at hr3 cw3
  clear hA0 hval0
  simp only [Qnz] at hW1
  refine (Vy (stab := fun b o => sv W b o) (Va.c3 x0 x1 ok0 ok1 (by decide) (by decide) x2.data.toList x3 vk3 (Qmt (Va.cnt_wt x3) (Qmt cw3 hb3))) (fun _ _ _ h => NX (hL _ _ _ h)) (fun _ _ _ h => NW h) (.cons (hr0) (.cons (hr1) (.cons (L0 _) (.cons (hr3) (.nil)))))).mono fun e W1 he => ?_
  obtain ⟨rfl, hb⟩ := he
  exact ⟨_, rfl, NU (pa := p0 ++ (p1 ++ (p3))) (pv := []) hW1 (fun _ _ _ => trodAll_mk1 (shut_bool Tryz.underlying4 _)) (fun sp hsp => trodAll_mk4 (U5 (by kernel_rfl) (by kernel_rfl) (by decide) a0 W1 sp hb (fun q hq => hsp q (by simp [hq]))) (U5 (by kernel_rfl) (by kernel_rfl) (by decide) a1 W1 sp hb (fun q hq => hsp q (by simp [hq]))) (shut_string Tryz.underlying9 w2) (U5 (by kernel_rfl) (by kernel_rfl) (by decide) a3 W1 sp hb (fun q hq => hsp q (by simp [hq])))) (fun _ _ => rfl) (by simp) hb
    (ok_one (by kernel_rfl) rfl (okWide_bool_mk Tryz.underlying4 _))⟩

theorem holds : Rows.LensDecodesUptoSaid :=
  OpenClaim.holds_of_cond 3 Tryz.f3 rfl rfl rfl rfl rfl rfl rfl ⟨rfl, rfl, rfl, rfl, rfl⟩ rfl rfl rfl rfl rfl (by kernel_rfl) Tryz.func3 jf
    (of_decide_eq_true (by kernel_rfl)) (by unfold Func.isWrapper; first | (rw [QmD (by decide +kernel)]; kernel_rfl) | (rw [QmC (by decide +kernel)]; exact ⟨rfl, rfl⟩))
    (fun os started H enc _ F => by rw [OpenClaim.pre_eq_preRow]; exact lifted os started H enc F)

theorem plain (f : FuncId) (fn : Func) (hf : Tryz.pinned.checked.prog.funcNamed "wireschema/wireschemalaw30.LensDecodes" = some f) (hfn : Tryz.pinned.checked.prog.funcs[f]? = some fn) :
    true = Tryz.pinned.checked.prog.looks [] ∧ ∀ (j : Nat) t, fn.params[j]? = some t → Tryz.pinned.checked.prog.wantsStandIn t = false := by
  obtain rfl : f = 3 := Option.some.inj ((show Tryz.prog.funcNamed "wireschema/wireschemalaw30.LensDecodes" = some 3 by kernel_rfl).symm.trans hf) |>.symm
  obtain rfl : fn = Tryz.f3 := (Option.some.inj (Tryz.func3.symm.trans hfn)).symm
  refine ⟨by kernel_rfl, fun j t ht => ?_⟩
  rw [Tryz.params3] at ht
  have hm : t ∈ [25, 25, 9, 32] := by simpa using Array.mem_of_getElem? ht
  have hall : ([25, 25, 9, 32].all fun u => !Tryz.prog.wantsStandIn u) = true := by kernel_rfl
  exact (show Tryz.prog.wantsStandIn t = false by simpa using QmI.1 hall t hm)

theorem card : Rows.LensDecodesUptoCardSaid :=
  Claim7.holds_tied_plain_at .later [] _ _ _ _ holds (fun _ h => by cases h) (by kernel_rfl) (fun _ h => by cases h) lensDecodesUpto_row_tie rfl ⟨rfl, rfl⟩ (by kernel_rfl) rfl plain (by kernel_rfl)

end PLensDecodes
end Go.Proofs.YtkhpgmeokilhaaaGreatDoor

/- Wireschema law VerdictBetween, within a bound on the bulk: whatever the input, the law returns true. -/
import Derived.Test.YtjjmjopabpakoaaGreatDoorRows
import Derived.ProofKit
import Derived.JoinedCond
import Derived.Deep.DeepHandedRow
import Derived.Lay
import Derived.OpenShut
import Derived.SevenTiedAt
import Derived.Test.YtjjmjopabpakoaaGreatDoorCards
import Derived.Test.YtjjmjopabpakoaaGreatDoorTie
import Derived.ChangeMaps5
import Derived.Test.YtjjmjopabpakoaaGreatDoorMBase5
import Derived.Test.YtjjmjopabpakoaaGreatDoorFVerdictBetween
set_option linter.unusedSimpArgs false
namespace Go.Proofs.YtjjmjopabpakoaaGreatDoor
open Go.ChangeShapes Go.WideShapes Go.ChangeAt Go.RowKit Go.ChangeMaps Am Br

namespace PVerdictBetween
section
variable {H : Type} {enc : TypeId × Value → H} {P : Program} {w : World} {base : Nat} {spare : Nat → Bool} {held : Bool} {ta tb tc td te : TypeId}
theorem QKg {args : Array Value} {ds : List (DataW H)} {ps : List MemPlace} (h : DataW.TrodAll enc P w base spare held [ta, tb, tc, td, te] args.toList ds ps) :
    ∃ va vb vc vd ve da db dc dd de pa pb pc pd pe, args = #[va, vb, vc, vd, ve] ∧ ds = [da, db, dc, dd, de] ∧ ps = pa ++ (pb ++ pc ++ pd ++ pe) ∧ DataW.Trod enc P w base spare held ta va da pa ∧ DataW.Trod enc P w base spare held tb vb db pb ∧ DataW.Trod enc P w base spare held tc vc dc pc ∧ DataW.Trod enc P w base spare held td vd dd pd ∧ DataW.Trod enc P w base spare held te ve de pe := by
  obtain ⟨va, vs, da, ds', pa, q, ea, rfl, rfl, ha, hr⟩ := trodAll_cons h
  obtain ⟨vb, vc, vd, ve, db, dc, dd, de, pb, pc, pd, pe, e1, rfl, rfl, hb, hc, hd, he⟩ := trodAll_four (args := vs.toArray) (by simpa using hr)
  refine ⟨va, vb, vc, vd, ve, da, db, dc, dd, de, pa, pb, pc, pd, pe, ?_, rfl, rfl, ha, hb, hc, hd, he⟩
  have e2 : vs = [vb, vc, vd, ve] := by simpa using congrArg Array.toList e1
  cases args
  simp_all
theorem QcT {va vb vc vd ve : Value} {da db dc dd de : DataW H} {pa pb pc pd pe : List MemPlace} (ha : DataW.Trod enc P w base spare held ta va da pa) (hb : DataW.Trod enc P w base spare held tb vb db pb) (hc : DataW.Trod enc P w base spare held tc vc dc pc) (hd : DataW.Trod enc P w base spare held td vd dd pd) (he : DataW.Trod enc P w base spare held te ve de pe) :
    DataW.TrodAll enc P w base spare held [ta, tb, tc, td, te] [va, vb, vc, vd, ve] [da, db, dc, dd, de] (pa ++ (pb ++ (pc ++ (pd ++ pe)))) := ⟨pa, pb ++ (pc ++ (pd ++ pe)), ha, trodAll_mk4 hb hc hd he, rfl⟩
end

theorem own : ownKnob Tryz.prog.godebug = none := by kernel_rfl

theorem wit (os : Os) (H : Type) (enc : TypeId × Value → H) : ∃ (w : World) (tape : Tape) (i : Input), w.os = os ∧ (w.forCall tape i).Shaped Tryz.checked.prog ∧ i.vars = [] ∧ Input.okWide Tryz.checked.prog (w.forCall tape i) .any w.heap.size 4 i ∧
      (Rows.OpenSpec.upto Rows.verdictBetweenSpec).preRow enc Tryz.prog Tryz.f4 Rows.verdictBetweenUptoRow.domain false Rows.verdictBetweenUptoRow.laid (w.forCall tape i).memory i.args ∧ ({ modest := false } : Assume).holds Tryz.checked.prog (lone (Frame.enter Tryz.checked.prog 4 i.args .normal) [] (w.forCall tape i)) := by
  have hok : Input.okWideB Tryz.checked.prog ((World.laidAll Tryz.prog os Rows.verdictBetweenUptoRow.laid).forCall (fun _ _ => 0) ⟨#[], #[.agg #[.slice none 0 0, .slice none 0 0, .slice none 0 0], .agg #[.slice none 0 0, .slice none 0 0, .slice none 0 0], .string ⟨#[]⟩, .int .i64 0, .int .i64 0], []⟩) 4 ⟨#[], #[.agg #[.slice none 0 0, .slice none 0 0, .slice none 0 0], .agg #[.slice none 0 0, .slice none 0 0, .slice none 0 0], .string ⟨#[]⟩, .int .i64 0, .int .i64 0], []⟩ = true := by kernel_rfl
  refine ⟨World.laidAll Tryz.prog os Rows.verdictBetweenUptoRow.laid, fun _ _ => 0, ⟨#[], #[.agg #[.slice none 0 0, .slice none 0 0, .slice none 0 0], .agg #[.slice none 0 0, .slice none 0 0, .slice none 0 0], .string ⟨#[]⟩, .int .i64 0, .int .i64 0], []⟩, World.laidAll_os _ _ _, World.shaped_of_ZipB (by kernel_rfl) (by kernel_rfl), (Input.okWide_of_okWideB (base := 0) hok).1, (Input.okWide_of_okWideB hok).2, ?_, by
    simp only [Assume.holds]
    exact ⟨by simp, by simp, fun _ => Modest.zero, by simp, by simp⟩⟩
  exact OpenSpec.preRow_of_cond 8 (x := ([.agg [.nil, .nil, .nil], .agg [.nil, .nil, .nil], .lit (.string []), .lit (.int .i64 0), .lit (.int .i64 0)], [], [])) (by kernel_rfl) (by kernel_rfl) (fun k hk => by cases hk; rfl) (by kernel_rfl) (by rw [MakeChecks.laidMetH_plain _ _ _ (by kernel_rfl)]; exact laidMet_laidAll _ (by kernel_rfl) (by kernel_rfl))

set_option maxRecDepth 100000 in
theorem lifted (os : Os) (started : os.Started) (H : Type) (enc : TypeId × Value → H) (F : Stop.Interp) :
    ReturnsInHanded {} Tryz.checked os 4 .any ((Rows.OpenSpec.upto Rows.verdictBetweenSpec).preRow enc Tryz.prog Tryz.f4 Rows.verdictBetweenUptoRow.domain false Rows.verdictBetweenUptoRow.laid) (((Rows.OpenSpec.upto Rows.verdictBetweenSpec).at F).post enc Tryz.prog Tryz.f4 false true false false) := by
  refine returnsInHanded_of_row (C := Tryz.checked) (s := Rows.OpenSpec.upto Rows.verdictBetweenSpec) own started (by kernel_rfl) Tryz.func4 (wit os H enc) ?_
  intro W base args ds gs before hval0 hW hcnd hk0 _ hlaid _ _
  have hk : Rows.uptoSmall H (ds ++ gs) = true := hk0 _ rfl
  show Calls Tryz.prog 4 args W fun e W' => ∃ v, e = .returned v ∧ Rows.verdictBetweenSpec.post enc Tryz.prog Tryz.f4 false true false false W args v W'
  have hval : ∀ (j : Nat) t v, Tryz.f4.params[j]? = some t → args[j]? = some v → Value.okWide Tryz.prog W .any base t v := hval0
  have hW1 := hW
  obtain ⟨p, q, hA0, hV, rfl, hfz, hnd⟩ := hW
  have hA : DataW.TrodAll enc Tryz.prog W 0 (fun _ => true) true Tryz.f4.params.toList args.toList ds p := hA0
  rw [Tryz.params4] at hA hval
  have hL : YU W := NX (by rw [MakeChecks.laidMetH_plain _ _ _ (by kernel_rfl)] at hlaid; exact hlaid) (by decide +kernel)
  obtain ⟨v0, v1, v2, v3, v4, d0, d1, d2, d3, d4, p0, p1, p2, p3, p4, rfl, rfl, rfl, a0, a1, a2, a3, a4⟩ := QKg hA
  obtain ⟨rfl, rfl⟩ := trodVars_none hV
  have hb0 : Rows.uptoBulk d0 ≤ 1048576 := by
    have h := hk
    simp only [Rows.uptoSmall, QWg, Rows.uptoBulkAll, QWA] at h
    omega
  obtain ⟨k0, as0, has0, hr0⟩ := KJ (hL := hL) (M := 1048576) (ts := [26, 22, 84, 9, 80, 79, 3, 69, 4, 76, 70, 71, 72, 291, 73, 293, 74, 295, 77, 143, 81, 171, 82, 23, 104, 102, 106, 24, 127, 125, 164]) (by decide +kernel) (by decide) Tryz.underlying26 (hval 0 26 v0 rfl rfl) a0 (.inr (.inl ⟨by decide, hb0⟩))
  obtain ⟨x0, ok0, e0⟩ := Wa (.inr (QVi _)) has0
  rw [e0] at hr0
  have hb1 : Rows.uptoBulk d1 ≤ 1048576 := by
    have h := hk
    simp only [Rows.uptoSmall, QWg, Rows.uptoBulkAll, QWA] at h
    omega
  obtain ⟨k1, as1, has1, hr1⟩ := KJ (hL := hL) (M := 1048576) (ts := [26, 22, 84, 9, 80, 79, 3, 69, 4, 76, 70, 71, 72, 291, 73, 293, 74, 295, 77, 143, 81, 171, 82, 23, 104, 102, 106, 24, 127, 125, 164]) (by decide +kernel) (by decide) Tryz.underlying26 (hval 1 26 v1 rfl rfl) a1 (.inr (.inl ⟨by decide, hb1⟩))
  obtain ⟨x1, ok1, e1⟩ := Wa (.inr (QVi _)) has1
  rw [e1] at hr1
  obtain ⟨x2, rfl, rfl, rfl, w2⟩ := open_string Tryz.underlying9 (hval 2 9 v2 rfl rfl) a2
  obtain ⟨x3, rfl, rfl, rfl, w3⟩ := open_int Tryz.underlying3 (hval 3 3 v3 rfl rfl) a3
  obtain ⟨x4, rfl, rfl, rfl, w4⟩ := open_int Tryz.underlying3 (hval 4 3 v4 rfl rfl) a4
  clear hA0 hval0
  simp only [QWg] at hW1
  refine (Y3 (stab := fun b o => sv W b o) (Va.c4 (QVi _) x0 x1 ok0 ok1 x2.data.toList x3 x4) (fun _ _ _ h => Hz (hL _ _ _ h)) (fun _ _ _ h => Hy h) (.cons (hr0) (.cons (hr1) (.cons (NT _) (.cons (.int _ _) (.cons (.int _ _) (.nil))))))).mono fun e W1 he => ?_
  obtain ⟨rfl, hb⟩ := he
  exact ⟨_, rfl, YL (pa := p0 ++ (p1)) (pv := []) hW1 (fun _ _ _ => trodAll_mk1 (shut_bool Tryz.underlying4 _)) (fun sp hsp => by have h := QcT (K7 (by kernel_rfl) (by kernel_rfl) (by decide) a0 W1 sp hb (fun q hq => hsp q (by simp [hq]))) (K7 (by kernel_rfl) (by kernel_rfl) (by decide) a1 W1 sp hb (fun q hq => hsp q (by simp [hq]))) (shut_string Tryz.underlying9 w2) (shut_int Tryz.underlying3 w3) (shut_int Tryz.underlying3 w4); simp only [QWg] at h; exact h) (fun _ _ => rfl) (by simp) hb
    (ok_one (by kernel_rfl) rfl (okWide_bool_mk Tryz.underlying4 _))⟩

theorem holds : Rows.VerdictBetweenUptoSaid :=
  OpenClaim.holds_of_cond 4 Tryz.f4 rfl rfl rfl rfl rfl rfl rfl ⟨rfl, rfl, rfl, rfl, rfl⟩ rfl rfl rfl rfl rfl (by kernel_rfl) Tryz.func4 jf
    (of_decide_eq_true (by kernel_rfl)) (by unfold Func.isWrapper; first | (rw [QVq (by decide +kernel)]; kernel_rfl) | (rw [QVp (by decide +kernel)]; exact ⟨rfl, rfl⟩))
    (fun os started H enc _ F => by rw [OpenClaim.pre_eq_preRow]; exact lifted os started H enc F)

theorem plain (f : FuncId) (fn : Func) (hf : Tryz.pinned.checked.prog.funcNamed "wireschema/wireschemalaw37.VerdictBetween" = some f) (hfn : Tryz.pinned.checked.prog.funcs[f]? = some fn) :
    false = Tryz.pinned.checked.prog.looks [] ∧ ∀ (j : Nat) t, fn.params[j]? = some t → Tryz.pinned.checked.prog.wantsStandIn t = false := by
  obtain rfl : f = 4 := Option.some.inj ((show Tryz.prog.funcNamed "wireschema/wireschemalaw37.VerdictBetween" = some 4 by kernel_rfl).symm.trans hf) |>.symm
  obtain rfl : fn = Tryz.f4 := (Option.some.inj (Tryz.func4.symm.trans hfn)).symm
  refine ⟨by kernel_rfl, fun j t ht => ?_⟩
  rw [Tryz.params4] at ht
  have hm : t ∈ [26, 26, 9, 3, 3] := by simpa using Array.mem_of_getElem? ht
  have hall : ([26, 26, 9, 3, 3].all fun u => !Tryz.prog.wantsStandIn u) = true := by kernel_rfl
  exact (show Tryz.prog.wantsStandIn t = false by simpa using QVv.1 hall t hm)

theorem card : Rows.VerdictBetweenUptoCardSaid :=
  Claim7.holds_tied_plain_at .later [] _ _ _ _ holds (fun _ h => by cases h) (by kernel_rfl) (fun _ h => by cases h) verdictBetweenUpto_row_tie rfl ⟨rfl, rfl⟩ (by kernel_rfl) rfl plain (by kernel_rfl)

end PVerdictBetween
end Go.Proofs.YtjjmjopabpakoaaGreatDoor

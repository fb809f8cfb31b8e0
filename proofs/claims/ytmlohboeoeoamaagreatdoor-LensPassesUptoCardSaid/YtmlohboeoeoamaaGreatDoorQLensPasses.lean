/- The law LensPasses of layer 30. -/
import Derived.Test.YtmlohboeoeoamaaGreatDoorRows
import Derived.ProofKit
import Derived.JoinedCond
import Derived.Deep.DeepHandedRow
import Derived.Lay
import Derived.OpenShut
import Derived.SevenTiedAt
import Derived.Test.YtmlohboeoeoamaaGreatDoorCards
import Derived.Test.YtmlohboeoeoamaaGreatDoorTie
import Derived.ChangeMaps5
import Derived.Test.YtmlohboeoeoamaaGreatDoorMLensPasses6
import Derived.Test.YtmlohboeoeoamaaGreatDoorFLensPasses
import Derived.Test.YtmlohboeoeoamaaGreatDoorGLensPasses
set_option linter.defProp false
namespace Go.Proofs.YtmlohboeoeoamaaGreatDoor
open Go.Proofs.Tryz
set_option linter.unusedSimpArgs false
section
open Go.ChangeShapes Go.WideShapes Go.ChangeAt Go.RowKit Go.ChangeMaps Am Br
namespace PLensPasses
def own : ownKnob prog.godebug = none := by kernel_rfl
def wit (os : Os) (H : Type) (dH : TypeId × Value -> H) : ∃ (w : World) (tape : Tape) (i : Input), w.os = os /\ (w.forCall tape i).Shaped Tryz.checked.prog /\ i.vars = [] /\ Input.okWide Tryz.checked.prog (w.forCall tape i) .any w.heap.size 3 i /\
      (Rows.OpenSpec.upto Rows.lensPassesSpec).preRow dH prog Tryz.f3 Rows.lensPassesUptoRow.domain false Rows.lensPassesUptoRow.laid (w.forCall tape i).memory i.args /\ ({ modest := false } : Assume).holds Tryz.checked.prog (lone (Frame.enter Tryz.checked.prog 3 i.args .normal) [] (w.forCall tape i)) := by
  have bz : Input.okWideB Tryz.checked.prog ((World.laidAll prog os Rows.lensPassesUptoRow.laid).forCall (λ_ _ => 0) ⟨#[], #[.agg #[.slice none 0 0, .slice none 0 0], .agg #[.slice none 0 0, .slice none 0 0], .string ⟨#[]⟩, .agg #[.int .i64 0, .int .u64 0, .string ⟨#[]⟩, .slice none 0 0, .slice none 0 0, .slice none 0 0, .slice none 0 0]], []⟩) 3 ⟨#[], #[.agg #[.slice none 0 0, .slice none 0 0], .agg #[.slice none 0 0, .slice none 0 0], .string ⟨#[]⟩, .agg #[.int .i64 0, .int .u64 0, .string ⟨#[]⟩, .slice none 0 0, .slice none 0 0, .slice none 0 0, .slice none 0 0]], []⟩ = true := by kernel_rfl
  refine ⟨World.laidAll prog os Rows.lensPassesUptoRow.laid, λ_ _ => 0, ⟨#[], #[.agg #[.slice none 0 0, .slice none 0 0], .agg #[.slice none 0 0, .slice none 0 0], .string ⟨#[]⟩, .agg #[.int .i64 0, .int .u64 0, .string ⟨#[]⟩, .slice none 0 0, .slice none 0 0, .slice none 0 0, .slice none 0 0]], []⟩, World.laidAll_os _ _ _, World.shaped_of_ZipB (by kernel_rfl) (by kernel_rfl), (Input.okWide_of_okWideB (base := 0) bz).1, (Input.okWide_of_okWideB bz).2, ?_, by
    simp only [Assume.holds]
    exact ⟨ό, by simp, λ_ => Modest.zero, by simp, by simp⟩⟩
  exact OpenSpec.preRow_of_cond 8 (x := ([.agg [.nil, .nil], .agg [.nil, .nil], .lit (.string []), .agg [.lit (.int .i64 0), .lit (.int .u64 0), .lit (.string []), .nil, .nil, .nil, .nil]], [], [])) (by kernel_rfl) (by kernel_rfl) (λk hk => by cases hk; rfl) (by kernel_rfl) (by rw [MakeChecks.laidMetH_plain _ _ _ (by kernel_rfl)]; exact laidMet_laidAll _ (by kernel_rfl) (by kernel_rfl))
set_option maxRecDepth 100000 in
theorem lifted (os : Os) (started : os.Started) (H : Type) (dH : TypeId × Value -> H) (F : Stop.Interp) :
    ReturnsInHanded {} Tryz.checked os 3 .any ((Rows.OpenSpec.upto Rows.lensPassesSpec).preRow dH prog Tryz.f3 Rows.lensPassesUptoRow.domain false Rows.lensPassesUptoRow.laid) (((Rows.OpenSpec.upto Rows.lensPassesSpec).at F).post dH prog Tryz.f3 false true false false) := by
  refine returnsInHanded_of_row (C := Tryz.checked) (s := Rows.OpenSpec.upto Rows.lensPassesSpec) own started (by kernel_rfl) func3 (wit os H dH) ?_
  intro W base args ds gs before md hW yn iQ _ lH _ _
  have hk : Rows.uptoSmall H (ds ++ gs) = true := iQ _ rfl
  show Calls prog 3 args W λe W' => ∃ v, e = .returned v /\ Rows.lensPassesSpec.post dH prog Tryz.f3 false true false false W args v W'
  have kf : ∀ (j : Nat) t v, Tryz.f3.params[j]? = some t -> args[j]? = some v -> Value.okWide prog W .any base t v := md
  have v_ := hW
  obtain ⟨p, q, gh, hV, rfl, nX, ib⟩ := hW
  have hA : DataW.TrodAll dH prog W 0 (λ_ => true) true Tryz.f3.params.toList args.toList ds p := gh
  rw [params3] at hA kf
  have hL : Di W := Qds (by rw [MakeChecks.laidMetH_plain _ _ _ (by kernel_rfl)] at lH; exact lH) (by decide +kernel)
  obtain ⟨v0, v1, v2, v3, d0, d1, d2, d3, p0, p1, p2, p3, rfl, rfl, rfl, a0, a1, a2, a3⟩ := trodAll_four hA
  obtain ⟨rfl, rfl⟩ := trodVars_none hV
  have qF : Rows.uptoBulk d0 <= 1048576 := by
    exact O6
  obtain ⟨k0, as0, tQ, kA⟩ := F1 (hL := hL) (M := 1048576) (ts := [25, 22, 48, 9, 46, 43, 3, 23, 109, 4, 105, 112, 107, 117, 32, 26, 27, 28, 68, 29, 50, 30, 57, 106, 115]) (by decide +kernel) ϊ underlying25 (kf 0 25 v0 rfl rfl) a0 (.inr (.inl ⟨ϊ, qF⟩))
  obtain ⟨x0, wC, e0⟩ := M7 tQ
  rw [e0] at kA
  have fW : Rows.uptoBulk d1 <= 1048576 := by
    exact O6
  obtain ⟨k1, as1, sZ, bj⟩ := F1 (hL := hL) (M := 1048576) (ts := [25, 22, 48, 9, 46, 43, 3, 23, 109, 4, 105, 112, 107, 117, 32, 26, 27, 28, 68, 29, 50, 30, 57, 106, 115]) (by decide +kernel) ϊ underlying25 (kf 1 25 v1 rfl rfl) a1 (.inr (.inl ⟨ϊ, fW⟩))
  obtain ⟨x1, yL, e1⟩ := M7 sZ
  rw [e1] at bj
  obtain ⟨x2, rfl, rfl, rfl, w2⟩ := open_string underlying9 (kf 2 9 v2 rfl rfl) a2
  have ve : Rows.uptoBulk d3 <= 1048576 := by
    exact O6
  obtain ⟨k3, as3, sB, vn, u6⟩ := C1 (hL := hL) (M := 1048576) (ts := [32, 3, 26, 9, 27, 28, 68, 29, 50, 30, 57]) (by decide +kernel) ϊ underlying32 (kf 3 32 v3 rfl rfl) a3 (.inr (.inl ⟨ϊ, ve⟩))
  obtain ⟨x3, wO, e3⟩ := Qho (.inr ϊ) sB
  rw [e3] at vn u6
  clear gh md
  simp only [Qof] at v_
  refine (MI (stab := λb o => sv W b o) (Va.c3 x0 x1 wC yL ϊ ϊ x2.data.toList x3 wO (Qm9 (Va.Ff x3) (Qm9 u6 ve))) (λ_ _ _ h => C3 (hL _ _ _ h)) (λ_ _ _ h => C2 h) (.cons (kA) (.cons (bj) (.cons (Qdr _) (.cons (vn) (.nil)))))).mono λe W1 he => ?_
  obtain ⟨rfl, hb⟩ := he
  exact ⟨_, rfl, C0 (pa := p0 ++ (p1 ++ (p3))) (pv := []) v_ (λ_ _ _ => trodAll_mk1 (shut_bool underlying4 _)) (λsp dc => trodAll_mk4 (Gu (by kernel_rfl) (by kernel_rfl) ϊ a0 W1 sp hb (λq hq => dc q (by simp [hq]))) (Gu (by kernel_rfl) (by kernel_rfl) ϊ a1 W1 sp hb (λq hq => dc q (by simp [hq]))) (shut_string underlying9 w2) (Gu (by kernel_rfl) (by kernel_rfl) ϊ a3 W1 sp hb (λq hq => dc q (by simp [hq])))) (λ_ _ => rfl) ό hb
    (ok_one (by kernel_rfl) rfl (okWide_bool_mk underlying4 _))⟩
def holds : Rows.LensPassesUptoSaid :=
  OpenClaim.holds_of_cond 3 Tryz.f3 rfl rfl rfl rfl rfl rfl rfl ⟨rfl, rfl, rfl, rfl, rfl⟩ rfl rfl rfl rfl rfl (by kernel_rfl) func3 jf
    (of_decide_eq_true (by kernel_rfl)) (by unfold Func.isWrapper; first | (rw [Qnj (by decide +kernel)]; kernel_rfl) | (rw [Qni (by decide +kernel)]; exact ⟨rfl, rfl⟩))
    (λos started H dH _ F => by rw [OpenClaim.pre_eq_preRow]; exact lifted os started H dH F)
def plain (f : FuncId) (fn : Func) (hf : Tryz.pinned.checked.prog.funcNamed "wireschema/wireschemalaw30.LensPasses" = some f) (lM : Tryz.pinned.checked.prog.funcs[f]? = some fn) :
    true = Tryz.pinned.checked.prog.looks [] /\ ∀ (j : Nat) t, fn.params[j]? = some t -> Tryz.pinned.checked.prog.wantsStandIn t = false := by
  obtain rfl : f = 3 := Option.some.inj ((show prog.funcNamed "wireschema/wireschemalaw30.LensPasses" = some 3 by kernel_rfl).symm.trans hf) |>.symm
  obtain rfl : fn = Tryz.f3 := (Option.some.inj (func3.symm.trans lM)).symm
  refine ⟨by kernel_rfl, λj t ht => ?_⟩
  rw [params3] at ht
  have hm : t ∈ [25, 25, 9, 32] := by simpa using Array.mem_of_getElem? ht
  have bB : ([25, 25, 9, 32].all λu => !prog.wantsStandIn u) = true := by kernel_rfl
  exact (show prog.wantsStandIn t = false by simpa using Qno.1 bB t hm)
def card : Rows.LensPassesUptoCardSaid :=
  Claim7.holds_tied_plain_at .later [] _ _ _ _ holds (λ_ h => Á) (by kernel_rfl) (λ_ h => Á) lensPassesUpto_row_tie rfl ⟨rfl, rfl⟩ (by kernel_rfl) rfl plain jg
end PLensPasses
end
end Go.Proofs.YtmlohboeoeoamaaGreatDoor

/- Wireschema law CursorStays: whatever the input (of bulk at most 1048576), the law returns true and its input reads as it did. -/
import Derived.Test.YtbclhpemdpoagaaRows
import Derived.ProofKit
import Derived.JoinedCond
import Derived.ChangeMaps5
import Derived.Test.YtbclhpemdpoagaaBr
import Derived.Test.YtbclhpemdpoagaaCk
import Derived.Test.YtbclhpemdpoagaaBs
namespace Go.Proofs.Ytbclhpemdpoagaa
open Go.ChangeShapes Go.WideShapes Go.ChangeAt Go.RowKit Go.ChangeMaps Am Br

namespace PCursorStays
theorem own : ownKnob Try.prog.godebug = none := by kernel_rfl

set_option maxRecDepth 100000 in
theorem lifted (os : Os) (started : os.Started) (H : Type) (enc : TypeId × Value → H) (F : Stop.Interp) :
    ReturnsInHanded {} Try.checked os 8 .any ((Rows.OpenSpec.upto Rows.cursorStaysSpec).pre6 enc Try.prog Try.f8 Rows.cursorStaysUptoRow.domain false) (((Rows.OpenSpec.upto Rows.cursorStaysSpec).at F).post enc Try.prog Try.f8 false true false false) := by
  refine returnsInHanded_of_cond (C := Try.checked) (s := Rows.OpenSpec.upto Rows.cursorStaysSpec) (k := Rows.uptoSmall) rfl own started (by kernel_rfl) Try.func8
    (OpenSpec.witness (enc := enc) (C := Try.checked) (s := Rows.OpenSpec.upto Rows.cursorStaysSpec) (k := Rows.uptoSmall) (x := ([.agg [.lit (.string []), .lit (.int .i64 0), .lit (.int .i64 0), .lit (.int .i64 0), .lit (.int .i64 0), .lit (.int .i64 0)], .nil], [], [])) rfl false ⟨#[], #[.agg #[.string ⟨#[]⟩, .int .i64 0, .int .i64 0, .int .i64 0, .int .i64 0, .int .i64 0], .slice none 0 0], []⟩ 8 (by kernel_rfl) (by kernel_rfl) (by kernel_rfl) (by kernel_rfl) (by kernel_rfl) (by kernel_rfl) (by kernel_rfl)) ?_
  intro W base args ds gs before hval0 hW hcnd hk _
  show Calls Try.prog 8 args W fun e W' => ∃ v, e = .returned v ∧ Rows.cursorStaysSpec.post enc Try.prog Try.f8 false true false false W args v W'
  have hval : ∀ (j : Nat) t v, Try.f8.params[j]? = some t → args[j]? = some v → Value.okWide Try.prog W .any base t v := hval0
  have hW1 := hW
  obtain ⟨p, q, hA0, hV, rfl, hfz, hnd⟩ := hW
  have hA : DataW.TrodAll enc Try.prog W 0 (fun _ => true) true Try.f8.params.toList args.toList ds p := hA0
  rw [Try.params8] at hA hval
  obtain ⟨v0, v1, d0, d1, p0, p1, rfl, rfl, rfl, a0, a1⟩ := trodAll_two hA
  obtain ⟨rfl, rfl⟩ := trodVars_none hV
  obtain ⟨x0, a01, a02, a03, a04, a05, rfl, rfl, rfl, w0, w01, w02, w03, w04, w05⟩ := open_cur Try.underlying25 (by kernel_rfl) (by kernel_rfl) Try.underlying9 Try.underlying3 ⟨rfl, rfl, rfl, rfl, rfl, rfl⟩ (hval 0 25 v0 rfl rfl) a0
  obtain ⟨y1, xs1, hy1, hok1, ⟨rest1, hd1⟩, hr1, hsh1⟩ := open_row (enc := enc) (elTwo Try.underlying48 (by kernel_rfl) (by kernel_rfl) Try.underlying3 ⟨rfl, rfl⟩) Try.underlying45 (by kernel_rfl) (hval 1 45 v1 rfl rfl) a1
  clear hA0 hval0
  have hlen : x0.data.toList.length ≤ 1048576 := by
    have h := hk
    simp [Rows.uptoSmall, Rows.uptoBulkAll, Rows.uptoBulk] at h
    simp
    omega
  simp only [List.append_nil, List.nil_append] at hW1
  refine (calls_of_fn1 (stab := fun b o => W.cell? ⟨b, o, none⟩) (Va.a8 ⟨x0.data.toList, a01, a02, a03, a04, a05⟩ y1 xs1 hy1 ⟨i64_lo w01, i64_hi w01⟩ ⟨i64_lo w02, i64_hi w02⟩ ⟨i64_lo w03, i64_hi w03⟩ ⟨i64_lo w04, i64_hi w04⟩ (Nat.le_trans hlen (by decide))) (fun _ _ _ h => h) (.cons (rep_cur _ _ _ _ _ _) (.cons (hr1) (.nil)))).mono fun e W1 he => ?_
  obtain ⟨rfl, hb⟩ := he
  exact ⟨_, rfl, post_of_below (pa := p1) (pv := []) hW1 (fun _ _ _ => trodAll_mk1 (shut_bool Try.underlying4 _)) (fun sp hsp => trodAll_mk2 (shut_cur Try.underlying25 (by kernel_rfl) (by kernel_rfl) Try.underlying9 Try.underlying3 ⟨rfl, rfl, rfl, rfl, rfl, rfl⟩ w0 w01 w02 w03 w04 w05) (hsh1 W1 sp hb hsp)) (fun _ _ => rfl) (by simp) hb
    (ok_one (by kernel_rfl) rfl (okWide_bool_mk Try.underlying4 _))⟩

theorem holds : Rows.CursorStaysUptoSaid :=
  OpenClaim.holds_of_cond 8 Try.f8 rfl rfl rfl rfl rfl rfl rfl ⟨rfl, rfl, rfl, rfl, rfl⟩ rfl rfl rfl rfl rfl (by kernel_rfl) Try.func8 (by kernel_rfl)
    (of_decide_eq_true (by kernel_rfl)) (by unfold Func.isWrapper; first | (rw [if_pos (by decide +kernel)]; kernel_rfl) | (rw [if_neg (by decide +kernel)]; exact ⟨rfl, rfl⟩))
    (fun os started H enc _ F => lifted os started H enc F)

end PCursorStays
end Go.Proofs.Ytbclhpemdpoagaa

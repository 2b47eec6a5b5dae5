/- THE PROGRAM's Slim RETURNS WHAT THE REFERENCE's RETURNS, FOR ALL ARGUMENTS. No condition. -/
import Derived.Test.YtbghmemejbbhfaaGreatGD5
set_option linter.unusedVariables false
set_option linter.unusedSimpArgs false
/- THE PROGRAM's Slim RETURNS WHAT THE REFERENCE's RETURNS, FOR ALL ARGUMENTS. No condition. -/
namespace Go.Proofs.YtbghmemejbbhfaaGreat
open Go Go.Am Go.ChangeShapes Go.WideShapes Go.ChangeAt Go.RowKit
set_option maxRecDepth 100000
theorem knobs : ownKnob Tryz.prog.godebug = none := by kernel_rfl
theorem laidOut : laidOutB Tryz.prog = true := by kernel_rfl
/-- What a plan's type leads to. -/
def planTypes : List TypeId := [tInt, tBool, tCellL, tTestL, tPlanL, 26, 27, 28]
theorem Slim_lifted (os : Os) (started : os.Started) (H : Type) (enc : TypeId × Value → H) :
    ReturnsInHanded {} Tryz.checked os 5 .any (Rows.fnExactSlimSpec.pre6 enc Tryz.prog Tryz.f5 Rows.fnExactSlimRow.domain false) (Rows.fnExactSlimSpec.post enc Tryz.prog Tryz.f5 false true false false) := by
  refine returnsInHanded_of_change (C := Tryz.checked) knobs started (by kernel_rfl) Tryz.func5
    (ChangeSpec.witness6 (enc := enc) (C := Tryz.checked) false ⟨#[], #[.agg #[.int .i64 0, .int .i64 0, .int .i64 0, .bool false, .int .i64 0, .int .i64 0, .int .i64 0, .int .i64 0, .int .i64 0, .int .i64 0, .int .i64 0, .int .i64 0, .slice none 0 0, .int .i64 0, .int .i64 0, .slice none 0 0, .int .i64 0, .int .i64 0, .slice none 0 0]], []⟩ 8 (by kernel_rfl) (by kernel_rfl) (by kernel_rfl) (by kernel_rfl)) ?_
  intro W base args ds gs before hval hW hcnd _
  refine row_true (cf := cfp pr2) cfOk2 (f := 5) (fn := Tryz.f5) rfl rfl laidOut (by decide +kernel) (ts := planTypes) (by kernel_rfl) (by decide +kernel) (tb := tBool) rfl rfl (fun _ => rfl) (fun H ds hl => ?_) (fun args ha => ?_) hval hW
  · match ds, hl with
    | [d], _ => rfl
  · have ha' : Args Tryz.prog [tPlanL] args := ha
    cases ha' with
    | cons hx hr =>
      cases hr with
      | nil =>
        obtain ⟨p, hp, hq⟩ := plan_a _ _ hx
        have : ofCells Tryz.prog tPlanL _ = p.enc := hp
        rw [this]
        exact law_Slim okc2 p hq
theorem fnExactSlim : Rows.FnExactSlimSaid :=
  OpenClaim.holds_of_wide 5 Tryz.f5 rfl rfl rfl rfl rfl rfl rfl ⟨rfl, rfl, rfl, rfl, rfl⟩ rfl rfl rfl rfl rfl (by kernel_rfl) Tryz.func5 (by kernel_rfl)
    (of_decide_eq_true (by kernel_rfl)) (by unfold Func.isWrapper; first | (rw [if_pos (by decide +kernel)]; kernel_rfl) | (rw [if_neg (by decide +kernel)]; exact ⟨rfl, rfl⟩))
    (fun os started H enc _ => Slim_lifted os started H enc)
#print axioms fnExactSlim
end Go.Proofs.YtbghmemejbbhfaaGreat

/- THE PROGRAM's SlimOnce RETURNS WHAT THE REFERENCE's RETURNS, FOR ALL ARGUMENTS. No condition. -/
import Derived.Test.YtbghmemejbbhfaaGreatPw
import Derived.Test.YtbghmemejbbhfaaGreatPx
import Derived.ProofKit
set_option linter.unusedVariables false
set_option linter.unusedSimpArgs false
namespace Go.Proofs.YtbghmemejbbhfaaGreat
open Go Go.Am Go.ChangeShapes Go.WideShapes Go.ChangeAt Go.RowKit
set_option maxRecDepth 100000
theorem law_SlimOnce {pr : Prims} (hs : Oks pr) (p : Plan) (hf : p.fits) : ∃ h, call (cfp pr) 3 [p.enc] [] = some (.ret (.bool true) h) := by
  have c1 := szPlan_r hs.toOkp p hf
  have c2 : p.small → Ret pr 8 [p.enc] p.enc := fun h => toPlan_r hs.toOkp p h
  have c3 : p.small → Ret pr 7 [p.enc] (.bool (slimOnce p)) := fun h => sSlimOnce_r hs.toOkp p h
  have c4 : p.small → Ret pr 9 [p.enc] (.bool (slimOnce p)) := fun h => iSlimOnce_r hs p h
  have c5 : p.small → Ret pr 10 [p.enc, p.enc] (.bool true) := fun h => eqPlan_r hs.toOkp p h
  have hsm : ¬ szR 1048576 p.sz < 0 → p.small := fun h => by
    unfold szR at h
    unfold Plan.small
    split at h <;> omega
  obtain ⟨kind, n, test, cells, a, b, keys, agg, c, kids⟩ := p
  suffices hw : wpF (cfp pr) 3 [(Plan.mk kind n test cells a b keys agg c kids).enc] [] (fun r => ∃ h, r = .ret (.bool true) h) by
    obtain ⟨r, hr, h, rfl⟩ := wpF_sound (hs.out _ rfl) hw
    exact ⟨h, hr⟩
  conv => whnf
  refine ⟨_, c1 _, ?_⟩
  conv => whnf
  refine bsel_intro (fun g1 => ?_) (fun g1 => ?_)
  · conv => whnf
    exact ⟨_, rfl⟩
  · have hsm' := hsm (by simpa using g1)
    have d2 := c2 hsm'
    have d3 := c3 hsm'
    have d4 := c4 hsm'
    have d5 := c5 hsm'
    generalize slimOnce (Plan.mk kind n test cells a b keys agg c kids) = r at d3 d4
    clear c1 c2 c3 c4 c5 hsm
    cases r
    iterate 2
      · conv => whnf
        refine ⟨_, d2 _, ?_⟩
        conv => whnf
        refine ⟨_, d3 _, ?_⟩
        conv => whnf
        refine ⟨_, d2 _, ?_⟩
        conv => whnf
        refine ⟨_, d4 _, ?_⟩
        conv => whnf
        refine ⟨_, d2 _, ?_⟩
        conv => whnf
        refine ⟨_, d5 _, ?_⟩
        conv => whnf
        exact ⟨_, rfl⟩
theorem knobs : ownKnob Tryz.prog.godebug = none := by kernel_rfl
theorem laidOut : laidOutB Tryz.prog = true := by kernel_rfl
/-- What a plan's type leads to. -/
def planTypes : List TypeId := [tInt, tBool, tCellL, tTestL, tPlanL, 26, 27, 28]
theorem SlimOnce_lifted (os : Os) (started : os.Started) (H : Type) (enc : TypeId × Value → H) :
    ReturnsInHanded {} Tryz.checked os 3 .any (Rows.fnExactSlimOnceSpec.pre6 enc Tryz.prog Tryz.f3 Rows.fnExactSlimOnceRow.domain false) (Rows.fnExactSlimOnceSpec.post enc Tryz.prog Tryz.f3 false true false false) := by
  refine returnsInHanded_of_change (C := Tryz.checked) knobs started (by kernel_rfl) Tryz.func3
    (ChangeSpec.witness6 (enc := enc) (C := Tryz.checked) false ⟨#[], #[.agg #[.int .i64 0, .int .i64 0, .int .i64 0, .bool false, .int .i64 0, .int .i64 0, .int .i64 0, .int .i64 0, .int .i64 0, .int .i64 0, .int .i64 0, .int .i64 0, .slice none 0 0, .int .i64 0, .int .i64 0, .slice none 0 0, .int .i64 0, .int .i64 0, .slice none 0 0]], []⟩ 8 (by kernel_rfl) (by kernel_rfl) (by kernel_rfl) (by kernel_rfl)) ?_
  intro W base args ds gs before hval hW hcnd _
  refine row_true (cf := cfp pr1) cfOk1 (f := 3) (fn := Tryz.f3) rfl rfl laidOut (by decide +kernel) (ts := planTypes) (by kernel_rfl) (by decide +kernel) (tb := tBool) rfl rfl (fun _ => rfl) (fun H ds hl => ?_) (fun args ha => ?_) hval hW
  · match ds, hl with
    | [d], _ => rfl
  · have ha' : Args Tryz.prog [tPlanL] args := ha
    cases ha' with
    | cons hx hr =>
      cases hr with
      | nil =>
        obtain ⟨p, hp, hq⟩ := plan_a _ _ hx
        have : ofCells Tryz.prog tPlanL _ = p.enc := hp
        rw [this]
        exact law_SlimOnce oks1 p hq
theorem fnExactSlimOnce : Rows.FnExactSlimOnceSaid :=
  OpenClaim.holds_of_wide 3 Tryz.f3 rfl rfl rfl rfl rfl rfl rfl ⟨rfl, rfl, rfl, rfl, rfl⟩ rfl rfl rfl rfl rfl (by kernel_rfl) Tryz.func3 (by kernel_rfl)
    (of_decide_eq_true (by kernel_rfl)) (by unfold Func.isWrapper; first | (rw [if_pos (by decide +kernel)]; kernel_rfl) | (rw [if_neg (by decide +kernel)]; exact ⟨rfl, rfl⟩))
    (fun os started H enc _ => SlimOnce_lifted os started H enc)
#print axioms fnExactSlimOnce
end Go.Proofs.YtbghmemejbbhfaaGreat

/- The look at every function of the seat. -/
import Derived.Test.YtbghmemejbbhfaaGreatGB1
set_option linter.unusedVariables false
set_option linter.unusedSimpArgs false
/- The look at every function of the seat. -/
namespace Go.Am
open Go
def codesB (P : Program) (M : FuncId → Mode) : List Func → Bool
  | [] => true
  | fn :: r => (match fn.body with
    | some c => codeOk P M fn.ntmps c
    | none => true) && codesB P M r
theorem codesB_spec {P : Program} {M : FuncId → Mode} : ∀ (l : List Func), codesB P M l = true → ∀ (i : Nat) (fn : Func) (c : Code), l[i]? = some fn → fn.body = some c → codeOk P M fn.ntmps c = true := by
  intro l
  induction l with
  | nil => intro _ i fn c h; simp at h
  | cons g r ih =>
    intro h i fn c hi hb
    simp only [codesB, Bool.and_eq_true] at h
    cases i with
    | zero =>
      simp at hi
      subst hi
      have := h.1
      rw [hb] at this
      exact this
    | succ i => exact ih h.2 i fn c (by simpa using hi) hb
end Go.Am
namespace Go.Proofs.YtbghmemejbbhfaaGreat
open Go Go.Am
set_option maxRecDepth 100000 in
theorem codes : codesB Tryz.prog modes Tryz.prog.funcs.toList = true := by kernel_rfl
set_option maxRecDepth 100000 in
theorem cfOk_of {pr : Prims} (hpr : ∀ f p args h r, pr f = some p → p args h = some r → ∀ (E : Env) (w : World) (vs : Array Value), bodied Tryz.prog f = true → Sim E h w → Full E h → GOk (fun _ => none) E.S w → Reps E w args vs → Calls Tryz.prog f vs w (Post E h w r)) : CfgOk (cfp pr) where
  mixed := by kernel_rfl
  noX := fun f h => by
    have h : modes f = Am.Mode.X := h
    unfold modes at h
    generalize isN f = a at h
    generalize isF f = b at h
    generalize isK f = c at h
    cases a <;> cases b <;> cases c <;> cases h
  code := fun f fn c _ hf hb => codesB_spec _ codes f fn c (by simpa [cfp] using hf) hb
  prims := hpr
set_option maxRecDepth 100000 in
noncomputable def cf : Cfg := cfp fun _ => none
theorem ok0 : Okp fun _ => none := ⟨fun _ _ => rfl⟩
set_option maxRecDepth 100000 in
theorem cfOk : CfgOk cf := cfOk_of fun _ _ _ _ _ h => by cases h
end Go.Proofs.YtbghmemejbbhfaaGreat

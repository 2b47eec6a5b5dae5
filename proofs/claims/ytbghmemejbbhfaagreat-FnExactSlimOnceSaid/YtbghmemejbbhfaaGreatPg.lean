/- The reference's tests of cells and of places. -/
import Derived.Test.YtbghmemejbbhfaaGreatPa
set_option linter.unusedVariables false
set_option linter.unusedSimpArgs false
namespace Go.Proofs.YtbghmemejbbhfaaGreat
open Go Go.Am
set_option maxRecDepth 100000 in
theorem eqS_test : eqS Tryz.prog 35 = some [.i, .b, .i, .i, .i, .i, .i, .i, .i, .i] := by kernel_rfl
set_option maxRecDepth 100000 in
theorem eqS_cell : eqS Tryz.prog 33 = some [.i, .i, .i, .i] := by kernel_rfl
theorem kind3_cases (k : Int) : k = 1 ∨ k = 2 ∨ k = 3 ∨ ((k == 1) = false ∧ (k == 2) = false ∧ (k == 3) = false) := by
  simp only [beq_eq_false_iff_ne, ne_eq]
  omega
variable {pr : Prims} (hp : Okp pr)
def col (n wide : Int) : Bool := decide (0 ≤ n) && (decide (n < wide) && decide (n < 6))
set_option maxRecDepth 100000
theorem l3Col_r (hp : Okp pr) (n wide : Int) : Ret pr 65 [i64 n, i64 wide] (.bool (col n wide)) := by
  refine ret_of hp rfl rfl ?_
  iterate 4
    all_goals (try (conv => whnf))
    all_goals (first | (refine bsel_intro (fun hb => ?_) (fun hb => ?_)) | skip)
  all_goals exact fin_bool (by first | (simp_all [col]; done) | (simp_all [col]; omega) | (simp_all [col]; intros; omega))
def isCell (n : Int) : Bool := decide (-1000000000 ≤ n) && decide (n ≤ 1000000000)
theorem l1Cell_r (hp : Okp pr) (n : Int) : Ret pr 82 [i64 n] (.bool (isCell n)) := by
  refine ret_of hp rfl rfl ?_
  iterate 3
    all_goals (try (conv => whnf))
    all_goals (first | (refine bsel_intro (fun hb => ?_) (fun hb => ?_)) | skip)
  all_goals exact fin_bool (by first | (simp_all [isCell]; done) | (simp_all [isCell]; omega) | (simp_all [isCell]; intros; omega))
def cellOk (c : Cell) (wide : Int) : Bool :=
  if c.kind = 1 then col c.a wide && (c.b == 0 && c.n == 0)
  else if c.kind = 2 then c.a == 0 && (c.b == 0 && isCell c.n)
  else if c.kind = 3 then col c.a wide && (col c.b wide && c.n == 0)
  else false
theorem sCellOk_r (hp : Okp pr) (c : Cell) (wide : Int) : Ret pr 75 [c.enc, i64 wide] (.bool (cellOk c wide)) := by
  obtain ⟨k, a, b, n⟩ := c
  refine ret_of hp rfl rfl ?_
  iterate 10
    all_goals (try (conv => whnf))
    all_goals (first | (refine bsel_intro (fun hb => ?_) (fun hb => ?_)) | (refine ⟨_, l3Col_r hp _ _ _, ?_⟩) | (refine ⟨_, l1Cell_r hp _ _, ?_⟩) | skip)
  all_goals exact fin_bool (by first | (simp_all [cellOk]; done) | (simp_all [cellOk]; omega) | (simp_all [cellOk]; intros; omega))
def testOk (t : Test) (wide : Int) : Bool := (t.kind == 1 || t.kind == 2) && (cellOk t.l wide && cellOk t.r wide)
theorem sTestOk_r (hp : Okp pr) (t : Test) (wide : Int) : Ret pr 63 [t.enc, i64 wide] (.bool (testOk t wide)) := by
  obtain ⟨k, no, l, r⟩ := t
  refine ret_of hp rfl rfl ?_
  iterate 10
    all_goals (try (conv => whnf))
    all_goals (first | (refine bsel_intro (fun hb => ?_) (fun hb => ?_)) | (refine ⟨_, sCellOk_r hp l _ _, ?_⟩) | (refine ⟨_, sCellOk_r hp r _ _, ?_⟩) | skip)
  all_goals exact fin_bool (by first | (simp_all [testOk]; done) | (simp_all [testOk]; omega) | (simp_all [testOk]; intros; omega))
end Go.Proofs.YtbghmemejbbhfaaGreat

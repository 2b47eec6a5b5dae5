/- The program's tests of cells and tests. -/
import Derived.Test.YtbghmemejbbhfaaGreatPh
set_option linter.unusedVariables false
set_option linter.unusedSimpArgs false
namespace Go.Proofs.YtbghmemejbbhfaaGreat
open Go Go.Am
variable {pr : Prims} (hp : Okp pr)
set_option maxRecDepth 100000
theorem zero_beq (b : Int) : ((0 : Int) == b) = (b == 0) := by rw [BEq.comm]
theorem isPlace_r (hp : Okp pr) (n wide : Int) : Ret pr 124 [i64 n, i64 wide] (.bool (col n wide)) := by
  refine ret_of hp rfl rfl ?_
  have hm : ∀ n, n < (if 6 < wide then 6 else wide) ↔ (n < wide ∧ n < 6) := fun n => by split <;> omega
  iterate 4
    all_goals (try (conv => whnf))
    all_goals (first | (refine bsel_intro (fun hb => ?_) (fun hb => ?_)) | skip)
  all_goals exact fin_bool (by simp only [ge_iff_le, decide_eq_true_eq, decide_eq_false_iff_not, hm] at *; first | (simp_all [col]; done) | (simp_all [col]; omega) | (simp_all [col]; intros; omega))
theorem isCell_r (hp : Okp pr) (n : Int) : Ret pr 152 [i64 n] (.bool (isCell n)) := by
  refine ret_of hp rfl rfl ?_
  iterate 3
    all_goals (try (conv => whnf))
    all_goals (first | (refine bsel_intro (fun hb => ?_) (fun hb => ?_)) | skip)
  all_goals exact fin_bool (by first | (simp_all [isCell]; done) | (simp_all [isCell]; omega) | (simp_all [isCell]; intros; omega))
theorem wideIf_r (hp : Okp pr) (ok : Bool) (w : Int) : Ret pr 50 [.bool ok, i64 w] (i64 (if ok then w else -1)) := by
  refine ret_of hp rfl rfl ?_
  cases ok
  · conv => whnf
    exact fin_int rfl
  · conv => whnf
    exact fin_int rfl
def tCol : TypeId := 125
def tNum : TypeId := 127
def tSum : TypeId := 129
def reck (c : Cell) : AVal :=
  if c.kind = 1 then .iface tCol (.agg [i64 c.a])
  else if c.kind = 2 then .iface tNum (.agg [i64 c.n])
  else if c.kind = 3 then .iface tSum (.agg [i64 c.a, i64 c.b])
  else .nili
theorem reckoningOf_r (hp : Okp pr) (c : Cell) : Ret pr 110 [c.enc] (reck c) := by
  obtain ⟨k, a, b, n⟩ := c
  refine ret_of hp rfl rfl ?_
  rcases kind3_cases k with rfl | rfl | rfl | ⟨h1, h2, h3⟩
  iterate 3
    · conv => whnf
      exact ⟨_, _, rfl, rfl⟩
  · iterate 4
      all_goals (try (conv => whnf))
      all_goals (first | (refine bsel_false h1 ?_) | (refine bsel_false h2 ?_) | (refine bsel_false h3 ?_) | (refine bsel_intro (fun hb => ?_) (fun hb => ?_)) | skip)
    have : reck ⟨k, a, b, n⟩ = .nili := by simp_all [reck]
    rw [this]
    exact ⟨_, _, rfl, rfl⟩
theorem colCell_r (hp : Okp pr) (a : Int) : Ret pr 144 [.agg [i64 a]] (Cell.enc ⟨1, a, 0, 0⟩) := by
  refine ret_of hp rfl rfl ?_
  conv => whnf
  exact ⟨_, _, rfl, rfl⟩
theorem numCell_r (hp : Okp pr) (n : Int) : Ret pr 148 [.agg [i64 n]] (Cell.enc ⟨2, 0, 0, n⟩) := by
  refine ret_of hp rfl rfl ?_
  conv => whnf
  exact ⟨_, _, rfl, rfl⟩
theorem sumCell_r (hp : Okp pr) (a b : Int) : Ret pr 153 [.agg [i64 a, i64 b]] (Cell.enc ⟨3, a, b, 0⟩) := by
  refine ret_of hp rfl rfl ?_
  conv => whnf
  exact ⟨_, _, rfl, rfl⟩
theorem colOk_r (hp : Okp pr) (a w : Int) : Ret pr 146 [.agg [i64 a], i64 w] (.bool (col a w)) := by
  refine ret_of hp rfl rfl ?_
  iterate 3
    all_goals (try (conv => whnf))
    all_goals (first | (refine bsel_intro (fun hb => ?_) (fun hb => ?_)) | (refine ⟨_, isPlace_r hp _ _ _, ?_⟩) | skip)
  all_goals exact fin_bool hb.symm
theorem numOk_r (hp : Okp pr) (n w : Int) : Ret pr 150 [.agg [i64 n], i64 w] (.bool (isCell n)) := by
  refine ret_of hp rfl rfl ?_
  iterate 3
    all_goals (try (conv => whnf))
    all_goals (first | (refine bsel_intro (fun hb => ?_) (fun hb => ?_)) | (refine ⟨_, isCell_r hp _ _, ?_⟩) | skip)
  all_goals exact fin_bool hb.symm
theorem sumOk_r (hp : Okp pr) (a b w : Int) : Ret pr 155 [.agg [i64 a, i64 b], i64 w] (.bool (col a w && col b w)) := by
  refine ret_of hp rfl rfl ?_
  iterate 5
    all_goals (try (conv => whnf))
    all_goals (first | (refine bsel_intro (fun hb => ?_) (fun hb => ?_)) | (refine ⟨_, isPlace_r hp _ _ _, ?_⟩) | skip)
  all_goals exact fin_bool (by simp_all)
theorem iCellOk_r (hp : Okp pr) (c : Cell) (w : Int) : Ret pr 109 [c.enc, i64 w] (.bool (cellOk c w)) := by
  have h0 := reckoningOf_r hp c
  obtain ⟨k, a, b, n⟩ := c
  refine ret_of hp rfl rfl ?_
  rcases kind3_cases k with rfl | rfl | rfl | ⟨h1, h2, h3⟩
  iterate 3
    · iterate 8
        all_goals (try (conv => whnf))
        all_goals (first | (refine bsel_intro (fun hb => ?_) (fun hb => ?_)) | (refine ⟨_, h0 _, ?_⟩) | (refine ⟨_, colCell_r hp _ _, ?_⟩) | (refine ⟨_, numCell_r hp _ _, ?_⟩) | (refine ⟨_, sumCell_r hp _ _ _, ?_⟩) | (refine ⟨_, colOk_r hp _ _ _, ?_⟩) | (refine ⟨_, numOk_r hp _ _ _, ?_⟩) | (refine ⟨_, sumOk_r hp _ _ _ _, ?_⟩) | (refine ⟨_, _, eqS_cell, rfl, ?_⟩) | skip)
      all_goals exact fin_bool (by clear h0; (try simp only [zero_beq] at *); first | (simp_all [cellOk]; done) | (simp_all [cellOk]; omega))
  · have hr : reck ⟨k, a, b, n⟩ = .nili := by simp_all [reck]
    rw [hr] at h0
    conv => whnf
    refine ⟨_, h0 _, ?_⟩
    conv => whnf
    exact fin_bool (by clear h0; simp_all [cellOk])
theorem iTestOk_r (hp : Okp pr) (t : Test) (wide : Int) : Ret pr 108 [t.enc, i64 wide] (.bool (testOk t wide)) := by
  obtain ⟨k, no, l, r⟩ := t
  refine ret_of hp rfl rfl ?_
  iterate 10
    all_goals (try (conv => whnf))
    all_goals (first | (refine bsel_intro (fun hb => ?_) (fun hb => ?_)) | (refine ⟨_, iCellOk_r hp l _ _, ?_⟩) | (refine ⟨_, iCellOk_r hp r _ _, ?_⟩) | skip)
  all_goals exact fin_bool (by first | (simp_all [testOk]; done) | (simp_all [testOk]; omega) | (simp_all [testOk]; intros; omega))
end Go.Proofs.YtbghmemejbbhfaaGreat

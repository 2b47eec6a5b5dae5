/- The law's own functions: copies of plans, comparisons, sizes. -/
import Derived.Test.YtbghmemejbbhfaaGreatPu
set_option linter.unusedVariables false
set_option linter.unusedSimpArgs false
namespace Go.Proofs.YtbghmemejbbhfaaGreat
open Go Go.Am
variable {pr : Prims} (hp : Okp pr)
set_option maxRecDepth 100000
theorem toPlan_r' (hp : Okp pr) : ∀ (N : Nat) (p : Plan), SizeOf.sizeOf p ≤ N → p.small → Ret pr 8 [p.enc] p.enc := by
  intro N
  induction N with
  | zero => intro p h; exfalso; cases p; simp at h
  | succ N ih =>
    intro p hs hsm
    obtain ⟨kind, n, test, cells, a, b, keys, agg, c, kids⟩ := p
    obtain ⟨hsc, hsk, hskids, hsks⟩ := small_split hsm
    have h1 := toTest_r hp test
    have h2 := toCellS_r hp cells hsc
    have h3 := toIntS_r hp keys hsk
    have h4 := toPlanS_r hp kids hskids fun q hq => ih q (by have := List.sizeOf_lt_of_mem hq; simp at hs; omega) (hsks q hq)
    refine ret_of hp rfl rfl ?_
    conv => whnf
    refine ⟨_, h1 _, ?_⟩
    conv => whnf
    refine ⟨_, h2 _, ?_⟩
    conv => whnf
    refine ⟨_, h3 _, ?_⟩
    conv => whnf
    refine ⟨_, h4 _, ?_⟩
    conv => whnf
    exact ⟨_, _, rfl, rfl⟩
theorem toPlan_r (hp : Okp pr) (p : Plan) (hsm : p.small) : Ret pr 8 [p.enc] p.enc := toPlan_r' hp _ p (Nat.le_refl _) hsm
theorem eqCell_r (hp : Okp pr) (c : Cell) : Ret pr 52 [c.enc, c.enc] (.bool true) := by
  obtain ⟨k, a, b, n⟩ := c
  have h : ∀ x : Int, (x != x) = false := fun x => by simp
  refine ret_of hp rfl rfl ?_
  iterate 6
    all_goals (try (conv => whnf))
    all_goals (first | (refine bsel_false (h _) ?_) | (refine bsel_intro (fun hb => ?_) (fun hb => ?_)) | skip)
  exact fin_bool rfl
theorem eqTest_r (hp : Okp pr) (t : Test) : Ret pr 28 [t.enc, t.enc] (.bool true) := by
  obtain ⟨k, no, l, r⟩ := t
  have h : ∀ x : Int, (x != x) = false := fun x => by simp
  have hl := eqCell_r hp l
  have hr := eqCell_r hp r
  refine ret_of hp rfl rfl ?_
  cases no
  iterate 2
    · iterate 6
        all_goals (try (conv => whnf))
        all_goals (first | (refine bsel_false (h _) ?_) | (refine bsel_intro (fun hb => ?_) (fun hb => ?_)) | (refine ⟨_, hl _, ?_⟩) | (refine ⟨_, hr _, ?_⟩) | skip)
      exact fin_bool rfl
theorem eqCellS_r (hp : Okp pr) (xs : List Cell) (hl : xs.length ≤ 1048576) : Ret pr 29 [.sl (xs.map Cell.enc), .sl (xs.map Cell.enc)] (.bool true) := by
  have h : ∀ x : Int, (x != x) = false := fun x => by simp
  refine ret_of hp rfl rfl ?_
  conv => whnf
  refine bsel_false (h _) ?_
  conv => whnf
  refine loop_rule (fun m st => ∃ j : Nat, j + m = xs.length ∧ st.tm 0 = .sl (xs.map Cell.enc) ∧ st.tm 1 = .sl (xs.map Cell.enc) ∧ st.tm 5 = i64 (j : Nat) ∧ st.hp = []) (fun m st hI => ?_) (xs.length) _ ⟨0, by simp, (by first | kernel_rfl | rfl | simp), (by first | kernel_rfl | rfl | simp), (by first | kernel_rfl | rfl | simp), (by first | kernel_rfl | rfl | simp)⟩
  obtain ⟨j, hj, e0, e1, e5, hh⟩ := hI
  obtain ⟨tm, hq⟩ := st
  simp only at e0 e1 e5 hh
  subst hh
  rw [show tm = upd (upd (upd tm 0 (.sl (xs.map Cell.enc))) 1 (.sl (xs.map Cell.enc))) 5 (i64 (j : Nat)) by rw [upd_id e0, upd_id e1, upd_id e5]]
  clear e0 e1 e5
  conv => whnf
  refine bsel_intro (fun h1 => ?_) (fun h1 => ?_)
  · have hjl : j < xs.length := by simpa using h1
    conv => whnf
    refine ⟨(xs[j]).enc, by simp [hjl], by omega, rfl, ?_⟩
    conv => whnf
    refine ⟨(xs[j]).enc, by simp [hjl], by omega, rfl, ?_⟩
    conv => whnf
    refine ⟨_, eqCell_r hp xs[j] _, ?_⟩
    conv => whnf
    exact ⟨m - 1, by omega, j + 1, by omega, rfl, rfl, nat_step j (by omega), rfl⟩
  · conv => whnf
    exact fin_bool rfl
theorem eqIntS_r (hp : Okp pr) (xs : List Int) (hl : xs.length ≤ 1048576) : Ret pr 30 [.sl (xs.map i64), .sl (xs.map i64)] (.bool true) := by
  have h : ∀ x : Int, (x != x) = false := fun x => by simp
  refine ret_of hp rfl rfl ?_
  conv => whnf
  refine bsel_false (h _) ?_
  conv => whnf
  refine loop_rule (fun m st => ∃ j : Nat, j + m = xs.length ∧ st.tm 0 = .sl (xs.map i64) ∧ st.tm 1 = .sl (xs.map i64) ∧ st.tm 5 = i64 (j : Nat) ∧ st.hp = []) (fun m st hI => ?_) (xs.length) _ ⟨0, by simp, (by first | kernel_rfl | rfl | simp), (by first | kernel_rfl | rfl | simp), (by first | kernel_rfl | rfl | simp), (by first | kernel_rfl | rfl | simp)⟩
  obtain ⟨j, hj, e0, e1, e5, hh⟩ := hI
  obtain ⟨tm, hq⟩ := st
  simp only at e0 e1 e5 hh
  subst hh
  rw [show tm = upd (upd (upd tm 0 (.sl (xs.map i64))) 1 (.sl (xs.map i64))) 5 (i64 (j : Nat)) by rw [upd_id e0, upd_id e1, upd_id e5]]
  clear e0 e1 e5
  conv => whnf
  refine bsel_intro (fun h1 => ?_) (fun h1 => ?_)
  · have hjl : j < xs.length := by simpa using h1
    conv => whnf
    refine ⟨i64 xs[j], by simp [hjl], by omega, rfl, ?_⟩
    conv => whnf
    refine ⟨i64 xs[j], by simp [hjl], by omega, rfl, ?_⟩
    conv => whnf
    refine bsel_false (h _) ?_
    conv => whnf
    exact ⟨m - 1, by omega, j + 1, by omega, rfl, rfl, nat_step j (by omega), rfl⟩
  · conv => whnf
    exact fin_bool rfl
theorem eqPlanS_r (hp : Okp pr) (xs : List Plan) (hl : xs.length ≤ 1048576) (ih : ∀ p ∈ xs, Ret pr 10 [p.enc, p.enc] (.bool true)) : Ret pr 31 [.sl (Plan.encs xs), .sl (Plan.encs xs)] (.bool true) := by
  have h : ∀ x : Int, (x != x) = false := fun x => by simp
  refine ret_of hp rfl rfl ?_
  conv => whnf
  refine bsel_false (h _) ?_
  conv => whnf
  refine loop_rule (fun m st => ∃ j : Nat, j + m = xs.length ∧ st.tm 0 = .sl (Plan.encs xs) ∧ st.tm 1 = .sl (Plan.encs xs) ∧ st.tm 5 = i64 (j : Nat) ∧ st.hp = []) (fun m st hI => ?_) (xs.length) _ ⟨0, by simp, (by first | kernel_rfl | rfl | simp), (by first | kernel_rfl | rfl | simp), (by first | kernel_rfl | rfl | simp), (by first | kernel_rfl | rfl | simp)⟩
  obtain ⟨j, hj, e0, e1, e5, hh⟩ := hI
  obtain ⟨tm, hq⟩ := st
  simp only at e0 e1 e5 hh
  subst hh
  rw [show tm = upd (upd (upd tm 0 (.sl (Plan.encs xs))) 1 (.sl (Plan.encs xs))) 5 (i64 (j : Nat)) by rw [upd_id e0, upd_id e1, upd_id e5]]
  clear e0 e1 e5
  conv => whnf
  refine bsel_intro (fun h1 => ?_) (fun h1 => ?_)
  · have hjl : j < xs.length := by simpa [encs_len] using h1
    have hge : (Plan.encs xs)[((j : Nat) : Int).toNat]? = some xs[j].enc := by rw [Int.toNat_natCast, encs_get]; simp [hjl]
    have hih := ih xs[j] (List.getElem_mem hjl)
    generalize xs[j] = q at hge hih
    obtain ⟨kind, n, test, cells, a, b, keys, agg, c, kids⟩ := q
    conv => whnf
    refine ⟨_, hge, by omega, rfl, ?_⟩
    conv => whnf
    refine ⟨_, hge, by omega, rfl, ?_⟩
    conv => whnf
    refine ⟨_, hih _, ?_⟩
    conv => whnf
    exact ⟨m - 1, by omega, j + 1, by omega, rfl, rfl, nat_step j (by omega), rfl⟩
  · conv => whnf
    exact fin_bool rfl
theorem eqPlan_r' (hp : Okp pr) : ∀ (N : Nat) (p : Plan), SizeOf.sizeOf p ≤ N → p.small → Ret pr 10 [p.enc, p.enc] (.bool true) := by
  intro N
  induction N with
  | zero => intro p h; exfalso; cases p; simp at h
  | succ N ih =>
    intro p hs hsm
    obtain ⟨kind, n, test, cells, a, b, keys, agg, c, kids⟩ := p
    obtain ⟨hsc, hsk, hskids, hsks⟩ := small_split hsm
    have h : ∀ x : Int, (x != x) = false := fun x => by simp
    have h1 := eqTest_r hp test
    have h2 := eqCellS_r hp cells hsc
    have h3 := eqIntS_r hp keys hsk
    have h4 := eqPlanS_r hp kids hskids fun q hq => ih q (by have := List.sizeOf_lt_of_mem hq; simp at hs; omega) (hsks q hq)
    refine ret_of hp rfl rfl ?_
    iterate 12
      all_goals (try (conv => whnf))
      all_goals (first | (refine bsel_false (h _) ?_) | (refine bsel_intro (fun hb => ?_) (fun hb => ?_)) | (refine ⟨_, h1 _, ?_⟩) | (refine ⟨_, h2 _, ?_⟩) | (refine ⟨_, h3 _, ?_⟩) | (refine ⟨_, h4 _, ?_⟩) | skip)
    exact fin_bool rfl
theorem eqPlan_r (hp : Okp pr) (p : Plan) (hsm : p.small) : Ret pr 10 [p.enc, p.enc] (.bool true) := eqPlan_r' hp _ p (Nat.le_refl _) hsm
/-! ### Sizes -/
mutual
/-- No list is longer than a list can be. -/
def Plan.fits : Plan → Prop
  | .mk kind n test cells a b keys agg c kids => cells.length ≤ 9223372036854775807 ∧ keys.length ≤ 9223372036854775807 ∧ kids.length ≤ 9223372036854775807 ∧ Plan.fitss kids
def Plan.fitss : List Plan → Prop
  | [] => True
  | p :: ps => p.fits ∧ Plan.fitss ps
end
theorem fitss_iff (ps : List Plan) : Plan.fitss ps ↔ ∀ p ∈ ps, p.fits := by
  induction ps with
  | nil => simp [Plan.fitss]
  | cons p ps ih => simp [Plan.fitss, ih]
def szR (left : Int) (k : Nat) : Int := if left < k then -1 else left - k
theorem szR_wrap {left : Int} {k : Nat} (h0 : 0 ≤ left) (h1 : left ≤ 1048576) (hk : k ≤ 9223372036854775807) : IntKind.i64.wrap (left - (k : Int)) = left - k := by
  rw [IntKind.wrap_i64]; omega
theorem szCellS_r (hp : Okp pr) (xs : List Cell) (left : Int) (h0 : 0 ≤ left) (h1 : left ≤ 1048576) (hl : xs.length ≤ 9223372036854775807) : Ret pr 17 [.sl (xs.map Cell.enc), i64 left] (i64 (szR left xs.length)) := by
  have hw := szR_wrap (k := (xs.map Cell.enc).length) h0 h1 (by simpa using hl)
  refine ret_of hp rfl rfl ?_
  iterate 3
    all_goals (try (conv => whnf))
    all_goals (first | (refine bsel_intro (fun hb => ?_) (fun hb => ?_)) | skip)
  all_goals exact fin_int (by rw [hw] at *; simp [szR] at *; omega)
theorem szIntS_r (hp : Okp pr) (xs : List Int) (left : Int) (h0 : 0 ≤ left) (h1 : left ≤ 1048576) (hl : xs.length ≤ 9223372036854775807) : Ret pr 18 [.sl (xs.map i64), i64 left] (i64 (szR left xs.length)) := by
  have hw := szR_wrap (k := (xs.map i64).length) h0 h1 (by simpa using hl)
  refine ret_of hp rfl rfl ?_
  iterate 3
    all_goals (try (conv => whnf))
    all_goals (first | (refine bsel_intro (fun hb => ?_) (fun hb => ?_)) | skip)
  all_goals exact fin_int (by rw [hw] at *; simp [szR] at *; omega)
end Go.Proofs.YtbghmemejbbhfaaGreat

/- The sizes of plans; the law of SlimOnce. -/
import Derived.Test.YtbghmemejbbhfaaGreatGB6
import Derived.Test.YtbghmemejbbhfaaGreatGC7
set_option linter.unusedVariables false
set_option linter.unusedSimpArgs false
/- The sizes of plans; the law of SlimOnce. -/
namespace Go.Proofs.YtbghmemejbbhfaaGreat
open Go Go.Am
variable {pr : Prims} (hp : Okp pr) (hs : Oks pr)
set_option maxRecDepth 100000
theorem szR_add {left : Int} {a b : Nat} (h : ¬ left < a) : szR (left - a) b = szR left (a + b) := by
  unfold szR; split <;> split <;> omega
theorem szR_neg {left : Int} {a b : Nat} (h : left < a) : szR left (a + b) = -1 := by
  unfold szR; rw [if_pos (by omega)]
theorem szs_take (ps : List Plan) {j : Nat} (h : j < ps.length) : Plan.szs (ps.take (j + 1)) = Plan.szs (ps.take j) + ps[j].sz := by
  induction ps generalizing j with
  | nil => simp at h
  | cons p ps ih =>
    cases j with
    | zero => simp [Plan.szs]
    | succ j =>
      simp only [List.take_succ_cons, Plan.szs, List.getElem_cons_succ]
      rw [ih (by simpa using h)]
      omega
theorem szs_take_le (ps : List Plan) (j : Nat) : Plan.szs (ps.take j) ≤ Plan.szs ps := by
  induction ps generalizing j with
  | nil => simp
  | cons p ps ih =>
    cases j with
    | zero => simp [Plan.szs]
    | succ j => simp only [List.take_succ_cons, Plan.szs]; have := ih j; omega
theorem szPlanS_r (hp : Okp pr) (xs : List Plan) (left : Int) (h0 : 0 ≤ left) (h1 : left ≤ 1048576) (hl : xs.length ≤ 9223372036854775807)
    (ih : ∀ p ∈ xs, ∀ left : Int, 0 ≤ left → left ≤ 1048576 → Ret pr 6 [p.enc, i64 left] (i64 (szR left p.sz))) : Ret pr 19 [.sl (Plan.encs xs), i64 left] (i64 (szR left (xs.length + Plan.szs xs))) := by
  have hel := encs_len xs
  have hw := szR_wrap (k := (Plan.encs xs).length) h0 h1 (by omega)
  refine ret_of hp rfl rfl ?_
  conv => whnf
  refine bsel_intro (fun g0 => ?_) (fun g0 => ?_)
  · have : left < xs.length := by rw [hw, hel] at g0; simp at g0; omega
    conv => whnf
    exact fin_int (szR_neg this).symm
  · have hge : ¬ left < xs.length := by rw [hw, hel] at g0; simp at g0; omega
    conv => whnf
    refine loop_rule (fun m st => ∃ j : Nat, j + m = xs.length ∧ ¬ (left - xs.length) < Plan.szs (xs.take j) ∧ st.tm 0 = .sl (Plan.encs xs) ∧ st.tm 1 = i64 (left - xs.length - Plan.szs (xs.take j)) ∧ st.tm 5 = i64 (j : Nat) ∧ st.hp = []) (fun m st hI => ?_) xs.length _ ⟨0, by simp, by simp [Plan.szs]; omega, rfl, ?_, rfl, rfl⟩
    rotate_left
    · refine Eq.trans (b := AVal.int .i64 (IntKind.i64.wrap (left - ((Plan.encs xs).length : Nat)))) ?_ ?_
      · kernel_rfl
      · rw [hw, hel]; simp [i64, Plan.szs]
    obtain ⟨j, hj, hnn, e0, e1, e5, hh⟩ := hI
    obtain ⟨tm, hq⟩ := st
    simp only at e0 e1 e5 hh
    subst hh
    rw [show tm = upd (upd (upd tm 0 (.sl (Plan.encs xs))) 1 (i64 (left - xs.length - Plan.szs (xs.take j)))) 5 (i64 (j : Nat)) by rw [upd_id e0, upd_id e1, upd_id e5]]
    clear e0 e1 e5
    conv => whnf
    refine bsel_intro (fun g1 => ?_) (fun g1 => ?_)
    · have hjl : j < xs.length := by have : j < (Plan.encs xs).length := by simpa using g1
                                     omega
      have hgt : (Plan.encs xs)[((j : Nat) : Int).toNat]? = some xs[j].enc := by rw [Int.toNat_natCast, encs_get]; simp [hjl]
      have hih := ih xs[j] (List.getElem_mem hjl) (left - xs.length - Plan.szs (xs.take j)) (by omega) (by omega)
      have hst := szs_take xs hjl
      have hle := szs_take_le xs (j + 1)
      generalize xs[j] = q at hgt hih hst
      have hqs : q.sz = q.sz := rfl
      generalize hsz : q.sz = z at hih hst
      clear hqs hsz
      obtain ⟨kind, n, test, cells, a, b, keys, agg, c, kids⟩ := q
      conv => whnf
      refine ⟨_, hgt, by omega, rfl, ?_⟩
      conv => whnf
      refine ⟨_, hih _, ?_⟩
      conv => whnf
      refine bsel_intro (fun g2 => ?_) (fun g2 => ?_)
      · conv => whnf
        refine fin_int ?_
        have : szR (left - xs.length - Plan.szs (xs.take j)) z < 0 := by simpa using g2
        unfold szR at this ⊢
        split at this <;> rw [if_pos (by omega)]
      · conv => whnf
        have : ¬ szR (left - xs.length - Plan.szs (xs.take j)) z < 0 := by simpa using g2
        have hz : ¬ (left - xs.length - Plan.szs (xs.take j)) < z := by
          intro hh; apply this; unfold szR; rw [if_pos hh]; omega
        refine ⟨m - 1, by omega, j + 1, by omega, by omega, rfl, ?_, nat_step j (by omega), rfl⟩
        show i64 (szR (left - xs.length - Plan.szs (xs.take j)) z) = _
        unfold szR
        rw [if_neg hz, hst]
        congr 1
        omega
    · have hjl : j = xs.length := by have : ¬ j < (Plan.encs xs).length := by simpa using g1
                                     omega
      subst hjl
      rw [List.take_length] at *
      conv => whnf
      exact fin_int (by unfold szR; rw [if_neg (by omega)]; omega)
theorem szPlan_r' (hp : Okp pr) : ∀ (N : Nat) (p : Plan), SizeOf.sizeOf p ≤ N → p.fits → ∀ left : Int, 0 ≤ left → left ≤ 1048576 → Ret pr 6 [p.enc, i64 left] (i64 (szR left p.sz)) := by
  intro N
  induction N with
  | zero => intro p h; exfalso; cases p; simp at h
  | succ N ih =>
    intro p hs hf left h0 h1
    obtain ⟨kind, n, test, cells, a, b, keys, agg, c, kids⟩ := p
    simp only [Plan.fits, fitss_iff] at hf
    obtain ⟨f1, f2, f3, f4⟩ := hf
    have c1 := szCellS_r hp cells left h0 h1 f1
    have c2 := fun l h0 h1 => szIntS_r hp keys l h0 h1 f2
    have c3 := fun l h0 h1 => szPlanS_r hp kids l h0 h1 f3 fun q hq => ih q (by have := List.sizeOf_lt_of_mem hq; simp at hs; omega) (f4 q hq)
    have hsz : (Plan.mk kind n test cells a b keys agg c kids).sz = cells.length + (keys.length + (kids.length + Plan.szs kids)) := by simp only [Plan.sz]; omega
    rw [hsz]
    refine ret_of hp rfl rfl ?_
    have neg : ∀ {l : Int} {k : Nat}, 0 ≤ l → (szR l k < 0 ↔ l < k) := fun h => by unfold szR; split <;> omega
    have sub : ∀ {l : Int} {k : Nat}, ¬ l < k → szR l k = l - k := fun h => by unfold szR; rw [if_neg h]
    conv => whnf
    refine ⟨_, c1 _, ?_⟩
    conv => whnf
    refine bsel_intro (fun g1 => ?_) (fun g1 => ?_)
    · have : left < cells.length := (neg h0).1 (by simpa using g1)
      conv => whnf
      exact fin_int (szR_neg this).symm
    · have g1' : ¬ left < cells.length := fun h => by have := (neg h0).2 h; simp at g1; omega
      rw [← szR_add g1']
      rw [sub g1'] at *
      generalize hl1 : left - (cells.length : Int) = l1 at *
      have l10 : 0 ≤ l1 := by omega
      conv => whnf
      refine ⟨_, c2 l1 l10 (by omega) _, ?_⟩
      conv => whnf
      refine bsel_intro (fun g2 => ?_) (fun g2 => ?_)
      · have : l1 < keys.length := (neg l10).1 (by simpa using g2)
        conv => whnf
        exact fin_int (szR_neg this).symm
      · have g2' : ¬ l1 < keys.length := fun h => by have := (neg l10).2 h; simp at g2; omega
        rw [← szR_add g2']
        rw [sub g2'] at *
        generalize hl2 : l1 - (keys.length : Int) = l2 at *
        have l20 : 0 ≤ l2 := by omega
        conv => whnf
        refine ⟨_, c3 l2 l20 (by omega) _, ?_⟩
        conv => whnf
        refine bsel_intro (fun g3 => ?_) (fun g3 => ?_)
        · have : l2 < ((kids.length + Plan.szs kids : Nat) : Int) := (neg l20).1 (by simpa using g3)
          conv => whnf
          exact fin_int (by unfold szR; rw [if_pos this])
        · conv => whnf
          exact fin_int rfl
theorem szPlan_r (hp : Okp pr) (p : Plan) (hf : p.fits) : Ret pr 6 [p.enc, i64 1048576] (i64 (szR 1048576 p.sz)) := szPlan_r' hp _ p (Nat.le_refl _) hf _ (by decide) (by decide)
end Go.Proofs.YtbghmemejbbhfaaGreat

/- The reference's form of plans; SlimOnce. -/
import Derived.Test.YtbghmemejbbhfaaGreatPh
set_option linter.unusedVariables false
set_option linter.unusedSimpArgs false
namespace Go.Proofs.YtbghmemejbbhfaaGreat
open Go Go.Am
variable {pr : Prims} (hp : Okp pr)
set_option maxRecDepth 100000
def kidsN (kind : Int) : Int := if kind = 1 then 0 else if kind = 2 ∨ kind = 3 ∨ kind = 6 ∨ kind = 7 then 1 else if kind = 4 ∨ kind = 5 then 2 else -1
theorem kind_cases (k : Int) : k = 1 ∨ k = 2 ∨ k = 3 ∨ k = 4 ∨ k = 5 ∨ k = 6 ∨ k = 7 ∨ ((k == 1) = false ∧ (k == 2) = false ∧ (k == 3) = false ∧ (k == 4) = false ∧ (k == 5) = false ∧ (k == 6) = false ∧ (k == 7) = false) := by
  simp only [beq_eq_false_iff_ne, ne_eq]
  omega
theorem l4Kids_r (hp : Okp pr) (kind : Int) : Ret pr 61 [i64 kind] (i64 (kidsN kind)) := by
  refine ret_of hp rfl rfl ?_
  rcases kind_cases kind with rfl | rfl | rfl | rfl | rfl | rfl | rfl | ⟨h1, h2, h3, h4, h5, h6, h7⟩
  iterate 7
    · conv => whnf
      exact fin_int rfl
  · conv => whnf
    refine bsel_false h1 ?_
    conv => whnf
    refine bsel_false h2 ?_
    conv => whnf
    refine bsel_false h3 ?_
    conv => whnf
    refine bsel_false h6 ?_
    conv => whnf
    refine bsel_false h7 ?_
    conv => whnf
    refine bsel_false h4 ?_
    conv => whnf
    refine bsel_false h5 ?_
    conv => whnf
    exact fin_int (by simp_all [kidsN])
def zTest (t : Test) : Bool := t.kind == 0 && (t.no == false && (t.l.kind == 0 && (t.l.a == 0 && (t.l.b == 0 && (t.l.n == 0 && (t.r.kind == 0 && (t.r.a == 0 && (t.r.b == 0 && (t.r.n == 0 && true)))))))))
def clean : Plan → Bool
  | .mk kind n test cells a b keys agg col _ => (kind == 1 || n == 0) && ((kind == 2 || zTest test) && ((kind == 3 || cells.isEmpty) && ((kind == 4 || (a == 0 && b == 0)) && (kind == 7 || (keys.isEmpty && (agg == 0 && col == 0))))))
theorem l4Clean_r (hp : Okp pr) (p : Plan) : Ret pr 62 [p.enc] (.bool (clean p)) := by
  obtain ⟨kind, n, ⟨tk, tn, ⟨a1, a2, a3, a4⟩, ⟨b1, b2, b3, b4⟩⟩, cells, a, b, keys, agg, col, kids⟩ := p
  refine ret_of hp rfl rfl ?_
  rcases kind_cases kind with rfl | rfl | rfl | rfl | rfl | rfl | rfl | ⟨h1, h2, h3, h4, h5, h6, h7⟩
  iterate 7
    · iterate 12
        all_goals (try (conv => whnf))
        all_goals (first | (refine bsel_intro (fun hb => ?_) (fun hb => ?_)) | (refine ⟨_, _, eqS_test, rfl, ?_⟩) | skip)
      all_goals (try (conv => whnf))
      all_goals exact fin_bool (by simp_all [clean, zTest])
  · iterate 19
      all_goals (try (conv => whnf))
      all_goals (first | (refine bsel_false h1 ?_) | (refine bsel_false h2 ?_) | (refine bsel_false h3 ?_) | (refine bsel_false h4 ?_) | (refine bsel_false h7 ?_) | (refine bsel_intro (fun hb => ?_) (fun hb => ?_)) | (refine ⟨_, _, eqS_test, rfl, ?_⟩) | skip)
    all_goals (try (conv => whnf))
    all_goals exact fin_bool (by simp_all [clean, zTest])
end Go.Proofs.YtbghmemejbbhfaaGreat

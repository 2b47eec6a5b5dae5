/- The reference's SlimOnce. -/
import Derived.Test.YtbghmemejbbhfaaGreatPj
set_option linter.unusedVariables false
set_option linter.unusedSimpArgs false
namespace Go.Proofs.YtbghmemejbbhfaaGreat
open Go Go.Am
variable {pr : Prims} (hp : Okp pr)
set_option maxRecDepth 100000
def fit (p : Plan) : Bool := form 6 p && decide (many 6 p ≤ 10)
theorem l4Fit_r (hp : Okp pr) (p : Plan) (hsm : p.small) : Ret pr 20 [p.enc] (.bool (fit p)) := by
  have h1 := l4Form_r hp 6 p hsm (by omega)
  have h2 := l4Many_r hp 6 p hsm (by omega)
  obtain ⟨kind, n, test, cells, a, b, keys, agg, c, kids⟩ := p
  refine ret_of hp rfl rfl ?_
  iterate 5
    all_goals (try (conv => whnf))
    all_goals (first | (refine bsel_intro (fun hb => ?_) (fun hb => ?_)) | (refine ⟨_, h1 _, ?_⟩) | (refine ⟨_, h2 _, ?_⟩) | skip)
  all_goals exact fin_bool (by clear h1 h2 hsm; first | (simp_all [fit]; done) | (simp_all [fit]; omega))
mutual
def once : Plan → Bool
  | .mk kind _ _ _ _ _ _ _ _ kids =>
    if kind = 6 ∨ kind = 7 then true
    else if kind = 2 then ((onces kids)[0]?).getD false
    else if kind = 4 then ((onces kids)[0]?).getD false && ((onces kids)[1]?).getD false
    else false
def onces : List Plan → List Bool
  | [] => []
  | p :: ps => once p :: onces ps
end
theorem onces_eq (ps : List Plan) : onces ps = ps.map once := by
  induction ps with
  | nil => rfl
  | cons p ps ih => simp [onces, ih]
theorem once2 (n : Int) (test : Test) (cells : List Cell) (a b : Int) (keys : List Int) (agg c : Int) (q : Plan) : once (.mk 2 n test cells a b keys agg c [q]) = once q := by simp [once, onces]
theorem once4 (n : Int) (test : Test) (cells : List Cell) (a b : Int) (keys : List Int) (agg c : Int) (q r : Plan) : once (.mk 4 n test cells a b keys agg c [q, r]) = (once q && once r) := by simp [once, onces]
theorem form_kids {d : Nat} {p : Plan} (h : form (d + 1) p = true) : kidsN p.kind = p.kids.length ∧ clean p = true ∧ own p = true ∧ ∀ q ∈ p.kids, form d q = true := by
  simp only [form, Bool.and_eq_true, beq_iff_eq, List.all_eq_true] at h
  exact ⟨h.1, h.2.1, h.2.2.1, h.2.2.2⟩
theorem l10Once_r (hp : Okp pr) : ∀ (d : Nat) (p : Plan), form d p = true → Ret pr 21 [p.enc] (.bool (once p)) := by
  intro d
  induction d with
  | zero => intro p h; cases h
  | succ d ih =>
    intro p hf
    obtain ⟨hk, _, _, hks⟩ := form_kids hf
    obtain ⟨kind, n, test, cells, a, b, keys, agg, c, kids⟩ := p
    simp only [Plan.kind, Plan.kids] at hk hks
    refine ret_of hp rfl rfl ?_
    rcases kind_cases kind with rfl | rfl | rfl | rfl | rfl | rfl | rfl | ⟨h1, h2, h3, h4, h5, h6, h7⟩
    · iterate 3
        all_goals (try (conv => whnf))
        all_goals (first | (refine bsel_intro (fun hb => ?_) (fun hb => ?_)) | skip)
      all_goals exact fin_bool rfl
    · match kids, hk, hks with
      | [q], _, hks =>
        have hq := ih q (hks q (by simp))
        obtain ⟨kind', n', test', cells', a', b', keys', agg', c', kids'⟩ := q
        conv => whnf
        refine ⟨_, rfl, by omega, rfl, ?_⟩
        conv => whnf
        refine ⟨_, hq _, ?_⟩
        rw [once2]
        iterate 2
          all_goals (try (conv => whnf))
          all_goals (first | (refine bsel_intro (fun hb => ?_) (fun hb => ?_)) | skip)
        all_goals exact fin_bool hb.symm
      | [], hk, _ => simp [kidsN] at hk
      | _ :: _ :: _, hk, _ => simp [kidsN] at hk; omega
    · iterate 3
        all_goals (try (conv => whnf))
        all_goals (first | (refine bsel_intro (fun hb => ?_) (fun hb => ?_)) | skip)
      all_goals exact fin_bool rfl
    · match kids, hk, hks with
      | [q, q2], _, hks =>
        have hq := ih q (hks q (by simp))
        have hq2 := ih q2 (hks q2 (by simp))
        obtain ⟨kind', n', test', cells', a', b', keys', agg', c', kids'⟩ := q
        obtain ⟨kind2, n2, test2, cells2, a2, b2, keys2, agg2, c2, kids2⟩ := q2
        rw [once4]
        conv => whnf
        refine ⟨_, rfl, by omega, rfl, ?_⟩
        conv => whnf
        refine ⟨_, hq _, ?_⟩
        conv => whnf
        refine bsel_intro (fun g1 => ?_) (fun g1 => ?_)
        · conv => whnf
          refine ⟨_, rfl, by omega, rfl, ?_⟩
          conv => whnf
          refine ⟨_, hq2 _, ?_⟩
          iterate 2
            all_goals (try (conv => whnf))
            all_goals (first | (refine bsel_intro (fun hb => ?_) (fun hb => ?_)) | skip)
          all_goals exact fin_bool (by rw [g1, hb]; rfl)
        · conv => whnf
          exact fin_bool (by rw [g1]; rfl)
      | [], hk, _ => simp [kidsN] at hk
      | [_], hk, _ => simp [kidsN] at hk
      | _ :: _ :: _ :: _, hk, _ => simp [kidsN] at hk; omega
    iterate 3
      · iterate 3
          all_goals (try (conv => whnf))
          all_goals (first | (refine bsel_intro (fun hb => ?_) (fun hb => ?_)) | skip)
        all_goals exact fin_bool rfl
    · iterate 6
        all_goals (try (conv => whnf))
        all_goals (first | (refine bsel_false h6 ?_) | (refine bsel_false h7 ?_) | (refine bsel_false h2 ?_) | (refine bsel_false h4 ?_) | (refine bsel_intro (fun hb => ?_) (fun hb => ?_)) | skip)
      all_goals exact fin_bool (by simp_all [once])
def slimOnce (p : Plan) : Bool := fit p && once p
theorem sSlimOnce_r (hp : Okp pr) (p : Plan) (hsm : p.small) : Ret pr 7 [p.enc] (.bool (slimOnce p)) := by
  have h1 := l4Fit_r hp p hsm
  have h2 : fit p = true → Ret pr 21 [p.enc] (.bool (once p)) := fun h => l10Once_r hp 6 p (by simp only [fit, Bool.and_eq_true] at h; exact h.1)
  obtain ⟨kind, n, test, cells, a, b, keys, agg, c, kids⟩ := p
  refine ret_of hp rfl rfl ?_
  conv => whnf
  refine ⟨_, h1 _, ?_⟩
  conv => whnf
  refine bsel_intro (fun g1 => ?_) (fun g1 => ?_)
  · conv => whnf
    refine ⟨_, h2 g1 _, ?_⟩
    iterate 3
      all_goals (try (conv => whnf))
      all_goals (first | (refine bsel_intro (fun hb => ?_) (fun hb => ?_)) | skip)
    all_goals exact fin_bool (by clear h1 h2 hsm; simp_all [slimOnce])
  · conv => whnf
    exact fin_bool (by simp [slimOnce, g1])
end Go.Proofs.YtbghmemejbbhfaaGreat

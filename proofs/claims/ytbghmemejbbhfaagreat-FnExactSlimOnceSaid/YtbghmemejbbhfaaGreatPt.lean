/- The program's SlimOnce; the law's own functions. -/
import Derived.Test.YtbghmemejbbhfaaGreatPs
set_option linter.unusedVariables false
set_option linter.unusedSimpArgs false
namespace Go.Proofs.YtbghmemejbbhfaaGreat
open Go Go.Am
/-- Prims that have sizeOk among them. -/
structure Oks (pr : Prims) : Prop extends Okp pr where
  size : ∀ t : Plan, t.small → Ret pr 47 [t.enc] (.bool (sizeOkP t))
theorem oks1 : Oks pr1 := ⟨ok1, sizeOk_r⟩
variable {pr : Prims} (hp : Okp pr) (hs : Oks pr)
set_option maxRecDepth 100000
theorem writable_r (hs : Oks pr) (p : Plan) (hsm : p.small) : Ret pr 26 [p.enc] (.bool (fit p)) := by
  have h1 := hs.size p hsm
  have h2 := wideOf_r hs.toOkp w6 (by decide) _ p (Nat.le_refl _) hsm
  rw [← writable_fit]
  obtain ⟨kind, n, test, cells, a, b, keys, agg, c, kids⟩ := p
  refine ret_of hs.toOkp rfl rfl ?_
  conv => whnf
  refine ⟨_, h1 _, ?_⟩
  conv => whnf
  refine bsel_intro (fun g1 => ?_) (fun g1 => ?_)
  · conv => whnf
    refine ⟨_, h2.frozen rfl rfl rfl rfl, ?_⟩
    iterate 3
      all_goals (try (conv => whnf))
      all_goals (first | (refine bsel_intro (fun hb => ?_) (fun hb => ?_)) | skip)
    all_goals exact fin_bool (by rw [writableP, g1, Bool.true_and]; exact hb.symm)
  · conv => whnf
    exact fin_bool (by rw [writableP, g1]; rfl)
theorem kid_r (hp : Okp pr) (p q : Plan) (k : Nat) (hk : p.kids[k]? = some q) : Ret pr 51 [p.enc, i64 k] q.enc := by
  obtain ⟨kind, n, test, cells, a, b, keys, agg, c, kids⟩ := p
  have g : (Plan.encs kids)[((k : Nat) : Int).toNat]? = some q.enc := by
    rw [Int.toNat_natCast, encs_get]
    simp only [Plan.kids] at hk
    rw [hk]; rfl
  obtain ⟨kind', n', test', cells', a', b', keys', agg', c', kids'⟩ := q
  refine ret_of hp rfl rfl ?_
  conv => whnf
  refine ⟨_, g, by omega, rfl, ?_⟩
  conv => whnf
  exact ⟨_, _, rfl, rfl⟩
theorem once_r (hp : Okp pr) : ∀ (d : Nat) (p : Plan), form d p = true → Ret pr 27 [p.enc] (.bool (once p)) := by
  intro d
  induction d with
  | zero => intro p h; cases h
  | succ d ih =>
    intro p hf
    obtain ⟨hk, _, _, hks⟩ := form_kids hf
    have hkid := fun q k => kid_r hp p q k
    obtain ⟨kind, n, test, cells, a, b, keys, agg, c, kids⟩ := p
    simp only [Plan.kind, Plan.kids] at hk hks
    refine ret_of hp rfl rfl ?_
    rcases kind_cases kind with rfl | rfl | rfl | rfl | rfl | rfl | rfl | ⟨h1, h2, h3, h4, h5, h6, h7⟩
    · iterate 3
        all_goals (try (conv => whnf))
        all_goals (first | (refine bsel_intro (fun hb => ?_) (fun hb => ?_)) | skip)
      all_goals exact fin_bool rfl
    · match kids, hk, hks with
      | [q], _, hks =>
        have hq := ih q (hks q (by simp))
        have hk0 := hkid q 0 rfl
        obtain ⟨kind', n', test', cells', a', b', keys', agg', c', kids'⟩ := q
        rw [once2]
        conv => whnf
        refine ⟨_, hk0 _, ?_⟩
        conv => whnf
        refine ⟨_, hq _, ?_⟩
        iterate 2
          all_goals (try (conv => whnf))
          all_goals (first | (refine bsel_intro (fun hb => ?_) (fun hb => ?_)) | skip)
        all_goals exact fin_bool hb.symm
      | [], hk, _ => simp [kidsN] at hk
      | _ :: _ :: _, hk, _ => simp [kidsN] at hk; omega
    · iterate 3
        all_goals (try (conv => whnf))
        all_goals (first | (refine bsel_intro (fun hb => ?_) (fun hb => ?_)) | skip)
      all_goals exact fin_bool rfl
    · match kids, hk, hks with
      | [q, q2], _, hks =>
        have hq := ih q (hks q (by simp))
        have hq2 := ih q2 (hks q2 (by simp))
        have hk0 := hkid q 0 rfl
        have hk1 := hkid q2 1 rfl
        obtain ⟨kind', n', test', cells', a', b', keys', agg', c', kids'⟩ := q
        obtain ⟨kind2, n2, test2, cells2, a2, b2, keys2, agg2, c2, kids2⟩ := q2
        rw [once4]
        conv => whnf
        refine ⟨_, hk0 _, ?_⟩
        conv => whnf
        refine ⟨_, hq _, ?_⟩
        conv => whnf
        refine bsel_intro (fun g1 => ?_) (fun g1 => ?_)
        · conv => whnf
          refine ⟨_, hk1 _, ?_⟩
          conv => whnf
          refine ⟨_, hq2 _, ?_⟩
          iterate 2
            all_goals (try (conv => whnf))
            all_goals (first | (refine bsel_intro (fun hb => ?_) (fun hb => ?_)) | skip)
          all_goals exact fin_bool (by rw [g1, hb]; rfl)
        · conv => whnf
          exact fin_bool (by rw [g1]; rfl)
      | [], hk, _ => simp [kidsN] at hk
      | [_], hk, _ => simp [kidsN] at hk
      | _ :: _ :: _ :: _, hk, _ => simp [kidsN] at hk; omega
    iterate 3
      · iterate 3
          all_goals (try (conv => whnf))
          all_goals (first | (refine bsel_intro (fun hb => ?_) (fun hb => ?_)) | skip)
        all_goals exact fin_bool rfl
    · iterate 6
        all_goals (try (conv => whnf))
        all_goals (first | (refine bsel_false h6 ?_) | (refine bsel_false h7 ?_) | (refine bsel_false h2 ?_) | (refine bsel_false h4 ?_) | (refine bsel_intro (fun hb => ?_) (fun hb => ?_)) | skip)
      all_goals exact fin_bool (by simp_all [once])
theorem iSlimOnce_r (hs : Oks pr) (p : Plan) (hsm : p.small) : Ret pr 9 [p.enc] (.bool (slimOnce p)) := by
  have h1 := writable_r hs p hsm
  have h2 : fit p = true → Ret pr 27 [p.enc] (.bool (once p)) := fun h => once_r hs.toOkp 6 p (by simp only [fit, Bool.and_eq_true] at h; exact h.1)
  obtain ⟨kind, n, test, cells, a, b, keys, agg, c, kids⟩ := p
  refine ret_of hs.toOkp rfl rfl ?_
  conv => whnf
  refine ⟨_, h1 _, ?_⟩
  conv => whnf
  refine bsel_intro (fun g1 => ?_) (fun g1 => ?_)
  · conv => whnf
    refine ⟨_, h2 g1 _, ?_⟩
    iterate 3
      all_goals (try (conv => whnf))
      all_goals (first | (refine bsel_intro (fun hb => ?_) (fun hb => ?_)) | skip)
    all_goals exact fin_bool (by clear h1 h2 hsm; simp_all [slimOnce])
  · conv => whnf
    exact fin_bool (by simp [slimOnce, g1])
end Go.Proofs.YtbghmemejbbhfaaGreat

/- The program's SlimOnce; the law's own functions. -/
import Derived.Test.YtbghmemejbbhfaaGreatGC6
import Derived.Test.YtbghmemejbbhfaaGreatGC5
import Derived.Test.YtbghmemejbbhfaaGreatGC2
set_option linter.unusedVariables false
set_option linter.unusedSimpArgs false
/- The plain law: what can be written is what is right. -/
namespace Go.Proofs.YtbghmemejbbhfaaGreat
open Go Go.Am
mutual
def cnt : Plan → Nat
  | .mk _ _ _ _ _ _ _ _ _ kids => 1 + cnts kids
def cnts : List Plan → Nat
  | [] => 0
  | p :: ps => cnt p + cnts ps
end
mutual
def dep : Plan → Nat
  | .mk _ _ _ _ _ _ _ _ _ kids => 1 + deps kids
def deps : List Plan → Nat
  | [] => 0
  | p :: ps => max (dep p) (deps ps)
end
theorem deps_mem {q : Plan} : ∀ {ps : List Plan}, q ∈ ps → dep q ≤ deps ps
  | p :: ps, h => by
    simp only [deps]
    rcases List.mem_cons.1 h with rfl | h
    · omega
    · have := deps_mem h; omega
theorem deps_le {ps : List Plan} {d : Nat} (h : ∀ q ∈ ps, dep q ≤ d) : deps ps ≤ d := by
  induction ps with
  | nil => simp [deps]
  | cons p ps ih =>
    simp only [deps]
    have h1 := h p (by simp)
    have h2 := ih fun q hq => h q (by simp [hq])
    omega
theorem cnts_eq (ps : List Plan) : cnts ps = (ps.map cnt).sum := by
  induction ps with
  | nil => rfl
  | cons p ps ih => simp [cnts, ih]
theorem wks_stepS {N : Nat} (ih : ∀ t : Plan, SizeOf.sizeOf t ≤ N → ∀ deep m, m ≤ 10 → (deep + dep t ≤ 6 ∧ m + cnt t ≤ 10 → wk stepS deep t m m = .go (m + cnt t) (m + cnt t)) ∧ (¬ (deep + dep t ≤ 6 ∧ m + cnt t ≤ 10) → ∃ s, wk stepS deep t m m = .stop s)) :
    ∀ (l : List Plan), SizeOf.sizeOf l ≤ N + 1 → ∀ deep m, m ≤ 10 → (deep + deps l ≤ 6 ∨ l = []) ∧ m + cnts l ≤ 10 ∧ wks stepS deep l m m = .go (m + cnts l) (m + cnts l) ∨ (¬ (deep + deps l ≤ 6 ∧ m + cnts l ≤ 10) ∧ ∃ s, wks stepS deep l m m = .stop s) := by
  intro l
  induction l with
  | nil => intro _ deep m hm; exact .inl ⟨.inr rfl, by simp [cnts, hm], by simp [wks, cnts]⟩
  | cons p ps ihl =>
    intro hs deep m hm
    simp at hs
    obtain ⟨h1, h2⟩ := ih p (by omega) deep m hm
    by_cases hc : deep + dep p ≤ 6 ∧ m + cnt p ≤ 10
    · have hw := h1 hc
      rcases ihl (by omega) deep (m + cnt p) hc.2 with ⟨g1, g2, g3⟩ | ⟨g1, s, g3⟩
      · left
        refine ⟨.inl ?_, by simp only [cnts]; omega, ?_⟩
        · simp only [deps]
          rcases g1 with g1 | g1
          · omega
          · subst g1; simp only [deps]; omega
        · simp only [wks, hw, g3, cnts]; congr 1 <;> omega
      · right
        refine ⟨fun hh => g1 ⟨?_, ?_⟩, s, by simp only [wks, hw, g3]⟩
        · have := hh.1; simp only [deps] at this; omega
        · have := hh.2; simp only [cnts] at this; omega
    · obtain ⟨s, hw⟩ := h2 hc
      right
      refine ⟨fun hh => hc ⟨?_, ?_⟩, s, by simp only [wks, hw]⟩
      · have := hh.1; simp only [deps] at this; omega
      · have := hh.2; simp only [cnts] at this; omega
theorem wk_stepS : ∀ (N : Nat) (t : Plan), SizeOf.sizeOf t ≤ N → ∀ deep m, m ≤ 10 → (deep + dep t ≤ 6 ∧ m + cnt t ≤ 10 → wk stepS deep t m m = .go (m + cnt t) (m + cnt t)) ∧ (¬ (deep + dep t ≤ 6 ∧ m + cnt t ≤ 10) → ∃ s, wk stepS deep t m m = .stop s) := by
  intro N
  induction N with
  | zero => intro t h; cases t; simp at h
  | succ N ih =>
    intro t hs deep m hm
    obtain ⟨kind, n, test, cells, a, b, keys, agg, c, kids⟩ := t
    simp at hs
    have hk := wks_stepS ih kids (by omega) (deep + 1) (m + 1)
    simp only [wk, stepS, cnt, dep]
    by_cases h0 : 10 < m + 1 ∨ 6 ≤ deep
    · simp only [h0, decide_true, Bool.not_true]
      exact ⟨fun hh => by omega, fun _ => ⟨_, rfl⟩⟩
    · simp only [h0, decide_false, Bool.not_false, if_false]
      rcases hk (by omega) with ⟨g1, g2, g3⟩ | ⟨g1, s, g3⟩
      · refine ⟨fun _ => by rw [g3]; congr 1 <;> omega, fun hn => (hn ⟨?_, by omega⟩).elim⟩
        rcases g1 with g1 | g1
        · omega
        · subst g1; simp only [deps]; omega
      · exact ⟨fun hh => (g1 ⟨by omega, by omega⟩).elim, fun _ => ⟨s, g3⟩⟩
theorem sizeOkP_eq (t : Plan) : sizeOkP t = (decide (dep t ≤ 6) && decide (cnt t ≤ 10)) := by
  obtain ⟨h1, h2⟩ := wk_stepS _ t (Nat.le_refl _) 0 0 (by omega)
  unfold sizeOkP
  by_cases h : 0 + dep t ≤ 6 ∧ 0 + cnt t ≤ 10
  · rw [h1 h]
    simp only [Nat.zero_add] at h
    simp [h.1, h.2]
  · obtain ⟨s, hs⟩ := h2 h
    rw [hs]
    simp only [Nat.zero_add] at h
    simp only
    rw [Bool.eq_iff_iff]
    simp only [Bool.and_eq_true, decide_eq_true_eq, Bool.false_eq_true, false_iff]
    exact h
theorem many_cnt : ∀ (d : Nat) (p : Plan), dep p ≤ d + 1 → many d p = cnt p := by
  intro d
  induction d with
  | zero =>
    intro p h
    obtain ⟨kind, n, test, cells, a, b, keys, agg, c, kids⟩ := p
    cases kids with
    | nil => rfl
    | cons q qs =>
      obtain ⟨_, _, _, _, _, _, _, _, _, _⟩ := q
      simp only [dep, deps] at h
      omega
  | succ d ih =>
    intro p h
    obtain ⟨kind, n, test, cells, a, b, keys, agg, c, kids⟩ := p
    simp only [dep] at h
    simp only [many, Plan.kids, cnt, cnts_eq]
    congr 2
    exact List.map_congr_left fun q hq => ih q (by have := deps_mem hq; omega)
theorem form_dep : ∀ (d : Nat) (p : Plan), form d p = true → dep p ≤ d := by
  intro d
  induction d with
  | zero => intro p h; cases h
  | succ d ih =>
    intro p h
    obtain ⟨_, _, _, hk⟩ := form_kids h
    obtain ⟨kind, n, test, cells, a, b, keys, agg, c, kids⟩ := p
    simp only [dep]
    have : deps kids ≤ d := deps_le (d := d) fun q hq => ih q (hk q hq)
    omega
def w6 : List Int := [6, 6, 6]
theorem kf6_ne (w : Int) : kf6 w = 6 ∧ w ≠ -1 ∨ kf6 w = -1 ∧ w = -1 := by
  unfold kf6
  by_cases h : w = -1
  · right; subst h; exact ⟨rfl, rfl⟩
  · left; exact ⟨by simp [h], h⟩
theorem widesP_form {d : Nat} : ∀ (l : List Plan), (∀ q ∈ l, wideP kf6 w6 q = if form d q then 6 else -1) → widesP kf6 w6 l = if l.all (form d) then some (List.replicate l.length 6) else none
  | [], _ => rfl
  | p :: ps, h => by
    have h1 := h p (by simp)
    have h2 := widesP_form ps fun q hq => h q (by simp [hq])
    simp only [widesP, h1, h2, List.all_cons]
    by_cases h3 : form d p = true
    · by_cases h4 : ps.all (form d) = true
      · simp only [h3, h4]; rfl
      · simp only [h3, h4]; rfl
    · simp only [h3]; rfl
theorem partWide_own (p : Plan) (hs : shaped p = true) (hk : p.kind ≠ 1) : (partWide p (List.replicate p.kids.length 6) ≠ -1) ↔ own p = true := by
  obtain ⟨kind, n, test, cells, a, b, keys, agg, c, kids⟩ := p
  simp only [shaped, Plan.kind, Plan.kids, Bool.and_eq_true, beq_iff_eq] at hs hk ⊢
  obtain ⟨hlen, _⟩ := hs
  have hn0 : kids.length ≠ 0 → nth (List.replicate kids.length 6) 0 = 6 := fun h => by simp [nth, List.getElem?_replicate, Nat.pos_of_ne_zero h]
  have hn1 : kids.length = 2 → nth (List.replicate kids.length 6) 1 = 6 := fun h => by simp [nth, h]
  rcases kind_cases kind with rfl | rfl | rfl | rfl | rfl | rfl | rfl | ⟨h1, h2, h3, h4, h5, h6, h7⟩
  · exact (hk rfl).elim
  · have : kids.length = 1 := by simp [kidsN] at hlen; omega
    simp only [partWide, own, hn0 (by omega)]
    cases testOk test 6 <;> simp
  · have : kids.length = 1 := by simp [kidsN] at hlen; omega
    simp only [partWide, own, hn0 (by omega), cellsOk]
    by_cases ha : (cells.all fun c => cellOk c 6) = true
    · by_cases hb : 1 ≤ cells.length ∧ cells.length ≤ 6
      · simp [ha, hb.1, hb.2]
        try omega
      · have : ¬ (1 ≤ cells.length) ∨ ¬ cells.length ≤ 6 := by omega
        rcases this with h | h <;> simp [ha, h]
    · simp [ha]
  · have : kids.length = 2 := by simp [kidsN] at hlen; omega
    simp only [partWide, own, hn0 (by omega), hn1 this]
    have hw : IntKind.i64.wrap ((6 : Int) + 6) = 12 := by decide
    rw [hw]
    cases (col a 6 && col b 6) <;> simp
  · have : kids.length = 2 := by simp [kidsN] at hlen; omega
    simp only [partWide, own, hn0 (by omega), hn1 this]
    simp
  · have : kids.length = 1 := by simp [kidsN] at hlen; omega
    simp only [partWide, own, hn0 (by omega)]
    simp
  · have : kids.length = 1 := by simp [kidsN] at hlen; omega
    simp only [partWide, own, hn0 (by omega)]
    by_cases h1 : (keysOk keys 6 && col c 6) = true
    · by_cases h2 : 0 ≤ agg
      · by_cases h3 : agg ≤ 3
        · simp only [Bool.and_eq_true] at h1
          simp [h1.1, h1.2, h2, h3]
          omega
        · simp [h3]
      · simp [h2]
    · have h1' : (keysOk keys 6 && col c 6) = false := by simpa using h1
      by_cases h4 : keysOk keys 6 = true
      · have h5 : col c 6 = false := by rw [h4] at h1'; simpa using h1'
        simp [h4, h5]
      · simp [h4]
  · exfalso
    simp only [beq_eq_false_iff_ne, ne_eq] at *
    simp [kidsN, h1, h2, h3, h4, h5, h6, h7] at hlen
    try omega
theorem wideP_form : ∀ (d : Nat) (p : Plan), dep p ≤ d → wideP kf6 w6 p = if form d p then 6 else -1 := by
  intro d
  induction d with
  | zero =>
    intro p h
    obtain ⟨kind, n, test, cells, a, b, keys, agg, c, kids⟩ := p
    simp only [dep] at h
    omega
  | succ d ih =>
    intro p h
    have hpo := partWide_own p
    obtain ⟨kind, n, test, cells, a, b, keys, agg, c, kids⟩ := p
    simp only [dep] at h
    have hws := widesP_form (d := d) kids fun q hq => ih q (by have := deps_mem hq; omega)
    have hf : form (d + 1) (.mk kind n test cells a b keys agg c kids) = (shaped (.mk kind n test cells a b keys agg c kids) && (own (.mk kind n test cells a b keys agg c kids) && kids.all (form d))) := by
      simp only [form, shaped, Bool.and_assoc, Plan.kids]
    rw [hf, wideP]
    by_cases hs : shaped (.mk kind n test cells a b keys agg c kids) = true
    · rw [if_pos hs, hs, Bool.true_and]
      by_cases hk : kind = 1
      · subst hk
        have hkn : kids = [] := by
          simp only [shaped, Plan.kind, Plan.kids, Bool.and_eq_true, beq_iff_eq] at hs
          have := hs.1
          simp [kidsN] at this
          exact List.length_eq_zero_iff.1 (by omega)
        subst hkn
        have hown : own (.mk 1 n test cells a b keys agg c []) = (decide (0 ≤ n) && decide (n < 3)) := rfl
        have hpw : partWide (.mk 1 n test cells a b keys agg c []) w6 = if decide (0 ≤ n) && decide (n < 3) then nth w6 n.toNat else -1 := rfl
        rw [if_pos rfl, hown, hpw]
        by_cases hn : (decide (0 ≤ n) && decide (n < 3)) = true
        · rw [if_pos hn, hn]
          simp only [Bool.and_eq_true, decide_eq_true_eq] at hn
          have h3 : n = 0 ∨ n = 1 ∨ n = 2 := by omega
          rcases h3 with rfl | rfl | rfl <;> rfl
        · have hn' : (decide (0 ≤ n) && decide (n < 3)) = false := by simpa using hn
          rw [hn']
          rfl
      · rw [if_neg hk, hws]
        have hpo' := hpo hs hk
        simp only [Plan.kids] at hpo'
        by_cases ha : kids.all (form d) = true
        · rw [ha]
          have hne : kids.length ≠ 0 := by
            intro h0
            simp only [shaped, Plan.kind, Plan.kids, Bool.and_eq_true, beq_iff_eq] at hs
            have := hs.1
            rw [h0] at this
            rcases kind_cases kind with rfl | rfl | rfl | rfl | rfl | rfl | rfl | ⟨h1, h2, h3, h4, h5, h6, h7⟩ <;> first
              | exact hk rfl
              | (simp [kidsN] at this; done)
              | (simp only [beq_eq_false_iff_ne, ne_eq] at *; simp [kidsN, h1, h2, h3, h4, h5, h6, h7] at this)
          have hemp : (List.replicate kids.length (6 : Int)).isEmpty = false := by
            cases hq : kids.length with
            | zero => exact (hne hq).elim
            | succ k => rfl
          simp only [if_true, hemp]
          rcases kf6_ne (partWide (.mk kind n test cells a b keys agg c kids) (List.replicate kids.length 6)) with ⟨g1, g2⟩ | ⟨g1, g2⟩
          · rw [hpo'.1 g2]; simpa using g1
          · have : own (.mk kind n test cells a b keys agg c kids) = false := by
              cases ho : own (.mk kind n test cells a b keys agg c kids) with
              | false => rfl
              | true => exact (hpo'.2 ho g2).elim
            rw [this]; simpa using g1
        · have ha' : kids.all (form d) = false := by simpa using ha
          rw [ha']
          simp
    · have hs' : shaped (.mk kind n test cells a b keys agg c kids) = false := by simpa using hs
      rw [if_neg hs, hs']
      rfl
def writableP (p : Plan) : Bool := sizeOkP p && (wideP kf6 w6 p != -1)
/-- What can be written is what is right. -/
theorem writable_fit (p : Plan) : writableP p = fit p := by
  unfold writableP fit
  rw [sizeOkP_eq]
  by_cases hd : dep p ≤ 6
  · have h1 := wideP_form 6 p hd
    have h2 := many_cnt 6 p (by omega)
    rw [h1, h2]
    cases form 6 p <;> simp [hd]
  · have : form 6 p = false := by
      cases hf : form 6 p with
      | false => rfl
      | true => exact (hd (form_dep 6 p hf)).elim
    rw [this]
    simp [hd]
end Go.Proofs.YtbghmemejbbhfaaGreat
/- The program's SlimOnce; the law's own functions. -/
namespace Go.Proofs.YtbghmemejbbhfaaGreat
open Go Go.Am
/-- Prims that have sizeOk among them. -/
structure Oks (pr : Prims) : Prop extends Okp pr where
  size : ∀ t : Plan, t.small → Ret pr 47 [t.enc] (.bool (sizeOkP t))
theorem oks1 : Oks pr1 := ⟨ok1, sizeOk_r⟩
variable {pr : Prims} (hp : Okp pr) (hs : Oks pr)
set_option maxRecDepth 100000
theorem writable_r (hs : Oks pr) (p : Plan) (hsm : p.small) : Ret pr 26 [p.enc] (.bool (fit p)) := by
  have h1 := hs.size p hsm
  have h2 := wideOf_r hs.toOkp w6 (by decide) _ p (Nat.le_refl _) hsm
  rw [← writable_fit]
  obtain ⟨kind, n, test, cells, a, b, keys, agg, c, kids⟩ := p
  refine ret_of hs.toOkp rfl rfl ?_
  conv => whnf
  refine ⟨_, h1 _, ?_⟩
  conv => whnf
  refine bsel_intro (fun g1 => ?_) (fun g1 => ?_)
  · conv => whnf
    refine ⟨_, h2.frozen rfl rfl rfl rfl, ?_⟩
    iterate 3
      all_goals (try (conv => whnf))
      all_goals (first | (refine bsel_intro (fun hb => ?_) (fun hb => ?_)) | skip)
    all_goals exact fin_bool (by rw [writableP, g1, Bool.true_and]; exact hb.symm)
  · conv => whnf
    exact fin_bool (by rw [writableP, g1]; rfl)
theorem kid_r (hp : Okp pr) (p q : Plan) (k : Nat) (hk : p.kids[k]? = some q) : Ret pr 51 [p.enc, i64 k] q.enc := by
  obtain ⟨kind, n, test, cells, a, b, keys, agg, c, kids⟩ := p
  have g : (Plan.encs kids)[((k : Nat) : Int).toNat]? = some q.enc := by
    rw [Int.toNat_natCast, encs_get]
    simp only [Plan.kids] at hk
    rw [hk]; rfl
  obtain ⟨kind', n', test', cells', a', b', keys', agg', c', kids'⟩ := q
  refine ret_of hp rfl rfl ?_
  conv => whnf
  refine ⟨_, g, by omega, rfl, ?_⟩
  conv => whnf
  exact ⟨_, _, rfl, rfl⟩
theorem once_r (hp : Okp pr) : ∀ (d : Nat) (p : Plan), okF d p = true → Ret pr 27 [p.enc] (.bool (once p)) := by
  intro d
  induction d with
  | zero => intro p h; cases h
  | succ d ih =>
    intro p hf
    obtain ⟨hk, hks⟩ := okF_kids hf
    have hkid := fun q k => kid_r hp p q k
    obtain ⟨kind, n, test, cells, a, b, keys, agg, c, kids⟩ := p
    simp only [Plan.kind, Plan.kids] at hk hks
    refine ret_of hp rfl rfl ?_
    rcases kind_cases kind with rfl | rfl | rfl | rfl | rfl | rfl | rfl | ⟨h1, h2, h3, h4, h5, h6, h7⟩
    · iterate 3
        all_goals (try (conv => whnf))
        all_goals (first | (refine bsel_intro (fun hb => ?_) (fun hb => ?_)) | skip)
      all_goals exact fin_bool rfl
    · match kids, hk, hks with
      | [q], _, hks =>
        have hq := ih q (hks q (by simp))
        have hk0 := hkid q 0 rfl
        obtain ⟨kind', n', test', cells', a', b', keys', agg', c', kids'⟩ := q
        rw [once2]
        conv => whnf
        refine ⟨_, hk0 _, ?_⟩
        conv => whnf
        refine ⟨_, hq _, ?_⟩
        iterate 2
          all_goals (try (conv => whnf))
          all_goals (first | (refine bsel_intro (fun hb => ?_) (fun hb => ?_)) | skip)
        all_goals exact fin_bool hb.symm
      | [], hk, _ => simp [kidsN] at hk
      | _ :: _ :: _, hk, _ => simp [kidsN] at hk; omega
    · iterate 3
        all_goals (try (conv => whnf))
        all_goals (first | (refine bsel_intro (fun hb => ?_) (fun hb => ?_)) | skip)
      all_goals exact fin_bool rfl
    · match kids, hk, hks with
      | [q, q2], _, hks =>
        have hq := ih q (hks q (by simp))
        have hq2 := ih q2 (hks q2 (by simp))
        have hk0 := hkid q 0 rfl
        have hk1 := hkid q2 1 rfl
        obtain ⟨kind', n', test', cells', a', b', keys', agg', c', kids'⟩ := q
        obtain ⟨kind2, n2, test2, cells2, a2, b2, keys2, agg2, c2, kids2⟩ := q2
        rw [once4]
        conv => whnf
        refine ⟨_, hk0 _, ?_⟩
        conv => whnf
        refine ⟨_, hq _, ?_⟩
        conv => whnf
        refine bsel_intro (fun g1 => ?_) (fun g1 => ?_)
        · conv => whnf
          refine ⟨_, hk1 _, ?_⟩
          conv => whnf
          refine ⟨_, hq2 _, ?_⟩
          iterate 2
            all_goals (try (conv => whnf))
            all_goals (first | (refine bsel_intro (fun hb => ?_) (fun hb => ?_)) | skip)
          all_goals exact fin_bool (by rw [g1, hb]; rfl)
        · conv => whnf
          exact fin_bool (by rw [g1]; rfl)
      | [], hk, _ => simp [kidsN] at hk
      | [_], hk, _ => simp [kidsN] at hk
      | _ :: _ :: _ :: _, hk, _ => simp [kidsN] at hk; omega
    iterate 3
      · iterate 3
          all_goals (try (conv => whnf))
          all_goals (first | (refine bsel_intro (fun hb => ?_) (fun hb => ?_)) | skip)
        all_goals exact fin_bool rfl
    · iterate 6
        all_goals (try (conv => whnf))
        all_goals (first | (refine bsel_false h6 ?_) | (refine bsel_false h7 ?_) | (refine bsel_false h2 ?_) | (refine bsel_false h4 ?_) | (refine bsel_intro (fun hb => ?_) (fun hb => ?_)) | skip)
      all_goals exact fin_bool (by simp_all [once])
theorem iSlimOnce_r (hs : Oks pr) (p : Plan) (hsm : p.small) : Ret pr 9 [p.enc] (.bool (slimOnce p)) := by
  have h1 := writable_r hs p hsm
  have h2 : fit p = true → Ret pr 27 [p.enc] (.bool (once p)) := fun h => once_r hs.toOkp 6 p (okF_of_form <| by simp only [fit, Bool.and_eq_true] at h; exact h.1)
  obtain ⟨kind, n, test, cells, a, b, keys, agg, c, kids⟩ := p
  refine ret_of hs.toOkp rfl rfl ?_
  conv => whnf
  refine ⟨_, h1 _, ?_⟩
  conv => whnf
  refine bsel_intro (fun g1 => ?_) (fun g1 => ?_)
  · conv => whnf
    refine ⟨_, h2 g1 _, ?_⟩
    iterate 3
      all_goals (try (conv => whnf))
      all_goals (first | (refine bsel_intro (fun hb => ?_) (fun hb => ?_)) | skip)
    all_goals exact fin_bool (by clear h1 h2 hsm; simp_all [slimOnce])
  · conv => whnf
    exact fin_bool (by simp [slimOnce, g1])
end Go.Proofs.YtbghmemejbbhfaaGreat

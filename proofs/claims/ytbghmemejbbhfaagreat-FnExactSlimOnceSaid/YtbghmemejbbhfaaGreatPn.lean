/- Equality of lists and plans. -/
import Derived.Test.YtbghmemejbbhfaaGreatPm
set_option linter.unusedVariables false
set_option linter.unusedSimpArgs false
namespace Go.Proofs.YtbghmemejbbhfaaGreat
open Go Go.Am
def listEq {α β : Type} (f : α → β → Bool) : List α → List β → Bool
  | [], [] => true
  | a :: us, b :: vs => f a b && listEq f us vs
  | _, _ => false
theorem listEq_len {α β : Type} {f : α → β → Bool} : ∀ {us : List α} {vs : List β}, listEq f us vs = true → us.length = vs.length
  | [], [], _ => rfl
  | a :: us, b :: vs, h => by
    simp only [listEq, Bool.and_eq_true] at h
    simp [listEq_len h.2]
  | [], _ :: _, h => by cases h
  | _ :: _, [], h => by cases h
theorem listEq_ne {α β : Type} {f : α → β → Bool} {us : List α} {vs : List β} (h : us.length ≠ vs.length) : listEq f us vs = false := by
  cases hq : listEq f us vs with
  | false => rfl
  | true => exact absurd (listEq_len hq) h
theorem listEq_step {α β : Type} {f : α → β → Bool} {us : List α} {vs : List β} {j : Nat} (ha : j < us.length) (hb : j < vs.length) : listEq f (us.drop j) (vs.drop j) = (f us[j] vs[j] && listEq f (us.drop (j + 1)) (vs.drop (j + 1))) := by
  rw [List.drop_eq_getElem_cons ha, List.drop_eq_getElem_cons hb]
  rfl
theorem listEq_end {α β : Type} {f : α → β → Bool} {us : List α} {vs : List β} (h : us.length = vs.length) : listEq f (us.drop us.length) (vs.drop us.length) = true := by
  rw [List.drop_length, h, List.drop_length]
  rfl
variable {pr : Prims} (hp : Okp pr)
set_option maxRecDepth 100000
theorem eqInts_r (hp : Okp pr) (xs ys : List Int) (hl : xs.length ≤ 1048576) : Ret pr 80 [.sl (xs.map i64), .sl (ys.map i64)] (.bool (listEq (· == ·) xs ys)) := by
  refine ret_of hp rfl rfl ?_
  conv => whnf
  refine bsel_intro (fun h0 => ?_) (fun h0 => ?_)
  · conv => whnf
    exact fin_bool (listEq_ne (by simp at h0; omega)).symm
  have hlen : xs.length = ys.length := by simp at h0; omega
  conv => whnf
  refine loop_rule (fun m st => ∃ j : Nat, j + m = xs.length ∧ st.tm 0 = .sl (xs.map i64) ∧ st.tm 1 = .sl (ys.map i64) ∧ st.tm 12 = i64 ((xs.map i64).length : Nat) ∧ st.tm 13 = i64 (j : Nat) ∧ st.hp = [] ∧ listEq (· == ·) xs ys = listEq (· == ·) (xs.drop j) (ys.drop j)) (fun m st hI => ?_) (xs.length) _ ⟨0, by simp, (by first | kernel_rfl | rfl | simp), (by first | kernel_rfl | rfl | simp), (by first | kernel_rfl | rfl | simp), (by first | kernel_rfl | rfl | simp), (by first | kernel_rfl | rfl | simp), (by first | rfl | simp)⟩
  obtain ⟨j, hj, e0, e1, e12, e13, hh, hall⟩ := hI
  obtain ⟨tm, hq⟩ := st
  simp only at e0 e1 e12 e13 hh
  subst hh
  rw [show tm = upd (upd (upd (upd tm 0 (.sl (xs.map i64))) 1 (.sl (ys.map i64))) 12 (i64 ((xs.map i64).length : Nat))) 13 (i64 (j : Nat)) by rw [upd_id e0, upd_id e1, upd_id e12, upd_id e13]]
  clear e0 e1 e12 e13
  conv => whnf
  refine bsel_intro (fun h1 => ?_) (fun h1 => ?_)
  · have hjl : j < xs.length := by simpa using h1
    rw [listEq_step hjl (by omega)] at hall
    conv => whnf
    refine ⟨i64 xs[j], by simp [hjl], by omega, rfl, ?_⟩
    conv => whnf
    refine ⟨i64 ys[j], by simp [show j < ys.length by omega], by omega, rfl, ?_⟩
    conv => whnf
    refine bsel_intro (fun h2 => ?_) (fun h2 => ?_)
    · have h3 : (xs[j] == ys[j]) = false := by simpa using h2
      conv => whnf
      exact fin_bool (by rw [hall, h3]; rfl)
    · have h3 : (xs[j] == ys[j]) = true := by simpa using h2
      conv => whnf
      exact ⟨m - 1, by omega, j + 1, by omega, rfl, rfl, rfl, nat_step j (by omega), rfl, by rw [hall, h3]; rfl⟩
  · have hjl : j = xs.length := by have : ¬ j < xs.length := by simpa using h1
                                   omega
    subst hjl
    rw [listEq_end hlen] at hall
    conv => whnf
    exact fin_bool hall.symm
def cellEq (c d : Cell) : Bool := c.kind == d.kind && (c.a == d.a && (c.b == d.b && (c.n == d.n && true)))
theorem eqCells_r (hp : Okp pr) (xs ys : List Cell) (hl : xs.length ≤ 1048576) : Ret pr 79 [.sl (xs.map Cell.enc), .sl (ys.map Cell.enc)] (.bool (listEq cellEq xs ys)) := by
  refine ret_of hp rfl rfl ?_
  conv => whnf
  refine bsel_intro (fun h0 => ?_) (fun h0 => ?_)
  · conv => whnf
    exact fin_bool (listEq_ne (by simp at h0; omega)).symm
  have hlen : xs.length = ys.length := by simp at h0; omega
  conv => whnf
  refine loop_rule (fun m st => ∃ j : Nat, j + m = xs.length ∧ st.tm 0 = .sl (xs.map Cell.enc) ∧ st.tm 1 = .sl (ys.map Cell.enc) ∧ st.tm 12 = i64 ((xs.map Cell.enc).length : Nat) ∧ st.tm 13 = i64 (j : Nat) ∧ st.hp = [] ∧ listEq cellEq xs ys = listEq cellEq (xs.drop j) (ys.drop j)) (fun m st hI => ?_) (xs.length) _ ⟨0, by simp, (by first | kernel_rfl | rfl | simp), (by first | kernel_rfl | rfl | simp), (by first | kernel_rfl | rfl | simp), (by first | kernel_rfl | rfl | simp), (by first | kernel_rfl | rfl | simp), (by first | rfl | simp)⟩
  obtain ⟨j, hj, e0, e1, e12, e13, hh, hall⟩ := hI
  obtain ⟨tm, hq⟩ := st
  simp only at e0 e1 e12 e13 hh
  subst hh
  rw [show tm = upd (upd (upd (upd tm 0 (.sl (xs.map Cell.enc))) 1 (.sl (ys.map Cell.enc))) 12 (i64 ((xs.map Cell.enc).length : Nat))) 13 (i64 (j : Nat)) by rw [upd_id e0, upd_id e1, upd_id e12, upd_id e13]]
  clear e0 e1 e12 e13
  conv => whnf
  refine bsel_intro (fun h1 => ?_) (fun h1 => ?_)
  · have hjl : j < xs.length := by simpa using h1
    rw [listEq_step hjl (by omega)] at hall
    conv => whnf
    refine ⟨(xs[j]).enc, by simp [hjl], by omega, rfl, ?_⟩
    conv => whnf
    refine ⟨(ys[j]).enc, by simp [show j < ys.length by omega], by omega, rfl, ?_⟩
    conv => whnf
    refine ⟨_, cellEq xs[j] ys[j], eqS_cell, rfl, ?_⟩
    refine bsel_intro (fun h2 => ?_) (fun h2 => ?_)
    · conv => whnf
      exact ⟨m - 1, by omega, j + 1, by omega, rfl, rfl, rfl, nat_step j (by omega), rfl, by rw [hall, h2]; rfl⟩
    · conv => whnf
      exact fin_bool (by rw [hall, h2]; rfl)
  · have hjl : j = xs.length := by have : ¬ j < xs.length := by simpa using h1
                                   omega
    subst hjl
    rw [listEq_end hlen] at hall
    conv => whnf
    exact fin_bool hall.symm
def testEq (s t : Test) : Bool := s.kind == t.kind && (s.no == t.no && (s.l.kind == t.l.kind && (s.l.a == t.l.a && (s.l.b == t.l.b && (s.l.n == t.l.n && (s.r.kind == t.r.kind && (s.r.a == t.r.a && (s.r.b == t.r.b && (s.r.n == t.r.n && true)))))))))
mutual
def planEq : Plan → Plan → Bool
  | .mk kind n test cells a b keys agg c kids, q => (kind == q.kind && (n == q.n && (testEq test q.test && (a == q.a && (b == q.b && (agg == q.agg && c == q.col)))))) && (listEq cellEq cells q.cells && (listEq (· == ·) keys q.keys && planEqs kids q.kids))
def planEqs : List Plan → List Plan → Bool
  | [], [] => true
  | p :: ps, q :: qs => planEq p q && planEqs ps qs
  | _, _ => false
end
theorem planEqs_eq : ∀ (ps qs : List Plan), planEqs ps qs = listEq planEq ps qs
  | [], [] => rfl
  | p :: ps, q :: qs => by simp only [planEqs, listEq, planEqs_eq ps qs]
  | [], _ :: _ => rfl
  | _ :: _, [] => rfl
def sameF : AVal := .func (.func 73) [] []
theorem equalFunc_r (hp : Okp pr) (xs ys : List Plan) (hl : xs.length ≤ 1048576) (ih : ∀ p ∈ xs, ∀ q, Ret pr 73 [p.enc, q.enc] (.bool (planEq p q))) :
    Ret pr 81 [.sl (Plan.encs xs), .sl (Plan.encs ys), sameF] (.bool (planEqs xs ys)) := by
  rw [planEqs_eq]
  have hx := encs_len xs
  have hy := encs_len ys
  refine ret_of hp rfl rfl ?_
  conv => whnf
  refine bsel_intro (fun h0 => ?_) (fun h0 => ?_)
  · conv => whnf
    exact fin_bool (listEq_ne (by simp at h0; omega)).symm
  have hlen : xs.length = ys.length := by simp at h0; omega
  conv => whnf
  refine loop_ruley true (fun m st => ∃ j : Nat, j + m = xs.length ∧ st.tm 0 = .sl (Plan.encs xs) ∧ st.tm 1 = .sl (Plan.encs ys) ∧ st.tm 2 = sameF ∧ st.tm 15 = .sl (Plan.encs xs) ∧ st.tm 16 = i64 ((Plan.encs xs).length : Nat) ∧ st.tm 17 = i64 (j : Nat) ∧ listEq planEq xs ys = listEq planEq (xs.drop j) (ys.drop j)) (fun m st hI => ?_) xs.length _ ⟨0, by simp, rfl, rfl, rfl, rfl, rfl, rfl, rfl⟩
  obtain ⟨j, hj, e0, e1, e2, e15, e16, e17, hall⟩ := hI
  obtain ⟨tm, hq⟩ := st
  simp only at e0 e1 e2 e15 e16 e17
  rw [show tm = upd (upd (upd (upd (upd (upd tm 0 (.sl (Plan.encs xs))) 1 (.sl (Plan.encs ys))) 2 sameF) 15 (.sl (Plan.encs xs))) 16 (i64 ((Plan.encs xs).length : Nat))) 17 (i64 (j : Nat)) by rw [upd_id e0, upd_id e1, upd_id e2, upd_id e15, upd_id e16, upd_id e17]]
  clear e0 e1 e2 e15 e16 e17
  conv => whnf
  refine bsel_intro (fun h1 => ?_) (fun h1 => ?_)
  · have hjl : j < xs.length := by have : j < (Plan.encs xs).length := by simpa using h1
                                   omega
    have hjm : j < ys.length := by omega
    rw [listEq_step hjl hjm] at hall
    have hih := ih xs[j] (List.getElem_mem hjl) ys[j]
    have g1 : (Plan.encs xs)[((j : Nat) : Int).toNat]? = some xs[j].enc := by rw [Int.toNat_natCast, encs_get, List.getElem?_eq_getElem hjl]; rfl
    have g2 : (Plan.encs ys)[((j : Nat) : Int).toNat]? = some ys[j].enc := by rw [Int.toNat_natCast, encs_get, List.getElem?_eq_getElem hjm]; rfl
    generalize xs[j] = p at hih hall g1
    generalize ys[j] = q at hih hall g2
    obtain ⟨kind, n, test, cells, a, b, keys, agg, c, kids⟩ := p
    obtain ⟨kind', n', test', cells', a', b', keys', agg', c', kids'⟩ := q
    conv => whnf
    refine ⟨_, g1, by omega, rfl, ?_⟩
    conv => whnf
    intro k1 q1 hk1 hq1
    conv => whnf
    refine ⟨_, get_new hk1 hq1, rfl, ?_⟩
    conv => whnf
    intro q2 hq2
    conv => whnf
    refine ⟨_, g2, by omega, rfl, ?_⟩
    conv => whnf
    intro k3 q3 hk3 hq3
    conv => whnf
    refine ⟨_, get_new hk3 hq3, rfl, ?_⟩
    conv => whnf
    intro q4 hq4
    have n13 : k3 ≠ k1 := by
      have a1 := get_lt (get_same hq2 (get_new hk1 hq1))
      omega
    conv => whnf
    refine ⟨_, get_ne hq4 (get_old hq3 (get_same hq2 (get_new hk1 hq1))) n13, rfl, ?_⟩
    conv => whnf
    refine ⟨_, get_same hq4 (get_new hk3 hq3), rfl, ?_⟩
    conv => whnf
    refine ⟨_, hih _, ?_⟩
    conv => whnf
    refine bsel_intro (fun h2 => ?_) (fun h2 => ?_)
    · conv => whnf
      exact ⟨m - 1, by omega, j + 1, by omega, rfl, rfl, rfl, rfl, rfl, nat_step j (by omega), by rw [hall, h2]; rfl⟩
    · conv => whnf
      exact fin_bool (by rw [hall, h2]; rfl)
  · have hjl : j = xs.length := by have : ¬ j < (Plan.encs xs).length := by simpa using h1
                                   omega
    subst hjl
    rw [listEq_end hlen] at hall
    conv => whnf
    exact fin_bool hall.symm
theorem planSame_r' (hp : Okp pr) : ∀ (N : Nat) (p : Plan), SizeOf.sizeOf p ≤ N → p.small → ∀ q, Ret pr 73 [p.enc, q.enc] (.bool (planEq p q)) := by
  intro N
  induction N with
  | zero => intro p h; exfalso; cases p; simp at h
  | succ N ih =>
    intro p hs hsm q
    obtain ⟨kind, n, test, cells, a, b, keys, agg, c, kids⟩ := p
    obtain ⟨kind', n', test', cells', a', b', keys', agg', c', kids'⟩ := q
    obtain ⟨hsc, hsk, hskids, hsks⟩ := small_split hsm
    have hc := eqCells_r hp cells cells' hsc
    have hk := eqInts_r hp keys keys' hsk
    have hf := equalFunc_r hp kids kids' hskids fun p hpm q => ih p (by have := List.sizeOf_lt_of_mem hpm; simp at hs; omega) (hsks p hpm) q
    refine ret_of hp rfl rfl ?_
    iterate 22
      all_goals (try (conv => whnf))
      all_goals (first | (refine bsel_intro (fun hb => ?_) (fun hb => ?_)) | (refine ⟨_, testEq test test', eqS_test, rfl, ?_⟩) | (refine ⟨_, hc _, ?_⟩) | (refine ⟨_, hk _, ?_⟩) | (refine ⟨_, hf _, ?_⟩) | skip)
    all_goals exact fin_bool (by clear hc hk hf ih hs hsm hsks hsc hsk hskids; simp_all [planEq, Plan.kind, Plan.n, Plan.test, Plan.cells, Plan.a, Plan.b, Plan.keys, Plan.agg, Plan.col, Plan.kids])
theorem planSame_r (hp : Okp pr) (p q : Plan) (hsm : p.small) : Ret pr 73 [p.enc, q.enc] (.bool (planEq p q)) := planSame_r' hp _ p (Nat.le_refl _) hsm q
end Go.Proofs.YtbghmemejbbhfaaGreat

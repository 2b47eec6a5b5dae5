/- What Slim comes to, without program. -/
import Derived.Test.YtbghmemejbbhfaaGreatGC5
set_option linter.unusedVariables false
set_option linter.unusedSimpArgs false
/- The reference's PlanSame. -/
namespace Go.Proofs.YtbghmemejbbhfaaGreat
open Go Go.Am
variable {pr : Prims} (hp : Okp pr)
set_option maxRecDepth 100000
def ordL : List Int → List Int → Int
  | x :: xs, y :: ys => if x < y then -1 else if y < x then 1 else ordL xs ys
  | xs, ys => (xs.length : Int) - (ys.length : Int)
theorem ordL_zero : ∀ (xs ys : List Int), (ordL xs ys == 0) = listEq (· == ·) xs ys
  | [], [] => rfl
  | [], y :: ys => by
    have h : (ordL [] (y :: ys) == 0) = false := by simp [ordL]; omega
    rw [h]; rfl
  | x :: xs, [] => by
    have h : (ordL (x :: xs) [] == 0) = false := by simp [ordL]; omega
    rw [h]; rfl
  | x :: xs, y :: ys => by
    simp only [ordL, listEq]
    rw [← ordL_zero xs ys]
    rcases Int.lt_trichotomy x y with h | h | h
    · rw [if_pos h]; simp; omega
    · subst h; simp
    · rw [if_neg (by omega), if_pos h]; simp; omega
theorem ordL_end {xs ys : List Int} (h : xs = [] ∨ ys = []) : ordL xs ys = (xs.length : Int) - (ys.length : Int) := by
  rcases h with rfl | rfl
  · cases ys <;> rfl
  · cases xs <;> rfl
theorem l1Order_r (hp : Okp pr) (xs ys : List Int) (hx : xs.length ≤ 9223372036854775807) (hy : ys.length ≤ 9223372036854775807) (hl : xs.length ≤ 1048576) : Ret pr 78 [.sl (xs.map i64), .sl (ys.map i64)] (i64 (ordL xs ys)) := by
  refine ret_of hp rfl rfl ?_
  conv => whnf
  refine loop_rule (fun m st => ∃ j : Nat, j + m = xs.length ∧ j ≤ ys.length ∧ st.tm 0 = .sl (xs.map i64) ∧ st.tm 1 = .sl (ys.map i64) ∧ st.tm 5 = i64 (j : Nat) ∧ st.hp = [] ∧ ordL xs ys = ordL (xs.drop j) (ys.drop j)) (fun m st hI => ?_) xs.length _ ⟨0, by simp, by simp, rfl, rfl, rfl, rfl, rfl⟩
  obtain ⟨j, hj, hjy, e0, e1, e5, hh, hall⟩ := hI
  obtain ⟨tm, hq⟩ := st
  simp only at e0 e1 e5 hh
  subst hh
  rw [show tm = upd (upd (upd tm 0 (.sl (xs.map i64))) 1 (.sl (ys.map i64))) 5 (i64 (j : Nat)) by rw [upd_id e0, upd_id e1, upd_id e5]]
  clear e0 e1 e5
  have hfin : xs.drop j = [] ∨ ys.drop j = [] → IntKind.i64.wrap (((xs.map i64).length : Int) - ((ys.map i64).length : Int)) = ordL xs ys := fun h => by
    rw [hall, ordL_end h, IntKind.wrap_i64]
    simp
    omega
  conv => whnf
  refine bsel_intro (fun h1 => ?_) (fun h1 => ?_)
  · have hjl : j < xs.length := by simpa using h1
    conv => whnf
    refine bsel_intro (fun h2 => ?_) (fun h2 => ?_)
    · have hjm : j < ys.length := by simpa using h2
      have g1 : (xs.map i64)[((j : Nat) : Int).toNat]? = some (i64 xs[j]) := by rw [Int.toNat_natCast]; simp [hjl]
      have g2 : (ys.map i64)[((j : Nat) : Int).toNat]? = some (i64 ys[j]) := by rw [Int.toNat_natCast]; simp [hjm]
      rw [List.drop_eq_getElem_cons hjl, List.drop_eq_getElem_cons hjm] at hall
      generalize xs[j] = x at g1 hall
      generalize ys[j] = y at g2 hall
      conv => whnf
      refine ⟨_, g1, by omega, rfl, ?_⟩
      conv => whnf
      refine ⟨_, g2, by omega, rfl, ?_⟩
      conv => whnf
      refine bsel_intro (fun h3 => ?_) (fun h3 => ?_)
      · have h3' : x < y := by simpa using h3
        conv => whnf
        exact fin_int (by rw [hall]; simp [ordL, h3'])
      · have h3' : ¬ x < y := by simpa using h3
        conv => whnf
        refine ⟨_, g1, by omega, rfl, ?_⟩
        conv => whnf
        refine ⟨_, g2, by omega, rfl, ?_⟩
        conv => whnf
        refine bsel_intro (fun h4 => ?_) (fun h4 => ?_)
        · have h4' : y < x := by simpa using h4
          conv => whnf
          exact fin_int (by rw [hall]; simp [ordL, h3', h4'])
        · have h4' : ¬ y < x := by simpa using h4
          conv => whnf
          exact ⟨m - 1, by omega, j + 1, by omega, by omega, rfl, rfl, nat_step j (by omega), rfl, by rw [hall]; simp [ordL, h3', h4']⟩
    · have hjm : ys.length ≤ j := by simpa using h2
      conv => whnf
      exact fin_int (hfin (.inr (List.drop_eq_nil_of_le hjm)))
  · have hjl : xs.length ≤ j := by simpa using h1
    conv => whnf
    exact fin_int (hfin (.inl (List.drop_eq_nil_of_le hjl)))
theorem l4Ints_r (hp : Okp pr) (xs ys : List Int) (hx : xs.length ≤ 1048576) (hy : ys.length ≤ 1048576) : Ret pr 70 [.sl (xs.map i64), .sl (ys.map i64)] (.bool (listEq (· == ·) xs ys)) := by
  have h1 := l1Order_r hp xs ys (by omega) (by omega) hx
  refine ret_of hp rfl rfl ?_
  conv => whnf
  refine ⟨_, h1 _, ?_⟩
  conv => whnf
  refine bsel_intro (fun h2 => ?_) (fun h2 => ?_)
  · conv => whnf
    exact fin_bool (by rw [← ordL_zero]; exact h2.symm)
  · conv => whnf
    exact fin_bool (by rw [← ordL_zero]; exact h2.symm)
end Go.Proofs.YtbghmemejbbhfaaGreat
/- The reference's PlanSame, whole. -/
namespace Go.Proofs.YtbghmemejbbhfaaGreat
open Go Go.Am
variable {pr : Prims} (hp : Okp pr)
set_option maxRecDepth 100000
theorem cell_parts (k j : Int) : (k == j) = (j == k) := by rw [BEq.comm]
theorem sPlanSame_r' (hp : Okp pr) : ∀ (N : Nat) (p : Plan), SizeOf.sizeOf p ≤ N → p.small → ∀ q, q.small → Ret pr 59 [p.enc, q.enc] (.bool (planEq p q)) := by
  intro N
  induction N with
  | zero => intro p h; exfalso; cases p; simp at h
  | succ N ih =>
    intro p hs hsm q hsq
    obtain ⟨kind, n, test, cells, a, b, keys, agg, c, kids⟩ := p
    obtain ⟨kind', n', test', cells', a', b', keys', agg', c', kids'⟩ := q
    obtain ⟨hsc, hsk, hskids, hsks⟩ := small_split hsm
    obtain ⟨hsc', hsk', hskids', hsks'⟩ := small_split hsq
    have hk := l4Ints_r hp keys keys' hsk hsk'
    have hf : ∀ p ∈ kids, ∀ q ∈ kids', Ret pr 59 [p.enc, q.enc] (.bool (planEq p q)) := fun p hpm q hq => ih p (by have := List.sizeOf_lt_of_mem hpm; simp at hs; omega) (hsks p hpm) q (hsks' q hq)
    have hL := encs_len kids
    have hL' := encs_len kids'
    have e1 : (((cells.map Cell.enc).length : Int) != ((cells'.map Cell.enc).length : Int)) = true → listEq cellEq cells cells' = false := fun h => listEq_ne (by simp at h; omega)
    have e2 : (((Plan.encs kids).length : Int) != ((Plan.encs kids').length : Int)) = true → planEqs kids kids' = false := fun h => by rw [planEqs_eq]; exact listEq_ne (by simp [hL, hL'] at h; omega)
    refine ret_of hp rfl rfl ?_
    iterate 22
      all_goals (try (conv => whnf))
      all_goals (first | (refine bsel_intro (fun hb => ?_) (fun hb => ?_)) | (refine ⟨_, testEq test test', eqS_test, rfl, ?_⟩) | (refine ⟨_, hk _, ?_⟩) | skip)
    all_goals (try (refine fin_bool ?_; clear hk hf ih hs hsm hsq hsks hsks' hsc hsk hskids hsc' hsk' hskids' hL hL'; simp_all [planEq, Plan.kind, Plan.n, Plan.test, Plan.cells, Plan.a, Plan.b, Plan.keys, Plan.agg, Plan.col, Plan.kids]; done))
    rename_i b1 b2 b3 b4 b5 b6 b7 b8 b9
    have hcl : cells.length = cells'.length := by simp at b9; omega
    have hkl : kids.length = kids'.length := by simp [hL, hL'] at hb; omega
    have hpe : planEq (Plan.mk kind n test cells a b keys agg c kids) (Plan.mk kind' n' test' cells' a' b' keys' agg' c' kids') = (listEq cellEq cells cells' && planEqs kids kids') := by
      clear hk hf ih hs hsm hsq hsks hsks' hsc hsk hskids hsc' hsk' hskids' hL hL' e1 e2 b9 hb hcl hkl
      simp_all [planEq, Plan.kind, Plan.n, Plan.test, Plan.cells, Plan.a, Plan.b, Plan.keys, Plan.agg, Plan.col, Plan.kids]
    rw [hpe]
    clear b1 b2 b3 b4 b5 b6 b7 b8 b9 hb hpe e1 e2 hs ih hk
    have H0 : ∀ (t : Nat → AVal), True := fun _ => trivial
    refine loop_rule (fun m st => ∃ j : Nat, j + m = cells.length ∧ st.tm 2 = .ptr 0 0 0 ∧ st.tm 3 = .ptr 1 0 0 ∧ st.tm 5 = i64 (j : Nat) ∧ st.hp = [.box (Plan.mk kind n test cells a b keys agg c kids).enc, .box (Plan.mk kind' n' test' cells' a' b' keys' agg' c' kids').enc] ∧ listEq cellEq cells cells' = listEq cellEq (cells.drop j) (cells'.drop j)) (fun m st hI => ?_) cells.length _ ⟨0, by simp, rfl, rfl, rfl, rfl, rfl⟩
    obtain ⟨j, hj, e2, e3, e5, hh, hall⟩ := hI
    obtain ⟨tm, hq⟩ := st
    simp only at e2 e3 e5 hh
    subst hh
    rw [show tm = upd (upd (upd tm 2 (.ptr 0 0 0)) 3 (.ptr 1 0 0)) 5 (i64 (j : Nat)) by rw [upd_id e2, upd_id e3, upd_id e5]]
    clear e2 e3 e5
    conv => whnf
    refine bsel_intro (fun h1 => ?_) (fun h1 => ?_)
    · have hjl : j < cells.length := by simpa using h1
      rw [listEq_step hjl (by omega)] at hall
      conv => whnf
      refine ⟨(cells[j]).enc, by simp [hjl], by omega, rfl, ?_⟩
      conv => whnf
      refine ⟨(cells'[j]).enc, by simp [show j < cells'.length by omega], by omega, rfl, ?_⟩
      conv => whnf
      refine ⟨_, cellEq cells[j] cells'[j], eqS_cell, rfl, ?_⟩
      refine bsel_intro (fun h2 => ?_) (fun h2 => ?_)
      · conv => whnf
        exact ⟨m - 1, by omega, j + 1, by omega, rfl, rfl, nat_step j (by omega), rfl, by rw [hall, h2]; rfl⟩
      · conv => whnf
        exact fin_bool (by rw [hall, h2]; rfl)
    · have hjl : j = cells.length := by have : ¬ j < cells.length := by simpa using h1
                                        omega
      subst hjl
      rw [listEq_end hcl] at hall
      rw [hall, Bool.true_and, planEqs_eq]
      clear hall
      conv => whnf
      refine loop_rule (fun m st => ∃ j : Nat, j + m = kids.length ∧ st.tm 2 = .ptr 0 0 0 ∧ st.tm 3 = .ptr 1 0 0 ∧ st.tm 6 = i64 (j : Nat) ∧ st.hp = [.box (Plan.mk kind n test cells a b keys agg c kids).enc, .box (Plan.mk kind' n' test' cells' a' b' keys' agg' c' kids').enc] ∧ listEq planEq kids kids' = listEq planEq (kids.drop j) (kids'.drop j)) (fun m st hI => ?_) kids.length _ ⟨0, by simp, rfl, rfl, rfl, rfl, rfl⟩
      obtain ⟨j, hj, e2, e3, e6, hh, hall⟩ := hI
      obtain ⟨tm, hq⟩ := st
      simp only at e2 e3 e6 hh
      subst hh
      rw [show tm = upd (upd (upd tm 2 (.ptr 0 0 0)) 3 (.ptr 1 0 0)) 6 (i64 (j : Nat)) by rw [upd_id e2, upd_id e3, upd_id e6]]
      clear e2 e3 e6
      conv => whnf
      refine bsel_intro (fun h1 => ?_) (fun h1 => ?_)
      · have hjl : j < kids.length := by simpa [hL] using h1
        rw [listEq_step hjl (by omega)] at hall
        have hih := hf kids[j] (List.getElem_mem hjl) kids'[j] (List.getElem_mem _)
        have g1 : (Plan.encs kids)[((j : Nat) : Int).toNat]? = some kids[j].enc := by rw [Int.toNat_natCast, encs_get, List.getElem?_eq_getElem hjl]; rfl
        have g2 : (Plan.encs kids')[((j : Nat) : Int).toNat]? = some kids'[j].enc := by rw [Int.toNat_natCast, encs_get, List.getElem?_eq_getElem (show j < kids'.length by omega)]; rfl
        generalize kids[j] = x at hih hall g1
        generalize kids'[j] = y at hih hall g2
        obtain ⟨kind3, n3, test3, cells3, a3, b3, keys3, agg3, c3, kids3⟩ := x
        obtain ⟨kind4, n4, test4, cells4, a4, b4, keys4, agg4, c4, kids4⟩ := y
        conv => whnf
        refine ⟨_, g1, by omega, rfl, ?_⟩
        conv => whnf
        refine ⟨_, g2, by omega, rfl, ?_⟩
        conv => whnf
        refine ⟨_, hih _, ?_⟩
        conv => whnf
        refine bsel_intro (fun h2 => ?_) (fun h2 => ?_)
        · conv => whnf
          exact ⟨m - 1, by omega, j + 1, by omega, rfl, rfl, nat_step j (by omega), rfl, by rw [hall, h2]; rfl⟩
        · conv => whnf
          exact fin_bool (by rw [hall, h2]; rfl)
      · have hjl : j = kids.length := by have : ¬ j < kids.length := by simpa [hL] using h1
                                         omega
        subst hjl
        rw [listEq_end hkl] at hall
        conv => whnf
        exact fin_bool hall.symm
theorem sPlanSame_r (hp : Okp pr) (p q : Plan) (hsm : p.small) (hsq : q.small) : Ret pr 59 [p.enc, q.enc] (.bool (planEq p q)) := sPlanSame_r' hp _ p (Nat.le_refl _) hsm q hsq
end Go.Proofs.YtbghmemejbbhfaaGreat
/- What Slim comes to, without program. -/
namespace Go.Proofs.YtbghmemejbbhfaaGreat
open Go Go.Am
def Plan.wk : Plan → List Plan → Plan
  | .mk kind n test cells a b keys agg c _, ks => .mk kind n test cells a b keys agg c ks
theorem wk_kids (p : Plan) (ks : List Plan) : (p.wk ks).kids = ks := by cases p; rfl
theorem wk_kind (p : Plan) (ks : List Plan) : (p.wk ks).kind = p.kind := by cases p; rfl
mutual
/-- How many parts. -/
def Plan.cnt : Plan → Nat
  | .mk _ _ _ _ _ _ _ _ _ kids => 1 + Plan.cnts kids
def Plan.cnts : List Plan → Nat
  | [] => 0
  | p :: ps => p.cnt + Plan.cnts ps
end
theorem cnt_eq (p : Plan) : p.cnt = 1 + Plan.cnts p.kids := by cases p; rfl
theorem cnt_wk (p : Plan) (ks : List Plan) : (p.wk ks).cnt = 1 + Plan.cnts ks := by cases p; rfl
theorem cnts_mem {q : Plan} : ∀ {ps : List Plan}, q ∈ ps → q.cnt ≤ Plan.cnts ps
  | p :: ps, h => by
    simp only [Plan.cnts]
    rcases List.mem_cons.1 h with rfl | h
    · omega
    · have := cnts_mem h; omega
theorem cnts_map {f : Plan → Plan} (hf : ∀ p, (f p).cnt ≤ p.cnt) : ∀ ps : List Plan, Plan.cnts (ps.map f) ≤ Plan.cnts ps
  | [] => Nat.le_refl _
  | p :: ps => by simp only [List.map_cons, Plan.cnts]; have := hf p; have := cnts_map hf ps; omega
theorem szs_map {f : Plan → Plan} (hf : ∀ p, (f p).sz ≤ p.sz) : ∀ ps : List Plan, Plan.szs (ps.map f) ≤ Plan.szs ps
  | [] => Nat.le_refl _
  | p :: ps => by simp only [List.map_cons, Plan.szs]; have := hf p; have := szs_map hf ps; omega
def Plan.k0 (p : Plan) : Plan := (p.kids[0]?).getD p
def same2 (k : Plan) : Bool := match k.kids with
  | x :: y :: _ => planEq x y
  | _ => false
def slimRule (rec : Plan → Plan) (p : Plan) : Plan := match p.kids with
  | [] => p
  | k :: _ =>
    if p.kind == 6 && once k then k
    else if p.kind == 6 && (k.kind == 5 && same2 k) then rec (p.wk [k.k0])
    else if p.kind == 2 && (k.kind == 2 && testEq p.test k.test) then k
    else p
def slimF : Nat → Plan → Plan
  | 0, p => p
  | n + 1, p => slimRule (slimF n) (p.wk (p.kids.map (slimF n)))
theorem k0_cnt (k : Plan) : k.k0.cnt ≤ k.cnt := by
  unfold Plan.k0
  cases h : k.kids[0]? with
  | none => exact Nat.le_refl _
  | some x =>
    have hm : x ∈ k.kids := List.mem_of_getElem? h
    have := cnts_mem hm
    rw [cnt_eq k]
    simp only [Option.getD_some]
    omega
theorem k0_sz (k : Plan) : k.k0.sz ≤ k.sz := by
  unfold Plan.k0
  cases h : k.kids[0]? with
  | none => exact Nat.le_refl _
  | some x =>
    have hm : x ∈ k.kids := List.mem_of_getElem? h
    have := szs_mem hm
    obtain ⟨kind, n, test, cells, a, b, keys, agg, c, kids⟩ := k
    simp only [Option.getD_some, Plan.sz, Plan.kids] at this ⊢
    omega
theorem slimRule_cnt {rec : Plan → Plan} (hr : ∀ p, (rec p).cnt ≤ p.cnt) (p : Plan) : (slimRule rec p).cnt ≤ p.cnt := by
  unfold slimRule
  have hc := cnt_eq p
  split
  · exact Nat.le_refl _
  · rename_i k l hk
    rw [hk] at hc
    simp only [Plan.cnts] at hc
    have := k0_cnt k
    have h2 := hr (p.wk [k.k0])
    rw [cnt_wk] at h2
    simp only [Plan.cnts] at h2
    split
    · omega
    · split
      · omega
      · split <;> omega
theorem slimRule_sz {rec : Plan → Plan} (hr : ∀ p, (rec p).sz ≤ p.sz) (p : Plan) : (slimRule rec p).sz ≤ p.sz := by
  unfold slimRule
  split
  · exact Nat.le_refl _
  · rename_i k l hk
    have h0 := k0_sz k
    have h2 := hr (p.wk [k.k0])
    obtain ⟨kind, n, test, cells, a, b, keys, agg, c, kids⟩ := p
    simp only [Plan.kids] at hk
    subst hk
    simp only [Plan.wk, Plan.sz, Plan.szs, List.length_cons, List.length_nil] at h2 ⊢
    split
    · omega
    · split
      · omega
      · split
        · omega
        · simp only [Plan.sz, Plan.szs, List.length_cons]; omega
theorem slimF_cnt : ∀ (n : Nat) (p : Plan), (slimF n p).cnt ≤ p.cnt
  | 0, p => Nat.le_refl _
  | n + 1, p => by
    simp only [slimF]
    refine Nat.le_trans (slimRule_cnt (slimF_cnt n) _) ?_
    rw [cnt_wk, cnt_eq p]
    have := cnts_map (slimF_cnt n) p.kids
    omega
theorem slimF_sz : ∀ (n : Nat) (p : Plan), (slimF n p).sz ≤ p.sz
  | 0, p => Nat.le_refl _
  | n + 1, p => by
    simp only [slimF]
    refine Nat.le_trans (slimRule_sz (slimF_sz n) _) ?_
    have := szs_map (slimF_sz n) p.kids
    obtain ⟨kind, m, test, cells, a, b, keys, agg, c, kids⟩ := p
    simp only [Plan.wk, Plan.sz, Plan.kids, List.length_map] at this ⊢
    omega
theorem slimF_small {n : Nat} {p : Plan} (h : p.small) : (slimF n p).small := Nat.le_trans (slimF_sz n p) h
theorem okF_wk {d : Nat} {p : Plan} {ks : List Plan} (h : okF (d + 1) p = true) (hl : ks.length = p.kids.length) (hk : ∀ q ∈ ks, okF d q = true) : okF (d + 1) (p.wk ks) = true := by
  obtain ⟨h1, _⟩ := okF_kids h
  exact okF_mk (by rw [wk_kind, wk_kids, h1, hl]) (by rw [wk_kids]; exact hk)
theorem okF_le : ∀ {d e : Nat} {p : Plan}, d ≤ e → okF d p = true → okF e p = true := by
  intro d e p h
  induction h with
  | refl => exact id
  | step _ ih => exact fun h => okF_up (ih h)
theorem okF_slimRule {rec : Plan → Plan} {d : Nat} (hr : ∀ p, okF d p = true → okF d (rec p) = true) {p : Plan} (h : okF d p = true) : okF d (slimRule rec p) = true := by
  cases d with
  | zero => cases h
  | succ d =>
    obtain ⟨h1, h2⟩ := okF_kids h
    unfold slimRule
    split
    · exact h
    · rename_i k l hk
      have hkk : okF d k = true := h2 k (by rw [hk]; simp)
      split
      · exact okF_up hkk
      · split
        · rename_i hc
          simp only [Bool.and_eq_true, beq_iff_eq] at hc
          refine hr _ (okF_mk ?_ ?_)
          · rw [wk_kind, wk_kids, hc.1]; rfl
          · rw [wk_kids]
            intro q hq
            simp at hq
            subst hq
            unfold Plan.k0
            cases hx : k.kids[0]? with
            | none => exact hkk
            | some x =>
              cases d with
              | zero => cases hkk
              | succ d => exact okF_up ((okF_kids hkk).2 x (List.mem_of_getElem? hx))
        · split
          · exact okF_up hkk
          · exact h
theorem okF_slimF : ∀ (n d : Nat) (p : Plan), okF d p = true → okF d (slimF n p) = true
  | 0, d, p, h => h
  | n + 1, d, p, h => by
    simp only [slimF]
    refine okF_slimRule (okF_slimF n d) ?_
    cases d with
    | zero => cases h
    | succ d =>
      refine okF_wk h (by simp) fun q hq => ?_
      obtain ⟨r, hr, rfl⟩ := List.mem_map.1 hq
      exact okF_slimF n d r ((okF_kids h).2 r hr)
theorem testEq_comm (s t : Test) : testEq s t = testEq t s := by
  simp only [testEq]
  rw [BEq.comm (a := s.kind), BEq.comm (a := s.no), BEq.comm (a := s.l.kind), BEq.comm (a := s.l.a), BEq.comm (a := s.l.b), BEq.comm (a := s.l.n), BEq.comm (a := s.r.kind), BEq.comm (a := s.r.a), BEq.comm (a := s.r.b), BEq.comm (a := s.r.n)]
end Go.Proofs.YtbghmemejbbhfaaGreat

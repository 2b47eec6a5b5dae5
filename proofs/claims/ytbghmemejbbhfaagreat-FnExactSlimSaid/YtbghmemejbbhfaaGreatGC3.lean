/- The reference's form of plans; SlimOnce. -/
import Derived.Test.YtbghmemejbbhfaaGreatGB1
set_option linter.unusedVariables false
set_option linter.unusedSimpArgs false
/- The reference's looks at lists and plans. -/
namespace Go.Proofs.YtbghmemejbbhfaaGreat
open Go Go.Am
variable {pr : Prims} (hp : Okp pr)
set_option maxRecDepth 100000
def cellsOk (xs : List Cell) (wide : Int) : Bool := xs.all (fun c => cellOk c wide) && (decide (1 ≤ xs.length) && decide (xs.length ≤ 6))
theorem l4Cells_r (hp : Okp pr) (xs : List Cell) (wide : Int) (hl : xs.length ≤ 1048576) : Ret pr 64 [.sl (xs.map Cell.enc), i64 wide] (.bool (cellsOk xs wide)) := by
  refine ret_of hp rfl rfl ?_
  conv => whnf
  refine loop_rule (fun m st => ∃ j : Nat, j + m = xs.length ∧ st.tm 0 = .sl (xs.map Cell.enc) ∧ st.tm 1 = i64 wide ∧ st.tm 5 = i64 j ∧ st.hp = [] ∧ xs.all (fun c => cellOk c wide) = (xs.drop j).all (fun c => cellOk c wide)) (fun m st hI => ?_) (xs.length) _ ⟨0, by simp, (by first | kernel_rfl | rfl | simp), (by first | kernel_rfl | rfl | simp), (by first | kernel_rfl | rfl | simp), (by first | kernel_rfl | rfl | simp), (by first | rfl | simp)⟩
  obtain ⟨j, hj, e0, e1, e5, hh, hall⟩ := hI
  obtain ⟨tm, hq⟩ := st
  simp only at e0 e1 e5 hh
  subst hh
  rw [show tm = upd (upd (upd tm 0 (.sl (xs.map Cell.enc))) 1 (i64 wide)) 5 (i64 j) by rw [upd_id e0, upd_id e1, upd_id e5]]
  clear e0 e1 e5
  conv => whnf
  refine bsel_intro (fun h1 => ?_) (fun h1 => ?_)
  · have hjl : j < xs.length := by simpa using h1
    rw [List.drop_eq_getElem_cons hjl, List.all_cons] at hall
    conv => whnf
    refine ⟨(xs[j]).enc, by simp [hjl], by omega, rfl, ?_⟩
    conv => whnf
    refine ⟨_, sCellOk_r hp xs[j] wide _, ?_⟩
    conv => whnf
    refine bsel_intro (fun h2 => ?_) (fun h2 => ?_)
    · conv => whnf
      exact ⟨m - 1, by omega, j + 1, by omega, rfl, rfl, nat_step j (by omega), rfl, by rw [hall, h2]; rfl⟩
    · conv => whnf
      exact fin_bool (by simp [cellsOk, hall, h2])
  · have hjl : j = xs.length := by have : ¬ j < xs.length := by simpa using h1
                                   omega
    subst hjl
    rw [List.drop_length] at hall
    conv => whnf
    iterate 3
      all_goals (try (conv => whnf))
      all_goals (first | (refine bsel_intro (fun hb => ?_) (fun hb => ?_)) | skip)
    all_goals exact fin_bool (by first | (simp_all [cellsOk]; done) | (simp_all [cellsOk]; omega) | (simp_all [cellsOk]; intros; omega))
def keysGo (pre : List Int) (wide : Int) : List Int → Bool
  | [] => true
  | x :: xs => col x wide && (!(pre.contains x) && keysGo (pre ++ [x]) wide xs)
def keysOk (xs : List Int) (wide : Int) : Bool := keysGo [] wide xs && decide (xs.length < 6)
theorem contains_drop {xs : List Int} {k : Nat} {x : Int} (h : k < xs.length) : (xs.drop k).contains x = (xs[k] == x || (xs.drop (k + 1)).contains x) := by
  rw [List.drop_eq_getElem_cons h, List.contains_cons, BEq.comm]
theorem l4Keys_r (hp : Okp pr) (xs : List Int) (wide : Int) (hl : xs.length ≤ 1048576) : Ret pr 66 [.sl (xs.map i64), i64 wide] (.bool (keysOk xs wide)) := by
  refine ret_of hp rfl rfl ?_
  conv => whnf
  refine loop_rule (fun m st => ∃ j : Nat, j + m = xs.length ∧ st.tm 0 = .sl (xs.map i64) ∧ st.tm 1 = i64 wide ∧ st.tm 5 = i64 j ∧ st.hp = [] ∧ keysGo [] wide xs = keysGo (xs.take j) wide (xs.drop j)) (fun m st hI => ?_) (xs.length) _ ⟨0, by simp, (by first | kernel_rfl | rfl | simp), (by first | kernel_rfl | rfl | simp), (by first | kernel_rfl | rfl | simp), (by first | kernel_rfl | rfl | simp), (by first | rfl | simp)⟩
  obtain ⟨j, hj, e0, e1, e5, hh, hall⟩ := hI
  obtain ⟨tm, hq⟩ := st
  simp only at e0 e1 e5 hh
  subst hh
  rw [show tm = upd (upd (upd tm 0 (.sl (xs.map i64))) 1 (i64 wide)) 5 (i64 j) by rw [upd_id e0, upd_id e1, upd_id e5]]
  clear e0 e1 e5
  conv => whnf
  refine bsel_intro (fun h1 => ?_) (fun h1 => ?_)
  · have hjl : j < xs.length := by simpa using h1
    have hjg : (xs.map i64)[((j : Nat) : Int).toNat]? = some (i64 xs[j]) := by simp [hjl]
    rw [List.drop_eq_getElem_cons hjl] at hall
    simp only [keysGo] at hall
    conv => whnf
    refine ⟨i64 xs[j], hjg, by omega, rfl, ?_⟩
    conv => whnf
    refine ⟨_, l3Col_r hp xs[j] wide _, ?_⟩
    conv => whnf
    refine bsel_intro (fun h2 => ?_) (fun h2 => ?_)
    · rw [h2, Bool.true_and] at hall
      conv => whnf
      refine loop_rule (fun m' st => ∃ k : Nat, k + m' = j ∧ st.tm 0 = .sl (xs.map i64) ∧ st.tm 1 = i64 wide ∧ st.tm 5 = i64 (j : Nat) ∧ st.tm 6 = i64 (k : Nat) ∧ st.hp = [] ∧ (xs.take j).contains xs[j] = ((xs.take j).drop k).contains xs[j]) (fun m' st hI => ?_) j _ ⟨0, by omega, rfl, rfl, rfl, rfl, rfl, rfl⟩
      obtain ⟨k, hk, e0, e1, e5, e6, hh, hcon⟩ := hI
      obtain ⟨tm, hq⟩ := st
      simp only at e0 e1 e5 e6 hh
      subst hh
      rw [show tm = upd (upd (upd (upd tm 0 (.sl (xs.map i64))) 1 (i64 wide)) 5 (i64 (j : Nat))) 6 (i64 (k : Nat)) by rw [upd_id e0, upd_id e1, upd_id e5, upd_id e6]]
      clear e0 e1 e5 e6
      conv => whnf
      refine bsel_intro (fun h3 => ?_) (fun h3 => ?_)
      · have hkj : k < j := by simpa using h3
        have hkg : (xs.map i64)[((k : Nat) : Int).toNat]? = some (i64 xs[k]) := by simp [show k < xs.length by omega]
        have hkt : k < (xs.take j).length := by simp; omega
        rw [contains_drop hkt] at hcon
        have hel : (xs.take j)[k] = xs[k] := by simp
        rw [hel] at hcon
        conv => whnf
        refine ⟨i64 xs[k], hkg, by omega, rfl, ?_⟩
        conv => whnf
        refine ⟨i64 xs[j], hjg, by omega, rfl, ?_⟩
        conv => whnf
        refine bsel_intro (fun h4 => ?_) (fun h4 => ?_)
        · conv => whnf
          refine fin_bool ?_
          rw [h4, Bool.true_or] at hcon
          rw [keysOk, hall, hcon]
          rfl
        · rw [h4, Bool.false_or] at hcon
          conv => whnf
          exact ⟨m' - 1, by omega, k + 1, by omega, rfl, rfl, rfl, nat_step k (by omega), rfl, hcon⟩
      · have hkj : k = j := by have : ¬ k < j := by simpa using h3
                               omega
        subst hkj
        conv => whnf
        have hd : (xs.take k).drop k = [] := by simp
        rw [hd] at hcon
        refine ⟨m - 1, by omega, k + 1, by omega, rfl, rfl, nat_step k (by omega), rfl, ?_⟩
        have htk : xs.take (k + 1) = xs.take k ++ [xs[k]] := (List.take_append_getElem hjl).symm
        rw [hall, hcon, htk]
        rfl
    · conv => whnf
      exact fin_bool (by simp [keysOk, hall, h2])
  · have hjl : j = xs.length := by have : ¬ j < xs.length := by simpa using h1
                                   omega
    subst hjl
    rw [List.drop_length] at hall
    simp only [keysGo] at hall
    conv => whnf
    refine bsel_intro (fun h2 => ?_) (fun h2 => ?_)
    · conv => whnf
      exact fin_bool (by rw [keysOk, hall, Bool.true_and]; clear hall; simp at h2 ⊢; omega)
    · conv => whnf
      exact fin_bool (by rw [keysOk, hall, Bool.true_and]; clear hall; simp at h2 ⊢; omega)
def many : Nat → Plan → Nat
  | 0, _ => 1
  | d + 1, p => 1 + (p.kids.map (many d)).sum
theorem many_le : ∀ (N : Nat) (p : Plan), SizeOf.sizeOf p ≤ N → ∀ d, many d p ≤ p.sz + 1 := by
  intro N
  induction N with
  | zero => intro p h; cases p; simp at h
  | succ N ih =>
    intro p hs d
    cases d with
    | zero => simp only [many]; omega
    | succ d =>
      obtain ⟨kind, n, test, cells, a, b, keys, agg, col, kids⟩ := p
      simp only [many, Plan.kids, Plan.sz]
      simp at hs
      have : ∀ l : List Plan, SizeOf.sizeOf l ≤ N + 1 → (l.map (many d)).sum ≤ l.length + Plan.szs l := by
        intro l
        induction l with
        | nil => intro _; simp [Plan.szs]
        | cons q l ihl =>
          intro h
          simp at h
          have h1 := ih q (by omega) d
          have h2 := ihl (by omega)
          simp only [List.map_cons, List.sum_cons, List.length_cons, Plan.szs]
          omega
      have := this kids (by omega)
      omega
theorem sum_drop {l : List Nat} {j : Nat} (h : j < l.length) : (l.take (j + 1)).sum = (l.take j).sum + l[j] := by
  rw [List.take_add_one, List.sum_append]; simp [h]
theorem sum_take_le {l : List Nat} (j : Nat) : (l.take j).sum ≤ l.sum := by
  have := congrArg List.sum (List.take_append_drop j l)
  rw [List.sum_append] at this
  omega
theorem l4Many_r (hp : Okp pr) : ∀ (d : Nat) (p : Plan), p.small → d ≤ 6 → Ret pr 45 [p.enc, i64 d] (i64 (many d p)) := by
  intro d
  induction d with
  | zero =>
    intro p hsm _
    obtain ⟨kind, n, test, cells, a, b, keys, agg, col, kids⟩ := p
    refine ret_of hp rfl rfl ?_
    conv => whnf
    refine loop_rule (fun m st => st.tm = upd (upd (upd (upd (initA [(Plan.mk kind n test cells a b keys agg col kids).enc, i64 0]) 2 (.ptr 0 0 0)) 4 (i64 0)) 5 (i64 1)) 6 (i64 0) ∧ st.hp = [.box (Plan.mk kind n test cells a b keys agg col kids).enc]) (fun m st hI => ?_) 0 _ ⟨rfl, rfl⟩
    obtain ⟨tm, hq⟩ := st
    obtain ⟨e1, e2⟩ := hI
    simp only at e1 e2
    subst e1 e2
    iterate 4
      all_goals (try (conv => whnf))
      all_goals (first | (refine bsel_intro (fun hb => ?_) (fun hb => ?_)) | skip)
    all_goals exact ⟨_, _, rfl, rfl⟩
  | succ d ih =>
    intro p hsm hd
    have hle := many_le _ p (Nat.le_refl _) (d + 1)
    have hsm' := hsm
    simp only [Plan.small] at hsm'
    obtain ⟨kind, n, test, cells, a, b, keys, agg, col, kids⟩ := p
    simp only [many, Plan.kids] at hle ⊢
    obtain ⟨hsc, hsk, hskids, hsks⟩ := small_split hsm
    refine ret_of hp rfl rfl ?_
    conv => whnf
    have hst : ∀ j, ((kids.map (many d)).take j).sum ≤ (kids.map (many d)).sum := fun j => sum_take_le j
    refine loop_rule (fun m st => ∃ j : Nat, j + m = kids.length ∧ st.tm 1 = i64 ((d + 1 : Nat) : Int) ∧ st.tm 2 = .ptr 0 0 0 ∧ st.tm 5 = i64 ((1 + ((kids.map (many d)).take j).sum : Nat) : Int) ∧ st.tm 6 = i64 (j : Nat) ∧ st.hp = [.box (Plan.mk kind n test cells a b keys agg col kids).enc]) (fun m st hI => ?_) (kids.length) _ ⟨0, by simp, (by first | kernel_rfl | rfl | simp), (by first | kernel_rfl | rfl | simp), (by first | kernel_rfl | rfl | simp), (by first | kernel_rfl | rfl | simp), (by first | kernel_rfl | rfl | simp)⟩
    obtain ⟨j, hj, e1, e2, e5, e6, hh⟩ := hI
    obtain ⟨tm, hq⟩ := st
    simp only at e1 e2 e5 e6 hh
    subst hh
    rw [show tm = upd (upd (upd (upd tm 1 (i64 ((d + 1 : Nat) : Int))) 2 (.ptr 0 0 0)) 5 (i64 ((1 + ((kids.map (many d)).take j).sum : Nat) : Int))) 6 (i64 (j : Nat)) by rw [upd_id e1, upd_id e2, upd_id e5, upd_id e6]]
    clear e1 e2 e5 e6
    conv => whnf
    refine bsel_intro (fun h1 => ?_) (fun h1 => ?_)
    · have hjl : j < kids.length := by have : j < (Plan.encs kids).length := by simpa using h1
                                       rwa [encs_len] at this
      have hd0 : decide (((d + 1 : Nat) : Int) > 0) = true := by simp
      conv => whnf
      refine bsel_true hd0 ?_
      conv => whnf
      have hq : SizeOf.sizeOf kids[j] = SizeOf.sizeOf kids[j] := rfl
      have hih := ih kids[j] (hsks _ (List.getElem_mem hjl)) (by omega)
      have hge : (Plan.encs kids)[((j : Nat) : Int).toNat]? = some kids[j].enc := by rw [Int.toNat_natCast, encs_get, List.getElem?_eq_getElem hjl]; rfl
      have hsum := sum_drop (l := kids.map (many d)) (j := j) (by simpa using hjl)
      have hst1 := hst (j + 1)
      rw [List.getElem_map] at hsum
      generalize kids[j] = q at hih hge hsum
      obtain ⟨kind', n', test', cells', a', b', keys', agg', col', kids'⟩ := q
      refine ⟨_, hge, by omega, rfl, ?_⟩
      conv => whnf
      have hw : AVal.int .i64 (IntKind.i64.wrap (((d + 1 : Nat) : Int) - 1)) = i64 (d : Nat) := by
        have : IntKind.i64.wrap (((d + 1 : Nat) : Int) - 1) = (d : Nat) := by rw [IntKind.wrap_i64]; omega
        rw [this]; rfl
      have hih2 : Ret pr 45 [(Plan.mk kind' n' test' cells' a' b' keys' agg' col' kids').enc, AVal.int .i64 (IntKind.i64.wrap (((d + 1 : Nat) : Int) - 1))] (i64 (many d (Plan.mk kind' n' test' cells' a' b' keys' agg' col' kids'))) := by rw [hw]; exact hih
      refine ⟨_, hih2 _, ?_⟩
      conv => whnf
      refine ⟨m - 1, by omega, j + 1, by omega, rfl, rfl, ?_, nat_step j (by omega), rfl⟩
      refine Eq.trans (b := AVal.int .i64 (IntKind.i64.wrap (((1 + ((kids.map (many d)).take j).sum : Nat) : Int) + (many d (Plan.mk kind' n' test' cells' a' b' keys' agg' col' kids') : Nat)))) (by kernel_rfl) ?_
      have : IntKind.i64.wrap (((1 + ((kids.map (many d)).take j).sum : Nat) : Int) + (many d (Plan.mk kind' n' test' cells' a' b' keys' agg' col' kids') : Nat)) = ((1 + ((kids.map (many d)).take (j + 1)).sum : Nat) : Int) := by
        rw [IntKind.wrap_i64]; omega
      rw [this]; rfl
    · have hjl : j = kids.length := by have : ¬ j < (Plan.encs kids).length := by simpa using h1
                                       rw [encs_len] at this
                                       omega
      subst hjl
      conv => whnf
      exact fin_int (by congr 2; rw [List.take_of_length_le (by simp)])
end Go.Proofs.YtbghmemejbbhfaaGreat
/- The reference's form of plans; SlimOnce. -/
namespace Go.Proofs.YtbghmemejbbhfaaGreat
open Go Go.Am
variable {pr : Prims} (hp : Okp pr)
set_option maxRecDepth 100000
def kidsN (kind : Int) : Int := if kind = 1 then 0 else if kind = 2 ∨ kind = 3 ∨ kind = 6 ∨ kind = 7 then 1 else if kind = 4 ∨ kind = 5 then 2 else -1
theorem kind_cases (k : Int) : k = 1 ∨ k = 2 ∨ k = 3 ∨ k = 4 ∨ k = 5 ∨ k = 6 ∨ k = 7 ∨ ((k == 1) = false ∧ (k == 2) = false ∧ (k == 3) = false ∧ (k == 4) = false ∧ (k == 5) = false ∧ (k == 6) = false ∧ (k == 7) = false) := by
  simp only [beq_eq_false_iff_ne, ne_eq]
  omega
theorem l4Kids_r (hp : Okp pr) (kind : Int) : Ret pr 61 [i64 kind] (i64 (kidsN kind)) := by
  refine ret_of hp rfl rfl ?_
  rcases kind_cases kind with rfl | rfl | rfl | rfl | rfl | rfl | rfl | ⟨h1, h2, h3, h4, h5, h6, h7⟩
  iterate 7
    · conv => whnf
      exact fin_int rfl
  · conv => whnf
    refine bsel_false h1 ?_
    conv => whnf
    refine bsel_false h2 ?_
    conv => whnf
    refine bsel_false h3 ?_
    conv => whnf
    refine bsel_false h6 ?_
    conv => whnf
    refine bsel_false h7 ?_
    conv => whnf
    refine bsel_false h4 ?_
    conv => whnf
    refine bsel_false h5 ?_
    conv => whnf
    exact fin_int (by simp_all [kidsN])
def zTest (t : Test) : Bool := t.kind == 0 && (t.no == false && (t.l.kind == 0 && (t.l.a == 0 && (t.l.b == 0 && (t.l.n == 0 && (t.r.kind == 0 && (t.r.a == 0 && (t.r.b == 0 && (t.r.n == 0 && true)))))))))
def clean : Plan → Bool
  | .mk kind n test cells a b keys agg col _ => (kind == 1 || n == 0) && ((kind == 2 || zTest test) && ((kind == 3 || cells.isEmpty) && ((kind == 4 || (a == 0 && b == 0)) && (kind == 7 || (keys.isEmpty && (agg == 0 && col == 0))))))
theorem l4Clean_r (hp : Okp pr) (p : Plan) : Ret pr 62 [p.enc] (.bool (clean p)) := by
  obtain ⟨kind, n, ⟨tk, tn, ⟨a1, a2, a3, a4⟩, ⟨b1, b2, b3, b4⟩⟩, cells, a, b, keys, agg, col, kids⟩ := p
  refine ret_of hp rfl rfl ?_
  rcases kind_cases kind with rfl | rfl | rfl | rfl | rfl | rfl | rfl | ⟨h1, h2, h3, h4, h5, h6, h7⟩
  iterate 7
    · iterate 12
        all_goals (try (conv => whnf))
        all_goals (first | (refine bsel_intro (fun hb => ?_) (fun hb => ?_)) | (refine ⟨_, _, eqS_test, rfl, ?_⟩) | skip)
      all_goals (try (conv => whnf))
      all_goals exact fin_bool (by simp_all [clean, zTest])
  · iterate 19
      all_goals (try (conv => whnf))
      all_goals (first | (refine bsel_false h1 ?_) | (refine bsel_false h2 ?_) | (refine bsel_false h3 ?_) | (refine bsel_false h4 ?_) | (refine bsel_false h7 ?_) | (refine bsel_intro (fun hb => ?_) (fun hb => ?_)) | (refine ⟨_, _, eqS_test, rfl, ?_⟩) | skip)
    all_goals (try (conv => whnf))
    all_goals exact fin_bool (by simp_all [clean, zTest])
end Go.Proofs.YtbghmemejbbhfaaGreat

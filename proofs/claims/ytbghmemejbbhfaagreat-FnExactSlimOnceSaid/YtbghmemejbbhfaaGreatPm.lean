/- The program's looks at lists. -/
import Derived.Test.YtbghmemejbbhfaaGreatPl
set_option linter.unusedVariables false
set_option linter.unusedSimpArgs false
namespace Go.Am
open Go
theorem snap_scalar {h : Heap} {n : Nat} {v r : AVal} (hs : snapF h n v = some r) (hr : r.isScalar = true) : v = r := by
  cases n with
  | zero => cases hs
  | succ n =>
    cases v <;> (try simp only [snapF] at hs)
    case map id =>
      split at hs
      · split at hs
        · cases hs; cases hr
        · cases hs
      · cases hs
    case own id st len =>
      split at hs
      · split at hs
        · simp only [Option.map_eq_some_iff] at hs; obtain ⟨_, _, rfl⟩ := hs; cases hr
        · cases hs
      · cases hs
    case ptr id i off =>
      split at hs
      · split at hs
        · simp only [Option.map_eq_some_iff] at hs; obtain ⟨_, _, rfl⟩ := hs; cases hr
        · cases hs
      · simp only [Option.map_eq_some_iff] at hs; obtain ⟨_, _, rfl⟩ := hs; cases hr
      · cases hs
    case func fn a b =>
      split at hs
      · cases hs; cases hr
      · cases hs
    case agg cs => simp only [Option.map_eq_some_iff] at hs; obtain ⟨_, _, rfl⟩ := hs; cases hr
    case tup cs => simp only [Option.map_eq_some_iff] at hs; obtain ⟨_, _, rfl⟩ := hs; cases hr
    case iface t v => simp only [Option.map_eq_some_iff] at hs; obtain ⟨_, _, rfl⟩ := hs; cases hr
    all_goals (first | (cases hs; done) | (cases hs; rfl) | (cases hs; cases hr))
end Go.Am
namespace Go.Proofs.YtbghmemejbbhfaaGreat
open Go Go.Am
theorem Ret.some {pr : Prims} {f : FuncId} {args : List AVal} {res : AVal} (hr : Ret pr f args res) (hi : snapL [] args = some args) : ∃ v h1, call (cfp pr) f args [] = some (.ret v h1) ∧ snap h1 v = some res := by
  have h0 := hr []
  have hm : (cfp pr).M f = .P := rfl
  unfold callM at h0
  simp only [hm, hi] at h0
  cases hc : call (cfp pr) f args [] with
  | none => rw [hc] at h0; cases h0
  | some q =>
    rw [hc] at h0
    cases q with
    | ret v h1 =>
      simp only [Option.map_eq_some_iff] at h0
      obtain ⟨w, hw, he⟩ := h0
      cases he
      exact ⟨v, h1, rfl, hw⟩
    | pan v h1 =>
      simp only [Option.map_eq_some_iff] at h0
      obtain ⟨w, hw, he⟩ := h0
      cases he
/-- Arguments that become closed by freezing alone. -/
theorem Ret.snapped {pr : Prims} {f : FuncId} {args args' : List AVal} {res : AVal} (hr : Ret pr f args' res) (hs : snapL [] args = Option.some args') (hi : snapL [] args' = Option.some args') : Ret pr f args res := by
  obtain ⟨v, h1, hc, hv⟩ := hr.some hi
  intro h
  have hm : (cfp pr).M f = .P := rfl
  unfold callM
  simp only [hm, hs, hc, hv, Option.map_some]
/-- Arguments that lie in the caller's heap; the result is a plain one. -/
theorem Ret.frozen {pr : Prims} {f : FuncId} {args args' : List AVal} {res : AVal} {h : Heap} (hr : Ret pr f args' res) (hn : snapL [] args = Option.none) (hs : snapL h args = Option.some args') (hi : snapL [] args' = Option.some args') (hres : res.isScalar = true) :
    callM (cfp pr) (call (cfp pr)) f args h = Option.some (.ret res h) := by
  obtain ⟨v, h1, hc, hv⟩ := hr.some hi
  obtain rfl := snap_scalar hv hres
  have hm : (cfp pr).M f = .P := rfl
  have hsc : v.scal = true := by cases v <;> first | exact hres | cases hres
  unfold callM
  simp only [hm, hn, hs, hc, hsc, if_true]
variable {pr : Prims} (hp : Okp pr)
set_option maxRecDepth 100000
def idxI (v : Int) (k : Int) : List Int → Int
  | [] => -1
  | x :: xs => if v == x then k else idxI v (k + 1) xs
theorem idxI_iff (v : Int) : ∀ (xs : List Int) (k : Int), 0 ≤ k → (idxI v k xs ≥ 0 ↔ xs.contains v = true)
  | [], k, _ => by simp [idxI]
  | x :: xs, k, hk => by
    have ih := idxI_iff v xs (k + 1) (by omega)
    rw [List.contains_cons]
    unfold idxI
    by_cases h : (v == x) = true
    · rw [if_pos h]; simp [h]; exact hk
    · rw [if_neg h]; simp only [Bool.eq_false_iff.2 h, Bool.false_or]; exact ih
theorem idxI_ge (v : Int) (xs : List Int) (k : Int) (hk : 0 ≤ k) : decide (idxI v k xs ≥ 0) = xs.contains v := by
  rw [Bool.eq_iff_iff, decide_eq_true_iff]
  exact idxI_iff v xs k hk
theorem index_r (hp : Okp pr) (xs : List Int) (v : Int) (hl : xs.length ≤ 1048576) : Ret pr 142 [.sl (xs.map i64), i64 v] (i64 (idxI v 0 xs)) := by
  refine ret_of hp rfl rfl ?_
  conv => whnf
  refine loop_rule (fun m st => ∃ j : Nat, j + m = xs.length ∧ st.tm 0 = .sl (xs.map i64) ∧ st.tm 1 = i64 v ∧ st.tm 7 = i64 ((xs.map i64).length : Nat) ∧ st.tm 8 = i64 (j : Nat) ∧ st.hp = [] ∧ idxI v 0 xs = idxI v (j : Nat) (xs.drop j)) (fun m st hI => ?_) (xs.length) _ ⟨0, by simp, (by first | kernel_rfl | rfl | simp), (by first | kernel_rfl | rfl | simp), (by first | kernel_rfl | rfl | simp), (by first | kernel_rfl | rfl | simp), (by first | kernel_rfl | rfl | simp), (by first | rfl | simp)⟩
  obtain ⟨j, hj, e0, e1, e7, e8, hh, hall⟩ := hI
  obtain ⟨tm, hq⟩ := st
  simp only at e0 e1 e7 e8 hh
  subst hh
  rw [show tm = upd (upd (upd (upd tm 0 (.sl (xs.map i64))) 1 (i64 v)) 7 (i64 ((xs.map i64).length : Nat))) 8 (i64 (j : Nat)) by rw [upd_id e0, upd_id e1, upd_id e7, upd_id e8]]
  clear e0 e1 e7 e8
  conv => whnf
  refine bsel_intro (fun h1 => ?_) (fun h1 => ?_)
  · have hjl : j < xs.length := by simpa using h1
    rw [List.drop_eq_getElem_cons hjl] at hall
    simp only [idxI] at hall
    conv => whnf
    refine ⟨i64 xs[j], by simp [hjl], by omega, rfl, ?_⟩
    conv => whnf
    refine bsel_intro (fun h2 => ?_) (fun h2 => ?_)
    · conv => whnf
      exact fin_int (by rw [hall, h2]; rfl)
    · conv => whnf
      exact ⟨m - 1, by omega, j + 1, by omega, rfl, rfl, rfl, nat_step j (by omega), rfl, by rw [hall, h2]; rfl⟩
  · have hjl : j = xs.length := by have : ¬ j < xs.length := by simpa using h1
                                   omega
    subst hjl
    rw [List.drop_length] at hall
    conv => whnf
    exact fin_int (by rw [hall]; rfl)
theorem contains_r (hp : Okp pr) (xs : List Int) (v : Int) (hl : xs.length ≤ 1048576) : Ret pr 141 [.sl (xs.map i64), i64 v] (.bool (xs.contains v)) := by
  refine ret_of hp rfl rfl ?_
  rw [← idxI_ge v xs 0 (Int.le_refl 0)]
  iterate 3
    all_goals (try (conv => whnf))
    all_goals (first | (refine bsel_intro (fun hb => ?_) (fun hb => ?_)) | (refine ⟨_, index_r hp xs v hl _, ?_⟩) | skip)
  all_goals exact fin_bool hb.symm
theorem iKeysOk_r (hp : Okp pr) (xs : List Int) (wide : Int) (hl : xs.length ≤ 1048576) : Ret pr 140 [.sl (xs.map i64), i64 wide] (.bool (keysOk xs wide)) := by
  refine ret_of hp rfl rfl ?_
  conv => whnf
  refine bsel_intro (fun h0 => ?_) (fun h0 => ?_)
  · have hge : ¬ xs.length < 6 := by
      have : ((xs.map i64).length : Int) ≥ 6 := by simpa using h0
      simp at this
      omega
    conv => whnf
    exact fin_bool (by simp [keysOk, hge])
  have hlt : xs.length < 6 := by
    have : ¬ ((xs.map i64).length : Int) ≥ 6 := by simpa using h0
    simp at this
    omega
  have hko : keysOk xs wide = keysGo [] wide xs := by simp [keysOk, hlt]
  rw [hko]
  conv => whnf
  refine loop_rule (fun m st => ∃ j : Nat, j + m = xs.length ∧ st.tm 0 = .sl (xs.map i64) ∧ st.tm 1 = i64 wide ∧ st.tm 10 = .sl (xs.map i64) ∧ st.tm 11 = i64 ((xs.map i64).length : Nat) ∧ st.tm 12 = i64 (j : Nat) ∧ st.hp = [] ∧ keysGo [] wide xs = keysGo (xs.take j) wide (xs.drop j)) (fun m st hI => ?_) (xs.length) _ ⟨0, by simp, (by first | kernel_rfl | rfl | simp), (by first | kernel_rfl | rfl | simp), (by first | kernel_rfl | rfl | simp), (by first | kernel_rfl | rfl | simp), (by first | kernel_rfl | rfl | simp), (by first | kernel_rfl | rfl | simp), (by first | rfl | simp)⟩
  obtain ⟨j, hj, e0, e1, e10, e11, e12, hh, hall⟩ := hI
  obtain ⟨tm, hq⟩ := st
  simp only at e0 e1 e10 e11 e12 hh
  subst hh
  rw [show tm = upd (upd (upd (upd (upd tm 0 (.sl (xs.map i64))) 1 (i64 wide)) 10 (.sl (xs.map i64))) 11 (i64 ((xs.map i64).length : Nat))) 12 (i64 (j : Nat)) by rw [upd_id e0, upd_id e1, upd_id e10, upd_id e11, upd_id e12]]
  clear e0 e1 e10 e11 e12
  conv => whnf
  refine bsel_intro (fun h1 => ?_) (fun h1 => ?_)
  · have hjl : j < xs.length := by simpa using h1
    rw [List.drop_eq_getElem_cons hjl] at hall
    simp only [keysGo] at hall
    conv => whnf
    refine ⟨i64 xs[j], by simp [hjl], by omega, rfl, ?_⟩
    conv => whnf
    refine ⟨_, isPlace_r hp xs[j] wide _, ?_⟩
    conv => whnf
    refine bsel_intro (fun h2 => ?_) (fun h2 => ?_)
    · rw [h2, Bool.true_and] at hall
      conv => whnf
      refine ⟨⟨Int.le_refl 0, by show (0 : Int) ≤ ((j : Nat) : Int); omega, by show ((j : Nat) : Int) ≤ _; simp; omega, List.all_eq_true.2 fun y hy => ?_⟩, ?_⟩
      · obtain ⟨z, _, rfl⟩ := List.mem_map.1 hy
        rfl
      have htk : (AVal.sl (((xs.map i64).drop (0 : Int).toNat).take (((j : Nat) : Int).toNat - (0 : Int).toNat))) = .sl ((xs.take j).map i64) := by
        rw [Int.toNat_natCast]
        show AVal.sl (((xs.map i64).drop 0).take (j - 0)) = _
        rw [List.drop_zero, Nat.sub_zero, List.map_take]
      have hct : Ret pr 141 [AVal.sl (((xs.map i64).drop (0 : Int).toNat).take (((j : Nat) : Int).toNat - (0 : Int).toNat)), i64 xs[j]] (.bool ((xs.take j).contains xs[j])) := by
        rw [htk]
        exact contains_r hp (xs.take j) xs[j] (by simp; omega)
      conv => whnf
      refine ⟨_, hct _, ?_⟩
      conv => whnf
      refine bsel_intro (fun h3 => ?_) (fun h3 => ?_)
      · conv => whnf
        exact fin_bool (by rw [hall, h3]; rfl)
      · conv => whnf
        refine ⟨m - 1, by omega, j + 1, by omega, rfl, rfl, rfl, rfl, nat_step j (by omega), rfl, ?_⟩
        have htk2 : xs.take (j + 1) = xs.take j ++ [xs[j]] := (List.take_append_getElem hjl).symm
        rw [hall, h3, htk2]
        rfl
    · conv => whnf
      exact fin_bool (by rw [hall, h2]; rfl)
  · have hjl : j = xs.length := by have : ¬ j < xs.length := by simpa using h1
                                   omega
    subst hjl
    rw [List.drop_length] at hall
    conv => whnf
    exact fin_bool (by rw [hall]; rfl)
/-- The closure that asks of a cell whether it is not ok. -/
def cellF (ws : List Int) : AVal := .func (.func 117) [] [.iptr [.sl (ws.map i64)] 0 0]
theorem cellF_r (hp : Okp pr) (c : Cell) (w : Int) (ws : List Int) : Ret pr 117 [c.enc, .iptr [.sl ((w :: ws).map i64)] 0 0] (.bool (!cellOk c w)) := by
  have h := iCellOk_r hp c w
  obtain ⟨k, a, b, n⟩ := c
  refine ret_of hp rfl rfl ?_
  conv => whnf
  refine ⟨i64 w, rfl, by omega, rfl, ?_⟩
  iterate 3
    all_goals (try (conv => whnf))
    all_goals (first | (refine bsel_intro (fun hb => ?_) (fun hb => ?_)) | (refine ⟨_, h _, ?_⟩) | skip)
  all_goals exact fin_bool (by rw [hb])
def idxC (w : Int) (k : Int) : List Cell → Int
  | [] => -1
  | c :: cs => if !cellOk c w then k else idxC w (k + 1) cs
theorem idxC_iff (w : Int) : ∀ (xs : List Cell) (k : Int), 0 ≤ k → (idxC w k xs ≥ 0 ↔ (!xs.all (fun c => cellOk c w)) = true)
  | [], k, _ => by simp [idxC]
  | x :: xs, k, hk => by
    have ih := idxC_iff w xs (k + 1) (by omega)
    rw [List.all_cons]
    unfold idxC
    by_cases h : cellOk x w = true
    · rw [if_neg (by simp [h])]; simp only [h, Bool.true_and]; exact ih
    · rw [if_pos (by simp [h])]; simp only [Bool.eq_false_iff.2 h, Bool.false_and, Bool.not_false, iff_true]; exact hk
theorem idxC_ge (w : Int) (xs : List Cell) (k : Int) (hk : 0 ≤ k) : decide (idxC w k xs ≥ 0) = !xs.all (fun c => cellOk c w) := by
  rw [Bool.eq_iff_iff, decide_eq_true_iff]
  exact idxC_iff w xs k hk
theorem indexFunc_r (hp : Okp pr) (xs : List Cell) (w : Int) (ws : List Int) (hl : xs.length ≤ 1048576) : Ret pr 118 [.sl (xs.map Cell.enc), cellF (w :: ws)] (i64 (idxC w 0 xs)) := by
  refine ret_of hp rfl rfl ?_
  conv => whnf
  refine loop_rule (fun m st => ∃ j : Nat, j + m = xs.length ∧ st.tm 0 = .sl (xs.map Cell.enc) ∧ st.tm 1 = cellF (w :: ws) ∧ st.tm 7 = i64 ((xs.map Cell.enc).length : Nat) ∧ st.tm 8 = i64 (j : Nat) ∧ st.hp = [] ∧ idxC w 0 xs = idxC w (j : Nat) (xs.drop j)) (fun m st hI => ?_) (xs.length) _ ⟨0, by simp, (by first | kernel_rfl | rfl | simp), (by first | kernel_rfl | rfl | simp), (by first | kernel_rfl | rfl | simp), (by first | kernel_rfl | rfl | simp), (by first | kernel_rfl | rfl | simp), (by first | rfl | simp)⟩
  obtain ⟨j, hj, e0, e1, e7, e8, hh, hall⟩ := hI
  obtain ⟨tm, hq⟩ := st
  simp only at e0 e1 e7 e8 hh
  subst hh
  rw [show tm = upd (upd (upd (upd tm 0 (.sl (xs.map Cell.enc))) 1 (cellF (w :: ws))) 7 (i64 ((xs.map Cell.enc).length : Nat))) 8 (i64 (j : Nat)) by rw [upd_id e0, upd_id e1, upd_id e7, upd_id e8]]
  clear e0 e1 e7 e8
  conv => whnf
  refine bsel_intro (fun h1 => ?_) (fun h1 => ?_)
  · have hjl : j < xs.length := by simpa using h1
    rw [List.drop_eq_getElem_cons hjl] at hall
    simp only [idxC] at hall
    conv => whnf
    refine ⟨(xs[j]).enc, by simp [hjl], by omega, rfl, ?_⟩
    conv => whnf
    refine ⟨_, cellF_r hp xs[j] w ws _, ?_⟩
    conv => whnf
    refine bsel_intro (fun h2 => ?_) (fun h2 => ?_)
    · conv => whnf
      exact fin_int (by rw [hall, h2]; rfl)
    · conv => whnf
      exact ⟨m - 1, by omega, j + 1, by omega, rfl, rfl, rfl, nat_step j (by omega), rfl, by rw [hall, h2]; rfl⟩
  · have hjl : j = xs.length := by have : ¬ j < xs.length := by simpa using h1
                                   omega
    subst hjl
    rw [List.drop_length] at hall
    conv => whnf
    exact fin_int (by rw [hall]; rfl)
theorem containsFunc_r (hp : Okp pr) (xs : List Cell) (w : Int) (ws : List Int) (hl : xs.length ≤ 1048576) : Ret pr 116 [.sl (xs.map Cell.enc), cellF (w :: ws)] (.bool (!xs.all (fun c => cellOk c w))) := by
  refine ret_of hp rfl rfl ?_
  rw [← idxC_ge w xs 0 (Int.le_refl 0)]
  iterate 3
    all_goals (try (conv => whnf))
    all_goals (first | (refine bsel_intro (fun hb => ?_) (fun hb => ?_)) | (refine ⟨_, indexFunc_r hp xs w ws hl _, ?_⟩) | skip)
  all_goals exact fin_bool hb.symm
end Go.Proofs.YtbghmemejbbhfaaGreat

/- The law's own functions: copies, comparisons, sizes. -/
import Derived.Test.YtbghmemejbbhfaaGreatPg
set_option linter.unusedVariables false
set_option linter.unusedSimpArgs false
namespace Go.Proofs.YtbghmemejbbhfaaGreat
open Go Go.Am
variable {pr : Prims} (hp : Okp pr)
set_option maxRecDepth 100000
theorem toCell_r (hp : Okp pr) (c : Cell) : Ret pr 46 [c.enc] c.enc := by
  refine ret_of hp rfl rfl ?_
  conv => whnf
  exact ⟨_, _, rfl, rfl⟩
theorem toTest_r (hp : Okp pr) (t : Test) : Ret pr 22 [t.enc] t.enc := by
  obtain ⟨k, no, l, r⟩ := t
  refine ret_of hp rfl rfl ?_
  cases no
  iterate 2
    · conv => whnf
      refine ⟨_, toCell_r hp l _, ?_⟩
      conv => whnf
      refine ⟨_, toCell_r hp r _, ?_⟩
      conv => whnf
      refine ⟨_, _, rfl, ?_⟩
      kernel_rfl
def zCell : AVal := .agg [i64 0, i64 0, i64 0, i64 0]
theorem toCellS_r (hp : Okp pr) (xs : List Cell) (hl : xs.length ≤ 1048576) : Ret pr 23 [.sl (xs.map Cell.enc)] (.sl (xs.map Cell.enc)) := by
  have hlen : (((xs.map Cell.enc).length : Nat) : Int).toNat = xs.length := by simp
  refine ret_of hp rfl rfl ?_
  conv => whnf
  refine ⟨?_, ?_⟩
  · simp [sizeLim]; omega
  conv => whnf
  refine loop_rule (fun m st => ∃ j : Nat, j + m = xs.length ∧ st.tm 0 = .sl (xs.map Cell.enc) ∧ st.tm 3 = .own 0 0 (((xs.map Cell.enc).length : Nat) : Int).toNat ∧ st.tm 4 = i64 (j : Nat) ∧ st.hp = [.arr 4 ((xs.take j).map Cell.enc ++ List.replicate ((((xs.map Cell.enc).length : Nat) : Int).toNat - j) zCell)]) (fun m st hI => ?_) (xs.length) _ ⟨0, by simp, (by first | kernel_rfl | rfl | simp), (by first | kernel_rfl | rfl | simp), (by first | kernel_rfl | rfl | simp), (by first | kernel_rfl | rfl | simp)⟩
  obtain ⟨j, hj, e0, e3, e4, hh⟩ := hI
  obtain ⟨tm, hq⟩ := st
  simp only at e0 e3 e4 hh
  subst hh
  rw [show tm = upd (upd (upd tm 0 (.sl (xs.map Cell.enc))) 3 (.own 0 0 (((xs.map Cell.enc).length : Nat) : Int).toNat)) 4 (i64 (j : Nat)) by rw [upd_id e0, upd_id e3, upd_id e4]]
  clear e0 e3 e4
  conv => whnf
  · refine bsel_intro (fun h1 => ?_) (fun h1 => ?_)
    · have hjl : j < xs.length := by simpa using h1
      obtain ⟨m', rfl⟩ : ∃ m', m = m' + 1 := ⟨m - 1, by omega⟩
      have hm1 : ((((xs.map Cell.enc).length : Nat) : Int).toNat - j) = m' + 1 := by rw [hlen]; omega
      have hm2 : ((((xs.map Cell.enc).length : Nat) : Int).toNat - (j + 1)) = m' := by rw [hlen]; omega
      have hge : (xs.map Cell.enc)[((j : Nat) : Int).toNat]? = some (Cell.enc xs[j]) := by rw [Int.toNat_natCast]; simp [hjl]
      have hfill := fill_step Cell.enc zCell xs j m' hjl
      have hfg := fill_get Cell.enc zCell xs j m' hjl
      conv => whnf
      refine ⟨(xs[j]).enc, hge, by omega, rfl, ?_⟩
      conv => whnf
      refine ⟨_, toCell_r hp xs[j] _, ?_⟩
      conv => whnf
      refine ⟨⟨by omega, by rw [hlen]; omega⟩, rfl, ?_⟩
      conv => whnf
      refine ⟨zCell, ?_, ?_⟩
      · refine Eq.trans (b := ((xs.take j).map Cell.enc ++ List.replicate ((((xs.map Cell.enc).length : Nat) : Int).toNat - j) zCell)[0 + (j : Int).toNat]?) ?_ ?_
        · kernel_rfl
        · rw [hm1, Int.toNat_natCast, Nat.zero_add]
          exact hfg
      conv => whnf
      refine ⟨m', by omega, j + 1, by omega, rfl, rfl, nat_step j (by omega), ?_⟩
      refine Eq.trans (b := [AObj.arr 4 (((xs.take j).map Cell.enc ++ List.replicate ((((xs.map Cell.enc).length : Nat) : Int).toNat - j) zCell).set (0 + (j : Int).toNat) ((xs[j]).enc))]) ?_ ?_
      · kernel_rfl
      · rw [hm1, hm2, Int.toNat_natCast, Nat.zero_add, hfill]
    · have hje : j = xs.length := by
        have : ¬ j < xs.length := by simpa using h1
        omega
      subst hje
      conv => whnf
      refine ⟨_, _, rfl, ?_⟩
      refine Eq.trans (b := snap [.arr 4 ((xs.take xs.length).map Cell.enc ++ List.replicate ((((xs.map Cell.enc).length : Nat) : Int).toNat - xs.length) zCell)] (.own 0 0 ((((xs.map Cell.enc).length : Nat) : Int).toNat))) ?_ ?_
      · kernel_rfl
      · have hs := snap_own0 (sz := 4) (es := xs.map Cell.enc) fun x hx => by
          obtain ⟨c, _, rfl⟩ := List.mem_map.1 hx
          rfl
        rw [hlen, Nat.sub_self, List.take_length]
        simpa using hs
theorem toIntS_r (hp : Okp pr) (xs : List Int) (hl : xs.length ≤ 1048576) : Ret pr 24 [.sl (xs.map i64)] (.sl (xs.map i64)) := by
  have hlen : (((xs.map i64).length : Nat) : Int).toNat = xs.length := by simp
  refine ret_of hp rfl rfl ?_
  conv => whnf
  refine ⟨?_, ?_⟩
  · simp [sizeLim]; omega
  conv => whnf
  refine loop_rule (fun m st => ∃ j : Nat, j + m = xs.length ∧ st.tm 0 = .sl (xs.map i64) ∧ st.tm 3 = .own 0 0 (((xs.map i64).length : Nat) : Int).toNat ∧ st.tm 4 = i64 (j : Nat) ∧ st.hp = [.arr 1 ((xs.take j).map i64 ++ List.replicate ((((xs.map i64).length : Nat) : Int).toNat - j) (i64 0))]) (fun m st hI => ?_) (xs.length) _ ⟨0, by simp, (by first | kernel_rfl | rfl | simp), (by first | kernel_rfl | rfl | simp), (by first | kernel_rfl | rfl | simp), (by first | kernel_rfl | rfl | simp)⟩
  obtain ⟨j, hj, e0, e3, e4, hh⟩ := hI
  obtain ⟨tm, hq⟩ := st
  simp only at e0 e3 e4 hh
  subst hh
  rw [show tm = upd (upd (upd tm 0 (.sl (xs.map i64))) 3 (.own 0 0 (((xs.map i64).length : Nat) : Int).toNat)) 4 (i64 (j : Nat)) by rw [upd_id e0, upd_id e3, upd_id e4]]
  clear e0 e3 e4
  conv => whnf
  · refine bsel_intro (fun h1 => ?_) (fun h1 => ?_)
    · have hjl : j < xs.length := by simpa using h1
      obtain ⟨m', rfl⟩ : ∃ m', m = m' + 1 := ⟨m - 1, by omega⟩
      have hm1 : ((((xs.map i64).length : Nat) : Int).toNat - j) = m' + 1 := by rw [hlen]; omega
      have hm2 : ((((xs.map i64).length : Nat) : Int).toNat - (j + 1)) = m' := by rw [hlen]; omega
      have hge : (xs.map i64)[((j : Nat) : Int).toNat]? = some (i64 xs[j]) := by rw [Int.toNat_natCast]; simp [hjl]
      have hfill := fill_step i64 (i64 0) xs j m' hjl
      have hfg := fill_get i64 (i64 0) xs j m' hjl
      conv => whnf
      refine ⟨i64 xs[j], hge, by omega, rfl, ?_⟩
      conv => whnf
      refine ⟨⟨by omega, by rw [hlen]; omega⟩, rfl, ?_⟩
      conv => whnf
      refine ⟨(i64 0), ?_, ?_⟩
      · refine Eq.trans (b := ((xs.take j).map i64 ++ List.replicate ((((xs.map i64).length : Nat) : Int).toNat - j) (i64 0))[0 + (j : Int).toNat]?) ?_ ?_
        · kernel_rfl
        · rw [hm1, Int.toNat_natCast, Nat.zero_add]
          exact hfg
      conv => whnf
      refine ⟨m', by omega, j + 1, by omega, rfl, rfl, nat_step j (by omega), ?_⟩
      refine Eq.trans (b := [AObj.arr 1 (((xs.take j).map i64 ++ List.replicate ((((xs.map i64).length : Nat) : Int).toNat - j) (i64 0)).set (0 + (j : Int).toNat) (i64 xs[j]))]) ?_ ?_
      · kernel_rfl
      · rw [hm1, hm2, Int.toNat_natCast, Nat.zero_add, hfill]
    · have hje : j = xs.length := by
        have : ¬ j < xs.length := by simpa using h1
        omega
      subst hje
      conv => whnf
      refine ⟨_, _, rfl, ?_⟩
      refine Eq.trans (b := snap [.arr 1 ((xs.take xs.length).map i64 ++ List.replicate ((((xs.map i64).length : Nat) : Int).toNat - xs.length) (i64 0))] (.own 0 0 ((((xs.map i64).length : Nat) : Int).toNat))) ?_ ?_
      · kernel_rfl
      · have hs := snap_own0 (sz := 1) (es := xs.map i64) fun x hx => by
          obtain ⟨c, _, rfl⟩ := List.mem_map.1 hx
          rfl
        rw [hlen, Nat.sub_self, List.take_length]
        simpa using hs
def zPlan : AVal := .agg [i64 0, i64 0, i64 0, .bool false, i64 0, i64 0, i64 0, i64 0, i64 0, i64 0, i64 0, i64 0, .nil, i64 0, i64 0, .nil, i64 0, i64 0, .nil]
theorem toPlanS_r (hp : Okp pr) (xs : List Plan) (hl : xs.length ≤ 1048576) (ih : ∀ p ∈ xs, Ret pr 8 [p.enc] p.enc) : Ret pr 25 [.sl (Plan.encs xs)] (.sl (Plan.encs xs)) := by
  have hlen : (((Plan.encs xs).length : Nat) : Int).toNat = xs.length := by simp [encs_len]
  refine ret_of hp rfl rfl ?_
  conv => whnf
  refine ⟨?_, ?_⟩
  · simp [sizeLim, encs_len]; omega
  conv => whnf
  refine loop_rule (fun m st => ∃ j : Nat, j + m = xs.length ∧ st.tm 0 = .sl (Plan.encs xs) ∧ st.tm 3 = .own 0 0 (((Plan.encs xs).length : Nat) : Int).toNat ∧ st.tm 4 = i64 (j : Nat) ∧ st.hp = [.arr 19 ((xs.take j).map Plan.enc ++ List.replicate ((((Plan.encs xs).length : Nat) : Int).toNat - j) zPlan)]) (fun m st hI => ?_) (xs.length) _ ⟨0, by simp, (by first | kernel_rfl | rfl | simp), (by first | kernel_rfl | rfl | simp), (by first | kernel_rfl | rfl | simp), (by first | kernel_rfl | rfl | simp)⟩
  obtain ⟨j, hj, e0, e3, e4, hh⟩ := hI
  obtain ⟨tm, hq⟩ := st
  simp only at e0 e3 e4 hh
  subst hh
  rw [show tm = upd (upd (upd tm 0 (.sl (Plan.encs xs))) 3 (.own 0 0 (((Plan.encs xs).length : Nat) : Int).toNat)) 4 (i64 (j : Nat)) by rw [upd_id e0, upd_id e3, upd_id e4]]
  clear e0 e3 e4
  conv => whnf
  · refine bsel_intro (fun h1 => ?_) (fun h1 => ?_)
    · have hjl : j < xs.length := by simpa [encs_len] using h1
      obtain ⟨m', rfl⟩ : ∃ m', m = m' + 1 := ⟨m - 1, by omega⟩
      have hm1 : ((((Plan.encs xs).length : Nat) : Int).toNat - j) = m' + 1 := by rw [hlen]; omega
      have hm2 : ((((Plan.encs xs).length : Nat) : Int).toNat - (j + 1)) = m' := by rw [hlen]; omega
      have hge : (Plan.encs xs)[((j : Nat) : Int).toNat]? = some (Plan.enc xs[j]) := by rw [Int.toNat_natCast, encs_get]; simp [hjl]
      have hfill := fill_step Plan.enc zPlan xs j m' hjl
      have hfg := fill_get Plan.enc zPlan xs j m' hjl
      have hih := ih xs[j] (List.getElem_mem hjl)
      generalize xs[j] = q at hge hfill hih
      obtain ⟨kind, n, test, cells, a, b, keys, agg, c, kids⟩ := q
      conv => whnf
      refine ⟨(Plan.mk kind n test cells a b keys agg c kids).enc, hge, by omega, rfl, ?_⟩
      conv => whnf
      refine ⟨_, hih _, ?_⟩
      conv => whnf
      refine ⟨⟨by omega, by rw [hlen]; omega⟩, rfl, ?_⟩
      conv => whnf
      refine ⟨zPlan, ?_, ?_⟩
      · refine Eq.trans (b := ((xs.take j).map Plan.enc ++ List.replicate ((((Plan.encs xs).length : Nat) : Int).toNat - j) zPlan)[0 + (j : Int).toNat]?) ?_ ?_
        · kernel_rfl
        · rw [hm1, Int.toNat_natCast, Nat.zero_add]
          exact hfg
      conv => whnf
      refine ⟨m', by omega, j + 1, by omega, rfl, rfl, nat_step j (by omega), ?_⟩
      refine Eq.trans (b := [AObj.arr 19 (((xs.take j).map Plan.enc ++ List.replicate ((((Plan.encs xs).length : Nat) : Int).toNat - j) zPlan).set (0 + (j : Int).toNat) ((Plan.mk kind n test cells a b keys agg c kids).enc))]) ?_ ?_
      · kernel_rfl
      · rw [hm1, hm2, Int.toNat_natCast, Nat.zero_add, hfill]
    · have hje : j = xs.length := by
        have : ¬ j < xs.length := by simpa [encs_len] using h1
        omega
      subst hje
      conv => whnf
      refine ⟨_, _, rfl, ?_⟩
      refine Eq.trans (b := snap [.arr 19 ((xs.take xs.length).map Plan.enc ++ List.replicate ((((Plan.encs xs).length : Nat) : Int).toNat - xs.length) zPlan)] (.own 0 0 ((((Plan.encs xs).length : Nat) : Int).toNat))) ?_ ?_
      · kernel_rfl
      · have hs := snap_own0 (sz := 19) (es := xs.map Plan.enc) fun x hx => by
          obtain ⟨c, _, rfl⟩ := List.mem_map.1 hx
          obtain ⟨kind, n, test, cells, a, b, keys, agg, col, kids⟩ := c
          rfl
        rw [hlen, Nat.sub_self, List.take_length]
        rw [← encs_eq] at hs
        simpa [encs_len, encs_eq] using hs
end Go.Proofs.YtbghmemejbbhfaaGreat

/- How wide parts are. -/
import Derived.Test.YtbghmemejbbhfaaGreatPo
set_option linter.unusedVariables false
set_option linter.unusedSimpArgs false
namespace Go.Proofs.YtbghmemejbbhfaaGreat
open Go Go.Am
variable {pr : Prims} (hp : Okp pr)
set_option maxRecDepth 100000
def nth (ws : List Int) (i : Nat) : Int := (ws[i]?).getD 0
def partWide : Plan → List Int → Int
  | .mk kind n test cells a b keys agg c _, ws =>
    if kind = 1 then (if decide (0 ≤ n) && decide (n < ws.length) then nth ws n.toNat else -1)
    else if kind = 2 then (if testOk test (nth ws 0) then nth ws 0 else -1)
    else if kind = 3 then (if decide (1 ≤ cells.length) && (decide (cells.length ≤ 6) && cells.all (fun c => cellOk c (nth ws 0))) then (cells.length : Int) else -1)
    else if kind = 4 then (if col a (nth ws 0) && col b (nth ws 1) then IntKind.i64.wrap (nth ws 0 + nth ws 1) else -1)
    else if kind = 5 then (if nth ws 0 == nth ws 1 then nth ws 0 else -1)
    else if kind = 6 then nth ws 0
    else (if decide (0 ≤ agg) && (decide (agg ≤ 3) && (keysOk keys (nth ws 0) && col c (nth ws 0))) then (keys.length : Int) + 1 else -1)
theorem tableWide_r (hp : Okp pr) (n : Int) (test : Test) (cells : List Cell) (a b : Int) (keys : List Int) (agg c : Int) (kids : List Plan) (ws : List Int) (h0 : ws ≠ []) (hl : ws.length ≤ 1048576) :
    Ret pr 102 [.agg [], (Plan.mk 1 n test cells a b keys agg c kids).enc, .sl (ws.map i64)] (i64 (partWide (Plan.mk 1 n test cells a b keys agg c kids) ws)) := by
  have hpos : 0 < ws.length := List.length_pos_iff.2 h0
  have hw1 : IntKind.i64.wrap (((ws.map i64).length : Int) - 1) = (ws.length : Int) - 1 := by rw [IntKind.wrap_i64]; simp; omega
  have hwi := wideIf_r hp
  have key : ∀ (ok : Bool), ok = (decide (0 ≤ n) && decide (n < ws.length)) → ∃ y, (ws.map i64)[(if (if IntKind.i64.wrap (((ws.map i64).length : Int) - 1) < n then IntKind.i64.wrap (((ws.map i64).length : Int) - 1) else n) > 0 then (if IntKind.i64.wrap (((ws.map i64).length : Int) - 1) < n then IntKind.i64.wrap (((ws.map i64).length : Int) - 1) else n) else 0).toNat]? = some (i64 y) ∧
      0 ≤ (if (if IntKind.i64.wrap (((ws.map i64).length : Int) - 1) < n then IntKind.i64.wrap (((ws.map i64).length : Int) - 1) else n) > 0 then (if IntKind.i64.wrap (((ws.map i64).length : Int) - 1) < n then IntKind.i64.wrap (((ws.map i64).length : Int) - 1) else n) else 0) ∧ (if ok then y else -1) = partWide (Plan.mk 1 n test cells a b keys agg c kids) ws := by
    intro ok hok
    rw [hw1]
    generalize hi : (if (if (ws.length : Int) - 1 < n then (ws.length : Int) - 1 else n) > 0 then (if (ws.length : Int) - 1 < n then (ws.length : Int) - 1 else n) else 0) = i
    have hi0 : 0 ≤ i ∧ i < ws.length ∧ (0 ≤ n → n < ws.length → i = n) := by
      subst hi
      refine ⟨by split <;> omega, by split <;> (try split) <;> omega, fun _ _ => by split <;> (try split at *) <;> omega⟩
    obtain ⟨a1, a2, a3⟩ := hi0
    have hlt : i.toNat < ws.length := by omega
    refine ⟨ws[i.toNat], by simp [hlt], a1, ?_⟩
    have hpw : partWide (Plan.mk 1 n test cells a b keys agg c kids) ws = if decide (0 ≤ n) && decide (n < ws.length) then nth ws n.toNat else -1 := rfl
    rw [hpw, hok]
    by_cases h : (decide (0 ≤ n) && decide (n < (ws.length : Int))) = true
    · rw [if_pos h, if_pos h]
      simp only [Bool.and_eq_true, decide_eq_true_eq] at h
      obtain rfl := a3 h.1 h.2
      simp [nth, hlt]
    · rw [if_neg h, if_neg h]
  refine ret_of hp rfl rfl ?_
  conv => whnf
  refine bsel_intro (fun g1 => ?_) (fun g1 => ?_)
  · conv => whnf
    refine bsel_intro (fun g2 => ?_) (fun g2 => ?_)
    · conv => whnf
      obtain ⟨y, k1, k2, k3⟩ := key true (by simp at g1 g2; simp; omega)
      refine ⟨_, k1, k2, rfl, ?_⟩
      conv => whnf
      refine ⟨_, hwi true y _, ?_⟩
      conv => whnf
      exact fin_int k3
    · conv => whnf
      obtain ⟨y, k1, k2, k3⟩ := key false (by simp at g1 g2; simp; omega)
      refine ⟨_, k1, k2, rfl, ?_⟩
      conv => whnf
      refine ⟨_, hwi false y _, ?_⟩
      conv => whnf
      exact fin_int k3
  · conv => whnf
    obtain ⟨y, k1, k2, k3⟩ := key false (by simp at g1; simp; omega)
    refine ⟨_, k1, k2, rfl, ?_⟩
    conv => whnf
    refine ⟨_, hwi false y _, ?_⟩
    conv => whnf
    exact fin_int k3
theorem whereWide_r (hp : Okp pr) (n : Int) (test : Test) (cells : List Cell) (a b : Int) (keys : List Int) (agg c : Int) (kids : List Plan) (w : Int) (ws : List Int) :
    Ret pr 107 [.agg [], (Plan.mk 2 n test cells a b keys agg c kids).enc, .sl ((w :: ws).map i64)] (i64 (partWide (Plan.mk 2 n test cells a b keys agg c kids) (w :: ws))) := by
  have ht := iTestOk_r hp test w
  have hwi := wideIf_r hp
  refine ret_of hp rfl rfl ?_
  conv => whnf
  refine ⟨i64 w, rfl, by omega, rfl, ?_⟩
  conv => whnf
  refine ⟨_, ht _, ?_⟩
  conv => whnf
  refine bsel_intro (fun g1 => ?_) (fun g1 => ?_)
  · conv => whnf
    refine ⟨i64 w, rfl, by omega, rfl, ?_⟩
    conv => whnf
    refine ⟨_, hwi _ w _, ?_⟩
    conv => whnf
    exact fin_int (by simp [partWide, nth, g1])
  · conv => whnf
    refine ⟨i64 w, rfl, by omega, rfl, ?_⟩
    conv => whnf
    refine ⟨_, hwi _ w _, ?_⟩
    conv => whnf
    exact fin_int (by simp [partWide, nth, g1])
theorem mapWide_r (hp : Okp pr) (n : Int) (test : Test) (cells : List Cell) (a b : Int) (keys : List Int) (agg c : Int) (kids : List Plan) (w : Int) (ws : List Int) (hl : cells.length ≤ 1048576) :
    Ret pr 115 [.agg [], (Plan.mk 3 n test cells a b keys agg c kids).enc, .sl ((w :: ws).map i64)] (i64 (partWide (Plan.mk 3 n test cells a b keys agg c kids) (w :: ws))) := by
  have hc := containsFunc_r hp cells w ws hl
  have hwi := fun ok => wideIf_r hp ok (cells.map Cell.enc).length
  have hpw : partWide (Plan.mk 3 n test cells a b keys agg c kids) (w :: ws) = if decide (1 ≤ cells.length) && (decide (cells.length ≤ 6) && cells.all (fun c => cellOk c w)) then (cells.length : Int) else -1 := rfl
  rw [hpw]
  refine ret_of hp rfl rfl ?_
  conv => whnf
  refine ⟨_, hc.frozen rfl rfl rfl rfl, ?_⟩
  iterate 6
    all_goals (try (conv => whnf))
    all_goals (first | (refine bsel_intro (fun hb => ?_) (fun hb => ?_)) | (refine ⟨_, hwi _ _, ?_⟩) | skip)
  all_goals exact fin_int (by clear hc hwi hpw; simp_all; try omega)
end Go.Proofs.YtbghmemejbbhfaaGreat

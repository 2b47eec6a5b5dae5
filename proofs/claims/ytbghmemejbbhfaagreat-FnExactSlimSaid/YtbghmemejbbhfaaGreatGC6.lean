/- How wide plans are. -/
import Derived.Test.YtbghmemejbbhfaaGreatGC5
import Derived.Test.YtbghmemejbbhfaaGreatGC3
set_option linter.unusedVariables false
set_option linter.unusedSimpArgs false
/- How wide parts are. -/
namespace Go.Proofs.YtbghmemejbbhfaaGreat
open Go Go.Am
variable {pr : Prims} (hp : Okp pr)
set_option maxRecDepth 100000
def nth (ws : List Int) (i : Nat) : Int := (ws[i]?).getD 0
def partWide : Plan → List Int → Int
  | .mk kind n test cells a b keys agg c _, ws =>
    if kind = 1 then (if decide (0 ≤ n) && decide (n < ws.length) then nth ws n.toNat else -1)
    else if kind = 2 then (if testOk test (nth ws 0) then nth ws 0 else -1)
    else if kind = 3 then (if decide (1 ≤ cells.length) && (decide (cells.length ≤ 6) && cells.all (fun c => cellOk c (nth ws 0))) then (cells.length : Int) else -1)
    else if kind = 4 then (if col a (nth ws 0) && col b (nth ws 1) then IntKind.i64.wrap (nth ws 0 + nth ws 1) else -1)
    else if kind = 5 then (if nth ws 0 == nth ws 1 then nth ws 0 else -1)
    else if kind = 6 then nth ws 0
    else (if decide (0 ≤ agg) && (decide (agg ≤ 3) && (keysOk keys (nth ws 0) && col c (nth ws 0))) then (keys.length : Int) + 1 else -1)
theorem tableWide_r (hp : Okp pr) (n : Int) (test : Test) (cells : List Cell) (a b : Int) (keys : List Int) (agg c : Int) (kids : List Plan) (ws : List Int) (h0 : ws ≠ []) (hl : ws.length ≤ 1048576) :
    Ret pr 102 [.agg [], (Plan.mk 1 n test cells a b keys agg c kids).enc, .sl (ws.map i64)] (i64 (partWide (Plan.mk 1 n test cells a b keys agg c kids) ws)) := by
  have hpos : 0 < ws.length := List.length_pos_iff.2 h0
  have hw1 : IntKind.i64.wrap (((ws.map i64).length : Int) - 1) = (ws.length : Int) - 1 := by rw [IntKind.wrap_i64]; simp; omega
  have hwi := wideIf_r hp
  have key : ∀ (ok : Bool), ok = (decide (0 ≤ n) && decide (n < ws.length)) → ∃ y, (ws.map i64)[(if (if IntKind.i64.wrap (((ws.map i64).length : Int) - 1) < n then IntKind.i64.wrap (((ws.map i64).length : Int) - 1) else n) > 0 then (if IntKind.i64.wrap (((ws.map i64).length : Int) - 1) < n then IntKind.i64.wrap (((ws.map i64).length : Int) - 1) else n) else 0).toNat]? = some (i64 y) ∧
      0 ≤ (if (if IntKind.i64.wrap (((ws.map i64).length : Int) - 1) < n then IntKind.i64.wrap (((ws.map i64).length : Int) - 1) else n) > 0 then (if IntKind.i64.wrap (((ws.map i64).length : Int) - 1) < n then IntKind.i64.wrap (((ws.map i64).length : Int) - 1) else n) else 0) ∧ (if ok then y else -1) = partWide (Plan.mk 1 n test cells a b keys agg c kids) ws := by
    intro ok hok
    rw [hw1]
    generalize hi : (if (if (ws.length : Int) - 1 < n then (ws.length : Int) - 1 else n) > 0 then (if (ws.length : Int) - 1 < n then (ws.length : Int) - 1 else n) else 0) = i
    have hi0 : 0 ≤ i ∧ i < ws.length ∧ (0 ≤ n → n < ws.length → i = n) := by
      subst hi
      refine ⟨by split <;> omega, by split <;> (try split) <;> omega, fun _ _ => by split <;> (try split at *) <;> omega⟩
    obtain ⟨a1, a2, a3⟩ := hi0
    have hlt : i.toNat < ws.length := by omega
    refine ⟨ws[i.toNat], by simp [hlt], a1, ?_⟩
    have hpw : partWide (Plan.mk 1 n test cells a b keys agg c kids) ws = if decide (0 ≤ n) && decide (n < ws.length) then nth ws n.toNat else -1 := rfl
    rw [hpw, hok]
    by_cases h : (decide (0 ≤ n) && decide (n < (ws.length : Int))) = true
    · rw [if_pos h, if_pos h]
      simp only [Bool.and_eq_true, decide_eq_true_eq] at h
      obtain rfl := a3 h.1 h.2
      simp [nth, hlt]
    · rw [if_neg h, if_neg h]
  refine ret_of hp rfl rfl ?_
  conv => whnf
  refine bsel_intro (fun g1 => ?_) (fun g1 => ?_)
  · conv => whnf
    refine bsel_intro (fun g2 => ?_) (fun g2 => ?_)
    · conv => whnf
      obtain ⟨y, k1, k2, k3⟩ := key true (by simp at g1 g2; simp; omega)
      refine ⟨_, k1, k2, rfl, ?_⟩
      conv => whnf
      refine ⟨_, hwi true y _, ?_⟩
      conv => whnf
      exact fin_int k3
    · conv => whnf
      obtain ⟨y, k1, k2, k3⟩ := key false (by simp at g1 g2; simp; omega)
      refine ⟨_, k1, k2, rfl, ?_⟩
      conv => whnf
      refine ⟨_, hwi false y _, ?_⟩
      conv => whnf
      exact fin_int k3
  · conv => whnf
    obtain ⟨y, k1, k2, k3⟩ := key false (by simp at g1; simp; omega)
    refine ⟨_, k1, k2, rfl, ?_⟩
    conv => whnf
    refine ⟨_, hwi false y _, ?_⟩
    conv => whnf
    exact fin_int k3
theorem whereWide_r (hp : Okp pr) (n : Int) (test : Test) (cells : List Cell) (a b : Int) (keys : List Int) (agg c : Int) (kids : List Plan) (w : Int) (ws : List Int) :
    Ret pr 107 [.agg [], (Plan.mk 2 n test cells a b keys agg c kids).enc, .sl ((w :: ws).map i64)] (i64 (partWide (Plan.mk 2 n test cells a b keys agg c kids) (w :: ws))) := by
  have ht := iTestOk_r hp test w
  have hwi := wideIf_r hp
  refine ret_of hp rfl rfl ?_
  conv => whnf
  refine ⟨i64 w, rfl, by omega, rfl, ?_⟩
  conv => whnf
  refine ⟨_, ht _, ?_⟩
  conv => whnf
  refine bsel_intro (fun g1 => ?_) (fun g1 => ?_)
  · conv => whnf
    refine ⟨i64 w, rfl, by omega, rfl, ?_⟩
    conv => whnf
    refine ⟨_, hwi _ w _, ?_⟩
    conv => whnf
    exact fin_int (by simp [partWide, nth, g1])
  · conv => whnf
    refine ⟨i64 w, rfl, by omega, rfl, ?_⟩
    conv => whnf
    refine ⟨_, hwi _ w _, ?_⟩
    conv => whnf
    exact fin_int (by simp [partWide, nth, g1])
theorem mapWide_r (hp : Okp pr) (n : Int) (test : Test) (cells : List Cell) (a b : Int) (keys : List Int) (agg c : Int) (kids : List Plan) (w : Int) (ws : List Int) (hl : cells.length ≤ 1048576) :
    Ret pr 115 [.agg [], (Plan.mk 3 n test cells a b keys agg c kids).enc, .sl ((w :: ws).map i64)] (i64 (partWide (Plan.mk 3 n test cells a b keys agg c kids) (w :: ws))) := by
  have hc := containsFunc_r hp cells w ws hl
  have hwi := fun ok => wideIf_r hp ok (cells.map Cell.enc).length
  have hpw : partWide (Plan.mk 3 n test cells a b keys agg c kids) (w :: ws) = if decide (1 ≤ cells.length) && (decide (cells.length ≤ 6) && cells.all (fun c => cellOk c w)) then (cells.length : Int) else -1 := rfl
  rw [hpw]
  refine ret_of hp rfl rfl ?_
  conv => whnf
  refine ⟨_, hc.frozen rfl rfl rfl rfl, ?_⟩
  iterate 6
    all_goals (try (conv => whnf))
    all_goals (first | (refine bsel_intro (fun hb => ?_) (fun hb => ?_)) | (refine ⟨_, hwi _ _, ?_⟩) | skip)
  all_goals exact fin_int (by clear hc hwi hpw; simp_all; try omega)
end Go.Proofs.YtbghmemejbbhfaaGreat
/- How wide parts are; their shape. -/
namespace Go.Proofs.YtbghmemejbbhfaaGreat
open Go Go.Am
variable {pr : Prims} (hp : Okp pr)
set_option maxRecDepth 100000
theorem joinWide_r (hp : Okp pr) (n : Int) (test : Test) (cells : List Cell) (a b : Int) (keys : List Int) (agg c : Int) (kids : List Plan) (w v : Int) (ws : List Int) :
    Ret pr 123 [.agg [], (Plan.mk 4 n test cells a b keys agg c kids).enc, .sl ((w :: v :: ws).map i64)] (i64 (partWide (Plan.mk 4 n test cells a b keys agg c kids) (w :: v :: ws))) := by
  have h1 := isPlace_r hp a w
  have h2 := isPlace_r hp b v
  have hwi := fun ok => wideIf_r hp ok (IntKind.i64.wrap (w + v))
  have hpw : partWide (Plan.mk 4 n test cells a b keys agg c kids) (w :: v :: ws) = if col a w && col b v then IntKind.i64.wrap (w + v) else -1 := rfl
  rw [hpw]
  refine ret_of hp rfl rfl ?_
  iterate 10
    all_goals (try (conv => whnf))
    all_goals (first | (refine ⟨i64 w, rfl, by omega, rfl, ?_⟩) | (refine ⟨i64 v, rfl, by omega, rfl, ?_⟩) | (refine bsel_intro (fun hb => ?_) (fun hb => ?_)) | (refine ⟨_, h1 _, ?_⟩) | (refine ⟨_, h2 _, ?_⟩) | (refine ⟨_, hwi _ _, ?_⟩) | skip)
  all_goals exact fin_int (by clear h1 h2 hwi hpw; simp_all)
theorem bothWide_r (hp : Okp pr) (n : Int) (test : Test) (cells : List Cell) (a b : Int) (keys : List Int) (agg c : Int) (kids : List Plan) (w v : Int) (ws : List Int) :
    Ret pr 129 [.agg [], (Plan.mk 5 n test cells a b keys agg c kids).enc, .sl ((w :: v :: ws).map i64)] (i64 (partWide (Plan.mk 5 n test cells a b keys agg c kids) (w :: v :: ws))) := by
  have hwi := fun ok => wideIf_r hp ok w
  have hpw : partWide (Plan.mk 5 n test cells a b keys agg c kids) (w :: v :: ws) = if w == v then w else -1 := rfl
  rw [hpw]
  refine ret_of hp rfl rfl ?_
  iterate 10
    all_goals (try (conv => whnf))
    all_goals (first | (refine ⟨i64 w, rfl, by omega, rfl, ?_⟩) | (refine ⟨i64 v, rfl, by omega, rfl, ?_⟩) | (refine bsel_intro (fun hb => ?_) (fun hb => ?_)) | (refine ⟨_, hwi _ _, ?_⟩) | skip)
  all_goals exact fin_int (by clear hwi hpw; simp_all)
theorem onceWide_r (hp : Okp pr) (n : Int) (test : Test) (cells : List Cell) (a b : Int) (keys : List Int) (agg c : Int) (kids : List Plan) (w : Int) (ws : List Int) :
    Ret pr 134 [.agg [], (Plan.mk 6 n test cells a b keys agg c kids).enc, .sl ((w :: ws).map i64)] (i64 (partWide (Plan.mk 6 n test cells a b keys agg c kids) (w :: ws))) := by
  refine ret_of hp rfl rfl ?_
  iterate 3
    all_goals (try (conv => whnf))
    all_goals (first | (refine ⟨i64 w, rfl, by omega, rfl, ?_⟩) | (refine bsel_intro (fun hb => ?_) (fun hb => ?_)) | skip)
  exact fin_int rfl
theorem groupWide_r (hp : Okp pr) (n : Int) (test : Test) (cells : List Cell) (a b : Int) (keys : List Int) (agg c : Int) (kids : List Plan) (w : Int) (ws : List Int) (hl : keys.length ≤ 1048576) :
    Ret pr 139 [.agg [], (Plan.mk 7 n test cells a b keys agg c kids).enc, .sl ((w :: ws).map i64)] (i64 (partWide (Plan.mk 7 n test cells a b keys agg c kids) (w :: ws))) := by
  have h1 := iKeysOk_r hp keys w hl
  have h2 := isPlace_r hp c w
  have hl2 : IntKind.i64.wrap (((keys.map i64).length : Int) + 1) = (keys.length : Int) + 1 := by rw [IntKind.wrap_i64]; simp; omega
  have hwi := fun ok => wideIf_r hp ok (IntKind.i64.wrap (((keys.map i64).length : Int) + 1))
  have hpw : partWide (Plan.mk 7 n test cells a b keys agg c kids) (w :: ws) = if decide (0 ≤ agg) && (decide (agg ≤ 3) && (keysOk keys w && col c w)) then (keys.length : Int) + 1 else -1 := rfl
  rw [hpw]
  refine ret_of hp rfl rfl ?_
  iterate 14
    all_goals (try (conv => whnf))
    all_goals (first | (refine ⟨i64 w, rfl, by omega, rfl, ?_⟩) | (refine bsel_intro (fun hb => ?_) (fun hb => ?_)) | (refine ⟨_, h1 _, ?_⟩) | (refine ⟨_, h2 _, ?_⟩) | (refine ⟨_, hwi _ _, ?_⟩) | skip)
  all_goals exact fin_int (by rw [hl2]; clear h1 h2 hwi hpw hl2; simp_all; try omega)
/-- Whether a part has just what its kind has. -/
def shaped (p : Plan) : Bool := (kidsN p.kind == (p.kids.length : Int)) && clean p
theorem only_eq (p : Plan) (h : kidsN p.kind ≠ -1) : planEq (.mk p.kind p.n p.test p.cells p.a p.b p.keys p.agg p.col []) (only p) = clean p := by
  obtain ⟨kind, n, ⟨tk, tn, ⟨a1, a2, a3, a4⟩, ⟨b1, b2, b3, b4⟩⟩, cells, a, b, keys, agg, c, kids⟩ := p
  have hce : ∀ l : List Cell, listEq cellEq l l = true := fun l => by
    induction l with
    | nil => rfl
    | cons x l ih => simp only [listEq, ih]; simp [cellEq]
  have hie : ∀ l : List Int, listEq (fun x y : Int => x == y) l l = true := fun l => by
    induction l with
    | nil => rfl
    | cons x l ih => simp only [listEq, ih]; simp
  have hcn : ∀ l : List Cell, listEq cellEq l [] = l.isEmpty := fun l => by cases l <;> rfl
  have hin : ∀ l : List Int, listEq (fun x y : Int => x == y) l [] = l.isEmpty := fun l => by cases l <;> rfl
  rcases kind_cases kind with rfl | rfl | rfl | rfl | rfl | rfl | rfl | ⟨h1, h2, h3, h4, h5, h6, h7⟩
  iterate 7
    · simp only [Plan.kind, Plan.n, Plan.test, Plan.cells, Plan.a, Plan.b, Plan.keys, Plan.agg, Plan.col, Plan.kids, only, planEq, planEqs, clean, zTest, testEq, zT]
      rw [Bool.eq_iff_iff]
      simp [hce, hie, hcn, hin]
      try (constructor <;> intro h <;> simp_all)
  · exfalso
    simp only [Plan.kind, beq_eq_false_iff_ne, ne_eq] at *
    simp [kidsN, h1, h2, h3, h4, h5, h6, h7] at h
theorem shaped_r (hp : Okp pr) (p : Plan) (hsm : p.small) : Ret pr 68 [p.enc] (.bool (shaped p)) := by
  have hon := only_eq p
  have hps := fun q => planSame_r hp (.mk p.kind p.n p.test p.cells p.a p.b p.keys p.agg p.col []) q (by
    obtain ⟨kind, n, test, cells, a, b, keys, agg, c, kids⟩ := p
    simp only [Plan.small, Plan.sz, Plan.kind, Plan.cells, Plan.keys, Plan.szs] at *
    simp
    omega)
  have hpa := parts_r hp
  obtain ⟨kind, n, test, cells, a, b, keys, agg, c, kids⟩ := p
  have hel := encs_len kids
  refine ret_of hp rfl rfl ?_
  rcases kind_cases kind with rfl | rfl | rfl | rfl | rfl | rfl | rfl | ⟨h1, h2, h3, h4, h5, h6, h7⟩
  · have hk := tableKids_r hp
    have ho := tableOnly_r hp n test cells a b keys agg c kids
    have hs := hps (only (.mk 1 n test cells a b keys agg c kids))
    rw [hon (by simp [Plan.kind, kidsN])] at hs
    conv => whnf
    refine ⟨_, hpa _, ?_⟩
    conv => whnf
    refine ⟨_, hk _, ?_⟩
    conv => whnf
    refine bsel_intro (fun g1 => ?_) (fun g1 => ?_)
    · rw [hel] at g1
      have hkn : (kidsN 1 == (kids.length : Int)) = false := by
        have : ((kids.length : Int) == 0) = false := by rw [bne, Bool.not_eq_true'] at g1; exact g1
        rw [BEq.comm]; exact this
      conv => whnf
      exact fin_bool (by simp only [shaped, Plan.kind, Plan.kids]; rw [hkn]; rfl)
    · rw [hel] at g1
      have hkn : (kidsN 1 == (kids.length : Int)) = true := by
        have : ((kids.length : Int) == 0) = true := by rw [bne, Bool.not_eq_false'] at g1; exact g1
        rw [BEq.comm]; exact this
      conv => whnf
      refine ⟨_, ho _, ?_⟩
      conv => whnf
      refine ⟨_, hs.snapped rfl rfl rfl _, ?_⟩
      iterate 2
        all_goals (try (conv => whnf))
        all_goals (first | (refine bsel_intro (fun hb => ?_) (fun hb => ?_)) | skip)
      all_goals exact fin_bool (by simp only [shaped, Plan.kind, Plan.kids]; rw [hkn, hb]; rfl)

  · have hk := whereKids_r hp
    have ho := whereOnly_r hp n test cells a b keys agg c kids
    have hs := hps (only (.mk 2 n test cells a b keys agg c kids))
    rw [hon (by simp [Plan.kind, kidsN])] at hs
    conv => whnf
    refine ⟨_, hpa _, ?_⟩
    conv => whnf
    refine ⟨_, hk _, ?_⟩
    conv => whnf
    refine bsel_intro (fun g1 => ?_) (fun g1 => ?_)
    · rw [hel] at g1
      have hkn : (kidsN 2 == (kids.length : Int)) = false := by
        have : ((kids.length : Int) == 1) = false := by rw [bne, Bool.not_eq_true'] at g1; exact g1
        rw [BEq.comm]; exact this
      conv => whnf
      exact fin_bool (by simp only [shaped, Plan.kind, Plan.kids]; rw [hkn]; rfl)
    · rw [hel] at g1
      have hkn : (kidsN 2 == (kids.length : Int)) = true := by
        have : ((kids.length : Int) == 1) = true := by rw [bne, Bool.not_eq_false'] at g1; exact g1
        rw [BEq.comm]; exact this
      conv => whnf
      refine ⟨_, ho _, ?_⟩
      conv => whnf
      refine ⟨_, hs.snapped rfl rfl rfl _, ?_⟩
      iterate 2
        all_goals (try (conv => whnf))
        all_goals (first | (refine bsel_intro (fun hb => ?_) (fun hb => ?_)) | skip)
      all_goals exact fin_bool (by simp only [shaped, Plan.kind, Plan.kids]; rw [hkn, hb]; rfl)

  · have hk := mapKids_r hp
    have ho := mapOnly_r hp n test cells a b keys agg c kids
    have hs := hps (only (.mk 3 n test cells a b keys agg c kids))
    rw [hon (by simp [Plan.kind, kidsN])] at hs
    conv => whnf
    refine ⟨_, hpa _, ?_⟩
    conv => whnf
    refine ⟨_, hk _, ?_⟩
    conv => whnf
    refine bsel_intro (fun g1 => ?_) (fun g1 => ?_)
    · rw [hel] at g1
      have hkn : (kidsN 3 == (kids.length : Int)) = false := by
        have : ((kids.length : Int) == 1) = false := by rw [bne, Bool.not_eq_true'] at g1; exact g1
        rw [BEq.comm]; exact this
      conv => whnf
      exact fin_bool (by simp only [shaped, Plan.kind, Plan.kids]; rw [hkn]; rfl)
    · rw [hel] at g1
      have hkn : (kidsN 3 == (kids.length : Int)) = true := by
        have : ((kids.length : Int) == 1) = true := by rw [bne, Bool.not_eq_false'] at g1; exact g1
        rw [BEq.comm]; exact this
      conv => whnf
      refine ⟨_, ho _, ?_⟩
      conv => whnf
      refine ⟨_, hs.snapped rfl rfl rfl _, ?_⟩
      iterate 2
        all_goals (try (conv => whnf))
        all_goals (first | (refine bsel_intro (fun hb => ?_) (fun hb => ?_)) | skip)
      all_goals exact fin_bool (by simp only [shaped, Plan.kind, Plan.kids]; rw [hkn, hb]; rfl)

  · have hk := joinKids_r hp
    have ho := joinOnly_r hp n test cells a b keys agg c kids
    have hs := hps (only (.mk 4 n test cells a b keys agg c kids))
    rw [hon (by simp [Plan.kind, kidsN])] at hs
    conv => whnf
    refine ⟨_, hpa _, ?_⟩
    conv => whnf
    refine ⟨_, hk _, ?_⟩
    conv => whnf
    refine bsel_intro (fun g1 => ?_) (fun g1 => ?_)
    · rw [hel] at g1
      have hkn : (kidsN 4 == (kids.length : Int)) = false := by
        have : ((kids.length : Int) == 2) = false := by rw [bne, Bool.not_eq_true'] at g1; exact g1
        rw [BEq.comm]; exact this
      conv => whnf
      exact fin_bool (by simp only [shaped, Plan.kind, Plan.kids]; rw [hkn]; rfl)
    · rw [hel] at g1
      have hkn : (kidsN 4 == (kids.length : Int)) = true := by
        have : ((kids.length : Int) == 2) = true := by rw [bne, Bool.not_eq_false'] at g1; exact g1
        rw [BEq.comm]; exact this
      conv => whnf
      refine ⟨_, ho _, ?_⟩
      conv => whnf
      refine ⟨_, hs.snapped rfl rfl rfl _, ?_⟩
      iterate 2
        all_goals (try (conv => whnf))
        all_goals (first | (refine bsel_intro (fun hb => ?_) (fun hb => ?_)) | skip)
      all_goals exact fin_bool (by simp only [shaped, Plan.kind, Plan.kids]; rw [hkn, hb]; rfl)

  · have hk := bothKids_r hp
    have ho := bothOnly_r hp n test cells a b keys agg c kids
    have hs := hps (only (.mk 5 n test cells a b keys agg c kids))
    rw [hon (by simp [Plan.kind, kidsN])] at hs
    conv => whnf
    refine ⟨_, hpa _, ?_⟩
    conv => whnf
    refine ⟨_, hk _, ?_⟩
    conv => whnf
    refine bsel_intro (fun g1 => ?_) (fun g1 => ?_)
    · rw [hel] at g1
      have hkn : (kidsN 5 == (kids.length : Int)) = false := by
        have : ((kids.length : Int) == 2) = false := by rw [bne, Bool.not_eq_true'] at g1; exact g1
        rw [BEq.comm]; exact this
      conv => whnf
      exact fin_bool (by simp only [shaped, Plan.kind, Plan.kids]; rw [hkn]; rfl)
    · rw [hel] at g1
      have hkn : (kidsN 5 == (kids.length : Int)) = true := by
        have : ((kids.length : Int) == 2) = true := by rw [bne, Bool.not_eq_false'] at g1; exact g1
        rw [BEq.comm]; exact this
      conv => whnf
      refine ⟨_, ho _, ?_⟩
      conv => whnf
      refine ⟨_, hs.snapped rfl rfl rfl _, ?_⟩
      iterate 2
        all_goals (try (conv => whnf))
        all_goals (first | (refine bsel_intro (fun hb => ?_) (fun hb => ?_)) | skip)
      all_goals exact fin_bool (by simp only [shaped, Plan.kind, Plan.kids]; rw [hkn, hb]; rfl)

  · have hk := onceKids_r hp
    have ho := onceOnly_r hp n test cells a b keys agg c kids
    have hs := hps (only (.mk 6 n test cells a b keys agg c kids))
    rw [hon (by simp [Plan.kind, kidsN])] at hs
    conv => whnf
    refine ⟨_, hpa _, ?_⟩
    conv => whnf
    refine ⟨_, hk _, ?_⟩
    conv => whnf
    refine bsel_intro (fun g1 => ?_) (fun g1 => ?_)
    · rw [hel] at g1
      have hkn : (kidsN 6 == (kids.length : Int)) = false := by
        have : ((kids.length : Int) == 1) = false := by rw [bne, Bool.not_eq_true'] at g1; exact g1
        rw [BEq.comm]; exact this
      conv => whnf
      exact fin_bool (by simp only [shaped, Plan.kind, Plan.kids]; rw [hkn]; rfl)
    · rw [hel] at g1
      have hkn : (kidsN 6 == (kids.length : Int)) = true := by
        have : ((kids.length : Int) == 1) = true := by rw [bne, Bool.not_eq_false'] at g1; exact g1
        rw [BEq.comm]; exact this
      conv => whnf
      refine ⟨_, ho _, ?_⟩
      conv => whnf
      refine ⟨_, hs.snapped rfl rfl rfl _, ?_⟩
      iterate 2
        all_goals (try (conv => whnf))
        all_goals (first | (refine bsel_intro (fun hb => ?_) (fun hb => ?_)) | skip)
      all_goals exact fin_bool (by simp only [shaped, Plan.kind, Plan.kids]; rw [hkn, hb]; rfl)

  · have hk := groupKids_r hp
    have ho := groupOnly_r hp n test cells a b keys agg c kids
    have hs := hps (only (.mk 7 n test cells a b keys agg c kids))
    rw [hon (by simp [Plan.kind, kidsN])] at hs
    conv => whnf
    refine ⟨_, hpa _, ?_⟩
    conv => whnf
    refine ⟨_, hk _, ?_⟩
    conv => whnf
    refine bsel_intro (fun g1 => ?_) (fun g1 => ?_)
    · rw [hel] at g1
      have hkn : (kidsN 7 == (kids.length : Int)) = false := by
        have : ((kids.length : Int) == 1) = false := by rw [bne, Bool.not_eq_true'] at g1; exact g1
        rw [BEq.comm]; exact this
      conv => whnf
      exact fin_bool (by simp only [shaped, Plan.kind, Plan.kids]; rw [hkn]; rfl)
    · rw [hel] at g1
      have hkn : (kidsN 7 == (kids.length : Int)) = true := by
        have : ((kids.length : Int) == 1) = true := by rw [bne, Bool.not_eq_false'] at g1; exact g1
        rw [BEq.comm]; exact this
      conv => whnf
      refine ⟨_, ho _, ?_⟩
      conv => whnf
      refine ⟨_, hs.snapped rfl rfl rfl _, ?_⟩
      iterate 2
        all_goals (try (conv => whnf))
        all_goals (first | (refine bsel_intro (fun hb => ?_) (fun hb => ?_)) | skip)
      all_goals exact fin_bool (by simp only [shaped, Plan.kind, Plan.kids]; rw [hkn, hb]; rfl)

  · conv => whnf
    refine ⟨_, hpa _, ?_⟩
    iterate 9
      all_goals (try (conv => whnf))
      all_goals (first | (refine bsel_false h1 ?_) | (refine bsel_false h2 ?_) | (refine bsel_false h3 ?_) | (refine bsel_false h4 ?_) | (refine bsel_false h5 ?_) | (refine bsel_false h6 ?_) | (refine bsel_false h7 ?_) | (refine bsel_intro (fun hb => ?_) (fun hb => ?_)) | skip)
    all_goals exact fin_bool (by
      simp only [beq_eq_false_iff_ne, ne_eq] at *
      simp only [shaped, Plan.kind, Plan.kids, kidsN]
      simp [h1, h2, h3, h4, h5, h6, h7]
      try (intro hh; omega))
end Go.Proofs.YtbghmemejbbhfaaGreat
/- How wide plans are. -/
namespace Go.Proofs.YtbghmemejbbhfaaGreat
open Go Go.Am
variable {pr : Prims} (hp : Okp pr)
set_option maxRecDepth 100000
mutual
def wideP (kf : Int → Int) (ws : List Int) : Plan → Int
  | .mk kind n test cells a b keys agg c kids =>
    if shaped (.mk kind n test cells a b keys agg c kids) then
      if kind = 1 then (if ws.isEmpty then -1 else kf (partWide (.mk kind n test cells a b keys agg c kids) ws))
      else match widesP kf ws kids with
        | none => -1
        | some l => if l.isEmpty then -1 else kf (partWide (.mk kind n test cells a b keys agg c kids) l)
    else -1
def widesP (kf : Int → Int) (ws : List Int) : List Plan → Option (List Int)
  | [] => some []
  | p :: ps => if wideP kf ws p == -1 then none else (widesP kf ws ps).map (wideP kf ws p :: ·)
end
def kf6 (w : Int) : Int := if w != -1 then 6 else -1
theorem writable1_r (hp : Okp pr) (w : Int) : Ret pr 49 [i64 w] (i64 (kf6 w)) := by
  have h := fun ok => wideIf_r hp ok 6
  refine ret_of hp rfl rfl ?_
  iterate 4
    all_goals (try (conv => whnf))
    all_goals (first | (refine bsel_intro (fun hb => ?_) (fun hb => ?_)) | (refine ⟨_, h _ _, ?_⟩) | skip)
  all_goals exact fin_int (by simp only [kf6, hb]; first | done | rfl)
def kfV : AVal := .func (.func 49) [] []
theorem wideOf_r (hp : Okp pr) (ws : List Int) (hws : ws.length ≤ 1048576) : ∀ (N : Nat) (p : Plan), SizeOf.sizeOf p ≤ N → p.small → Ret pr 48 [p.enc, .sl (ws.map i64), kfV] (i64 (wideP kf6 ws p)) := by
  intro N
  induction N with
  | zero => intro p h; exfalso; cases p; simp at h
  | succ N ih =>
  intro p hs hsm
  have hsh := shaped_r hp p hsm
  have hpa := parts_r hp
  have hkf := writable1_r hp
  obtain ⟨kind, n, test, cells, a, b, keys, agg, c, kids⟩ := p
  obtain ⟨hsc, hsk, hskids, hsks⟩ := small_split hsm
  have hih : ∀ q ∈ kids, Ret pr 48 [q.enc, .sl (ws.map i64), kfV] (i64 (wideP kf6 ws q)) := fun q hq => ih q (by have := List.sizeOf_lt_of_mem hq; simp at hs; omega) (hsks q hq)
  clear ih hs
  refine ret_of hp rfl rfl ?_
  conv => whnf
  refine ⟨_, hsh _, ?_⟩
  conv => whnf
  refine bsel_intro (fun g0 => ?_) (fun g0 => ?_)
  · have hlen : kidsN kind = kids.length := by simp only [shaped, Plan.kind, Plan.kids, Bool.and_eq_true, beq_iff_eq] at g0; exact g0.1
    rcases kind_cases kind with rfl | rfl | rfl | rfl | rfl | rfl | rfl | ⟨h1, h2, h3, h4, h5, h6, h7⟩
    · have hw := fun h0 => tableWide_r hp n test cells a b keys agg c kids ws h0 hws
      have hP : wideP kf6 ws (.mk 1 n test cells a b keys agg c kids) = if ws.isEmpty then -1 else kf6 (partWide (.mk 1 n test cells a b keys agg c kids) ws) := by rw [wideP, if_pos g0]; rfl
      rw [hP]
      conv => whnf
      refine bsel_intro (fun g1 => ?_) (fun g1 => ?_)
      · conv => whnf
        have : ws.isEmpty = true := by simp at g1; simp [g1]
        exact fin_int (by rw [this]; rfl)
      · have hne : ws.isEmpty = false := by simp at g1; simp [g1]
        conv => whnf
        refine ⟨_, hpa _, ?_⟩
        conv => whnf
        refine ⟨_, hw (by simpa using hne) _, ?_⟩
        conv => whnf
        refine ⟨_, hkf _ _, ?_⟩
        conv => whnf
        exact fin_int (by rw [hne]; rfl)
    · match kids, hlen, hih with
      | [q], _, hih =>
        have hq := hih q (by simp)
        have hw := fun w => whereWide_r hp n test cells a b keys agg c [q] w [] 
        have hP : wideP kf6 ws (.mk 2 n test cells a b keys agg c [q]) = if wideP kf6 ws q == -1 then -1 else kf6 (partWide (.mk 2 n test cells a b keys agg c [q]) [wideP kf6 ws q]) := by
          rw [wideP, if_pos g0]; simp only [widesP]; cases (wideP kf6 ws q == -1) <;> rfl
        rw [hP]
        clear hih hP
        generalize wideP kf6 ws q = wq at *
        obtain ⟨kind', n', test', cells', a', b', keys', agg', c', kids'⟩ := q
        conv => whnf
        refine loop_unroll ?_
        conv => whnf
        refine ⟨_, rfl, by omega, rfl, ?_⟩
        conv => whnf
        refine ⟨_, hq _, ?_⟩
        conv => whnf
        refine bsel_intro (fun g1 => ?_) (fun g1 => ?_)
        · conv => whnf
          exact fin_int (by rw [g1]; rfl)
        · conv => whnf
          refine ⟨trivial, ?_⟩
          conv => whnf
          refine ⟨rfl, ?_⟩
          conv => whnf
          refine ⟨by show 1 ≤ 4294967296; omega, ?_⟩
          conv => whnf
          refine loop_unroll ?_
          conv => whnf
          refine ⟨_, hpa _, ?_⟩
          conv => whnf
          refine ⟨_, (hw wq).frozen rfl rfl rfl rfl, ?_⟩
          conv => whnf
          refine ⟨_, hkf _ _, ?_⟩
          conv => whnf
          exact fin_int (by rw [g1]; rfl)
      | [], hk, _ => simp [kidsN] at hk
      | _ :: _ :: _, hk, _ => simp [kidsN] at hk; omega

    · match kids, hlen, hih with
      | [q], _, hih =>
        have hq := hih q (by simp)
        have hw := fun w => mapWide_r hp n test cells a b keys agg c [q] w [] hsc
        have hP : wideP kf6 ws (.mk 3 n test cells a b keys agg c [q]) = if wideP kf6 ws q == -1 then -1 else kf6 (partWide (.mk 3 n test cells a b keys agg c [q]) [wideP kf6 ws q]) := by
          rw [wideP, if_pos g0]; simp only [widesP]; cases (wideP kf6 ws q == -1) <;> rfl
        rw [hP]
        clear hih hP
        generalize wideP kf6 ws q = wq at *
        obtain ⟨kind', n', test', cells', a', b', keys', agg', c', kids'⟩ := q
        conv => whnf
        refine loop_unroll ?_
        conv => whnf
        refine ⟨_, rfl, by omega, rfl, ?_⟩
        conv => whnf
        refine ⟨_, hq _, ?_⟩
        conv => whnf
        refine bsel_intro (fun g1 => ?_) (fun g1 => ?_)
        · conv => whnf
          exact fin_int (by rw [g1]; rfl)
        · conv => whnf
          refine ⟨trivial, ?_⟩
          conv => whnf
          refine ⟨rfl, ?_⟩
          conv => whnf
          refine ⟨by show 1 ≤ 4294967296; omega, ?_⟩
          conv => whnf
          refine loop_unroll ?_
          conv => whnf
          refine ⟨_, hpa _, ?_⟩
          conv => whnf
          refine ⟨_, (hw wq).frozen rfl rfl rfl rfl, ?_⟩
          conv => whnf
          refine ⟨_, hkf _ _, ?_⟩
          conv => whnf
          exact fin_int (by rw [g1]; rfl)
      | [], hk, _ => simp [kidsN] at hk
      | _ :: _ :: _, hk, _ => simp [kidsN] at hk; omega

    · match kids, hlen, hih with
      | [q, q2], _, hih =>
        have hq := hih q (by simp)
        have hq2 := hih q2 (by simp)
        have hw := fun w v => joinWide_r hp n test cells a b keys agg c [q, q2] w v []
        have hP : wideP kf6 ws (.mk 4 n test cells a b keys agg c [q, q2]) = if wideP kf6 ws q == -1 then -1 else if wideP kf6 ws q2 == -1 then -1 else kf6 (partWide (.mk 4 n test cells a b keys agg c [q, q2]) [wideP kf6 ws q, wideP kf6 ws q2]) := by
          rw [wideP, if_pos g0]; simp only [widesP]; cases (wideP kf6 ws q == -1) <;> cases (wideP kf6 ws q2 == -1) <;> rfl
        rw [hP]
        clear hih hP
        generalize wideP kf6 ws q = wq at *
        generalize wideP kf6 ws q2 = wq2 at *
        obtain ⟨kind', n', test', cells', a', b', keys', agg', c', kids'⟩ := q
        obtain ⟨kind2, n2, test2, cells2, a2, b2, keys2, agg2, c2, kids2⟩ := q2
        conv => whnf
        refine loop_unroll ?_
        conv => whnf
        refine ⟨_, rfl, by omega, rfl, ?_⟩
        conv => whnf
        refine ⟨_, hq _, ?_⟩
        conv => whnf
        refine bsel_intro (fun g1 => ?_) (fun g1 => ?_)
        · conv => whnf
          exact fin_int (by rw [g1]; rfl)
        · conv => whnf
          refine ⟨trivial, ?_⟩
          conv => whnf
          refine ⟨rfl, ?_⟩
          conv => whnf
          refine ⟨by show 1 ≤ 4294967296; omega, ?_⟩
          conv => whnf
          refine loop_unroll ?_
          conv => whnf
          refine ⟨_, rfl, by decide, rfl, ?_⟩
          conv => whnf
          refine ⟨_, hq2 _, ?_⟩
          conv => whnf
          refine bsel_intro (fun g2 => ?_) (fun g2 => ?_)
          · conv => whnf
            exact fin_int (by rw [g1, g2]; rfl)
          · conv => whnf
            refine ⟨trivial, ?_⟩
            conv => whnf
            refine ⟨rfl, ?_⟩
            conv => whnf
            refine ⟨rfl, rfl, by show 1 ≤ 1; omega, ?_⟩
            conv => whnf
            refine ⟨by show 1 + 1 ≤ 4294967296; omega, ?_⟩
            conv => whnf
            refine loop_unroll ?_
            conv => whnf
            refine ⟨_, hpa _, ?_⟩
            conv => whnf
            refine ⟨_, (hw wq wq2).frozen rfl rfl rfl rfl, ?_⟩
            conv => whnf
            refine ⟨_, hkf _ _, ?_⟩
            conv => whnf
            exact fin_int (by rw [g1, g2]; rfl)
      | [], hk, _ => simp [kidsN] at hk
      | [_], hk, _ => simp [kidsN] at hk
      | _ :: _ :: _ :: _, hk, _ => simp [kidsN] at hk; omega

    · match kids, hlen, hih with
      | [q, q2], _, hih =>
        have hq := hih q (by simp)
        have hq2 := hih q2 (by simp)
        have hw := fun w v => bothWide_r hp n test cells a b keys agg c [q, q2] w v []
        have hP : wideP kf6 ws (.mk 5 n test cells a b keys agg c [q, q2]) = if wideP kf6 ws q == -1 then -1 else if wideP kf6 ws q2 == -1 then -1 else kf6 (partWide (.mk 5 n test cells a b keys agg c [q, q2]) [wideP kf6 ws q, wideP kf6 ws q2]) := by
          rw [wideP, if_pos g0]; simp only [widesP]; cases (wideP kf6 ws q == -1) <;> cases (wideP kf6 ws q2 == -1) <;> rfl
        rw [hP]
        clear hih hP
        generalize wideP kf6 ws q = wq at *
        generalize wideP kf6 ws q2 = wq2 at *
        obtain ⟨kind', n', test', cells', a', b', keys', agg', c', kids'⟩ := q
        obtain ⟨kind2, n2, test2, cells2, a2, b2, keys2, agg2, c2, kids2⟩ := q2
        conv => whnf
        refine loop_unroll ?_
        conv => whnf
        refine ⟨_, rfl, by omega, rfl, ?_⟩
        conv => whnf
        refine ⟨_, hq _, ?_⟩
        conv => whnf
        refine bsel_intro (fun g1 => ?_) (fun g1 => ?_)
        · conv => whnf
          exact fin_int (by rw [g1]; rfl)
        · conv => whnf
          refine ⟨trivial, ?_⟩
          conv => whnf
          refine ⟨rfl, ?_⟩
          conv => whnf
          refine ⟨by show 1 ≤ 4294967296; omega, ?_⟩
          conv => whnf
          refine loop_unroll ?_
          conv => whnf
          refine ⟨_, rfl, by decide, rfl, ?_⟩
          conv => whnf
          refine ⟨_, hq2 _, ?_⟩
          conv => whnf
          refine bsel_intro (fun g2 => ?_) (fun g2 => ?_)
          · conv => whnf
            exact fin_int (by rw [g1, g2]; rfl)
          · conv => whnf
            refine ⟨trivial, ?_⟩
            conv => whnf
            refine ⟨rfl, ?_⟩
            conv => whnf
            refine ⟨rfl, rfl, by show 1 ≤ 1; omega, ?_⟩
            conv => whnf
            refine ⟨by show 1 + 1 ≤ 4294967296; omega, ?_⟩
            conv => whnf
            refine loop_unroll ?_
            conv => whnf
            refine ⟨_, hpa _, ?_⟩
            conv => whnf
            refine ⟨_, (hw wq wq2).frozen rfl rfl rfl rfl, ?_⟩
            conv => whnf
            refine ⟨_, hkf _ _, ?_⟩
            conv => whnf
            exact fin_int (by rw [g1, g2]; rfl)
      | [], hk, _ => simp [kidsN] at hk
      | [_], hk, _ => simp [kidsN] at hk
      | _ :: _ :: _ :: _, hk, _ => simp [kidsN] at hk; omega

    · match kids, hlen, hih with
      | [q], _, hih =>
        have hq := hih q (by simp)
        have hw := fun w => onceWide_r hp n test cells a b keys agg c [q] w [] 
        have hP : wideP kf6 ws (.mk 6 n test cells a b keys agg c [q]) = if wideP kf6 ws q == -1 then -1 else kf6 (partWide (.mk 6 n test cells a b keys agg c [q]) [wideP kf6 ws q]) := by
          rw [wideP, if_pos g0]; simp only [widesP]; cases (wideP kf6 ws q == -1) <;> rfl
        rw [hP]
        clear hih hP
        generalize wideP kf6 ws q = wq at *
        obtain ⟨kind', n', test', cells', a', b', keys', agg', c', kids'⟩ := q
        conv => whnf
        refine loop_unroll ?_
        conv => whnf
        refine ⟨_, rfl, by omega, rfl, ?_⟩
        conv => whnf
        refine ⟨_, hq _, ?_⟩
        conv => whnf
        refine bsel_intro (fun g1 => ?_) (fun g1 => ?_)
        · conv => whnf
          exact fin_int (by rw [g1]; rfl)
        · conv => whnf
          refine ⟨trivial, ?_⟩
          conv => whnf
          refine ⟨rfl, ?_⟩
          conv => whnf
          refine ⟨by show 1 ≤ 4294967296; omega, ?_⟩
          conv => whnf
          refine loop_unroll ?_
          conv => whnf
          refine ⟨_, hpa _, ?_⟩
          conv => whnf
          refine ⟨_, (hw wq).frozen rfl rfl rfl rfl, ?_⟩
          conv => whnf
          refine ⟨_, hkf _ _, ?_⟩
          conv => whnf
          exact fin_int (by rw [g1]; rfl)
      | [], hk, _ => simp [kidsN] at hk
      | _ :: _ :: _, hk, _ => simp [kidsN] at hk; omega

    · match kids, hlen, hih with
      | [q], _, hih =>
        have hq := hih q (by simp)
        have hw := fun w => groupWide_r hp n test cells a b keys agg c [q] w [] hsk
        have hP : wideP kf6 ws (.mk 7 n test cells a b keys agg c [q]) = if wideP kf6 ws q == -1 then -1 else kf6 (partWide (.mk 7 n test cells a b keys agg c [q]) [wideP kf6 ws q]) := by
          rw [wideP, if_pos g0]; simp only [widesP]; cases (wideP kf6 ws q == -1) <;> rfl
        rw [hP]
        clear hih hP
        generalize wideP kf6 ws q = wq at *
        obtain ⟨kind', n', test', cells', a', b', keys', agg', c', kids'⟩ := q
        conv => whnf
        refine loop_unroll ?_
        conv => whnf
        refine ⟨_, rfl, by omega, rfl, ?_⟩
        conv => whnf
        refine ⟨_, hq _, ?_⟩
        conv => whnf
        refine bsel_intro (fun g1 => ?_) (fun g1 => ?_)
        · conv => whnf
          exact fin_int (by rw [g1]; rfl)
        · conv => whnf
          refine ⟨trivial, ?_⟩
          conv => whnf
          refine ⟨rfl, ?_⟩
          conv => whnf
          refine ⟨by show 1 ≤ 4294967296; omega, ?_⟩
          conv => whnf
          refine loop_unroll ?_
          conv => whnf
          refine ⟨_, hpa _, ?_⟩
          conv => whnf
          refine ⟨_, (hw wq).frozen rfl rfl rfl rfl, ?_⟩
          conv => whnf
          refine ⟨_, hkf _ _, ?_⟩
          conv => whnf
          exact fin_int (by rw [g1]; rfl)
      | [], hk, _ => simp [kidsN] at hk
      | _ :: _ :: _, hk, _ => simp [kidsN] at hk; omega

    · exfalso
      simp only [beq_eq_false_iff_ne, ne_eq] at *
      simp [kidsN, h1, h2, h3, h4, h5, h6, h7] at hlen
      try omega
  · conv => whnf
    exact fin_int (by rw [wideP, if_neg (by rw [g0]; simp)])
end Go.Proofs.YtbghmemejbbhfaaGreat

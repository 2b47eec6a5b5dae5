/- How wide parts are; their shape. -/
import Derived.Test.YtbghmemejbbhfaaGreatPp
import Derived.Test.YtbghmemejbbhfaaGreatPi
set_option linter.unusedVariables false
set_option linter.unusedSimpArgs false
namespace Go.Proofs.YtbghmemejbbhfaaGreat
open Go Go.Am
variable {pr : Prims} (hp : Okp pr)
set_option maxRecDepth 100000
theorem joinWide_r (hp : Okp pr) (n : Int) (test : Test) (cells : List Cell) (a b : Int) (keys : List Int) (agg c : Int) (kids : List Plan) (w v : Int) (ws : List Int) :
    Ret pr 123 [.agg [], (Plan.mk 4 n test cells a b keys agg c kids).enc, .sl ((w :: v :: ws).map i64)] (i64 (partWide (Plan.mk 4 n test cells a b keys agg c kids) (w :: v :: ws))) := by
  have h1 := isPlace_r hp a w
  have h2 := isPlace_r hp b v
  have hwi := fun ok => wideIf_r hp ok (IntKind.i64.wrap (w + v))
  have hpw : partWide (Plan.mk 4 n test cells a b keys agg c kids) (w :: v :: ws) = if col a w && col b v then IntKind.i64.wrap (w + v) else -1 := rfl
  rw [hpw]
  refine ret_of hp rfl rfl ?_
  iterate 10
    all_goals (try (conv => whnf))
    all_goals (first | (refine ⟨i64 w, rfl, by omega, rfl, ?_⟩) | (refine ⟨i64 v, rfl, by omega, rfl, ?_⟩) | (refine bsel_intro (fun hb => ?_) (fun hb => ?_)) | (refine ⟨_, h1 _, ?_⟩) | (refine ⟨_, h2 _, ?_⟩) | (refine ⟨_, hwi _ _, ?_⟩) | skip)
  all_goals exact fin_int (by clear h1 h2 hwi hpw; simp_all)
theorem bothWide_r (hp : Okp pr) (n : Int) (test : Test) (cells : List Cell) (a b : Int) (keys : List Int) (agg c : Int) (kids : List Plan) (w v : Int) (ws : List Int) :
    Ret pr 129 [.agg [], (Plan.mk 5 n test cells a b keys agg c kids).enc, .sl ((w :: v :: ws).map i64)] (i64 (partWide (Plan.mk 5 n test cells a b keys agg c kids) (w :: v :: ws))) := by
  have hwi := fun ok => wideIf_r hp ok w
  have hpw : partWide (Plan.mk 5 n test cells a b keys agg c kids) (w :: v :: ws) = if w == v then w else -1 := rfl
  rw [hpw]
  refine ret_of hp rfl rfl ?_
  iterate 10
    all_goals (try (conv => whnf))
    all_goals (first | (refine ⟨i64 w, rfl, by omega, rfl, ?_⟩) | (refine ⟨i64 v, rfl, by omega, rfl, ?_⟩) | (refine bsel_intro (fun hb => ?_) (fun hb => ?_)) | (refine ⟨_, hwi _ _, ?_⟩) | skip)
  all_goals exact fin_int (by clear hwi hpw; simp_all)
theorem onceWide_r (hp : Okp pr) (n : Int) (test : Test) (cells : List Cell) (a b : Int) (keys : List Int) (agg c : Int) (kids : List Plan) (w : Int) (ws : List Int) :
    Ret pr 134 [.agg [], (Plan.mk 6 n test cells a b keys agg c kids).enc, .sl ((w :: ws).map i64)] (i64 (partWide (Plan.mk 6 n test cells a b keys agg c kids) (w :: ws))) := by
  refine ret_of hp rfl rfl ?_
  iterate 3
    all_goals (try (conv => whnf))
    all_goals (first | (refine ⟨i64 w, rfl, by omega, rfl, ?_⟩) | (refine bsel_intro (fun hb => ?_) (fun hb => ?_)) | skip)
  exact fin_int rfl
theorem groupWide_r (hp : Okp pr) (n : Int) (test : Test) (cells : List Cell) (a b : Int) (keys : List Int) (agg c : Int) (kids : List Plan) (w : Int) (ws : List Int) (hl : keys.length ≤ 1048576) :
    Ret pr 139 [.agg [], (Plan.mk 7 n test cells a b keys agg c kids).enc, .sl ((w :: ws).map i64)] (i64 (partWide (Plan.mk 7 n test cells a b keys agg c kids) (w :: ws))) := by
  have h1 := iKeysOk_r hp keys w hl
  have h2 := isPlace_r hp c w
  have hl2 : IntKind.i64.wrap (((keys.map i64).length : Int) + 1) = (keys.length : Int) + 1 := by rw [IntKind.wrap_i64]; simp; omega
  have hwi := fun ok => wideIf_r hp ok (IntKind.i64.wrap (((keys.map i64).length : Int) + 1))
  have hpw : partWide (Plan.mk 7 n test cells a b keys agg c kids) (w :: ws) = if decide (0 ≤ agg) && (decide (agg ≤ 3) && (keysOk keys w && col c w)) then (keys.length : Int) + 1 else -1 := rfl
  rw [hpw]
  refine ret_of hp rfl rfl ?_
  iterate 14
    all_goals (try (conv => whnf))
    all_goals (first | (refine ⟨i64 w, rfl, by omega, rfl, ?_⟩) | (refine bsel_intro (fun hb => ?_) (fun hb => ?_)) | (refine ⟨_, h1 _, ?_⟩) | (refine ⟨_, h2 _, ?_⟩) | (refine ⟨_, hwi _ _, ?_⟩) | skip)
  all_goals exact fin_int (by rw [hl2]; clear h1 h2 hwi hpw hl2; simp_all; try omega)
/-- Whether a part has just what its kind has. -/
def shaped (p : Plan) : Bool := (kidsN p.kind == (p.kids.length : Int)) && clean p
theorem only_eq (p : Plan) (h : kidsN p.kind ≠ -1) : planEq (.mk p.kind p.n p.test p.cells p.a p.b p.keys p.agg p.col []) (only p) = clean p := by
  obtain ⟨kind, n, ⟨tk, tn, ⟨a1, a2, a3, a4⟩, ⟨b1, b2, b3, b4⟩⟩, cells, a, b, keys, agg, c, kids⟩ := p
  have hce : ∀ l : List Cell, listEq cellEq l l = true := fun l => by
    induction l with
    | nil => rfl
    | cons x l ih => simp only [listEq, ih]; simp [cellEq]
  have hie : ∀ l : List Int, listEq (fun x y : Int => x == y) l l = true := fun l => by
    induction l with
    | nil => rfl
    | cons x l ih => simp only [listEq, ih]; simp
  have hcn : ∀ l : List Cell, listEq cellEq l [] = l.isEmpty := fun l => by cases l <;> rfl
  have hin : ∀ l : List Int, listEq (fun x y : Int => x == y) l [] = l.isEmpty := fun l => by cases l <;> rfl
  rcases kind_cases kind with rfl | rfl | rfl | rfl | rfl | rfl | rfl | ⟨h1, h2, h3, h4, h5, h6, h7⟩
  iterate 7
    · simp only [Plan.kind, Plan.n, Plan.test, Plan.cells, Plan.a, Plan.b, Plan.keys, Plan.agg, Plan.col, Plan.kids, only, planEq, planEqs, clean, zTest, testEq, zT]
      rw [Bool.eq_iff_iff]
      simp [hce, hie, hcn, hin]
      try (constructor <;> intro h <;> simp_all)
  · exfalso
    simp only [Plan.kind, beq_eq_false_iff_ne, ne_eq] at *
    simp [kidsN, h1, h2, h3, h4, h5, h6, h7] at h
theorem shaped_r (hp : Okp pr) (p : Plan) (hsm : p.small) : Ret pr 68 [p.enc] (.bool (shaped p)) := by
  have hon := only_eq p
  have hps := fun q => planSame_r hp (.mk p.kind p.n p.test p.cells p.a p.b p.keys p.agg p.col []) q (by
    obtain ⟨kind, n, test, cells, a, b, keys, agg, c, kids⟩ := p
    simp only [Plan.small, Plan.sz, Plan.kind, Plan.cells, Plan.keys, Plan.szs] at *
    simp
    omega)
  have hpa := parts_r hp
  obtain ⟨kind, n, test, cells, a, b, keys, agg, c, kids⟩ := p
  have hel := encs_len kids
  refine ret_of hp rfl rfl ?_
  rcases kind_cases kind with rfl | rfl | rfl | rfl | rfl | rfl | rfl | ⟨h1, h2, h3, h4, h5, h6, h7⟩
  · have hk := tableKids_r hp
    have ho := tableOnly_r hp n test cells a b keys agg c kids
    have hs := hps (only (.mk 1 n test cells a b keys agg c kids))
    rw [hon (by simp [Plan.kind, kidsN])] at hs
    conv => whnf
    refine ⟨_, hpa _, ?_⟩
    conv => whnf
    refine ⟨_, hk _, ?_⟩
    conv => whnf
    refine bsel_intro (fun g1 => ?_) (fun g1 => ?_)
    · rw [hel] at g1
      have hkn : (kidsN 1 == (kids.length : Int)) = false := by
        have : ((kids.length : Int) == 0) = false := by rw [bne, Bool.not_eq_true'] at g1; exact g1
        rw [BEq.comm]; exact this
      conv => whnf
      exact fin_bool (by simp only [shaped, Plan.kind, Plan.kids]; rw [hkn]; rfl)
    · rw [hel] at g1
      have hkn : (kidsN 1 == (kids.length : Int)) = true := by
        have : ((kids.length : Int) == 0) = true := by rw [bne, Bool.not_eq_false'] at g1; exact g1
        rw [BEq.comm]; exact this
      conv => whnf
      refine ⟨_, ho _, ?_⟩
      conv => whnf
      refine ⟨_, hs.snapped rfl rfl _, ?_⟩
      iterate 2
        all_goals (try (conv => whnf))
        all_goals (first | (refine bsel_intro (fun hb => ?_) (fun hb => ?_)) | skip)
      all_goals exact fin_bool (by simp only [shaped, Plan.kind, Plan.kids]; rw [hkn, hb]; rfl)

  · have hk := whereKids_r hp
    have ho := whereOnly_r hp n test cells a b keys agg c kids
    have hs := hps (only (.mk 2 n test cells a b keys agg c kids))
    rw [hon (by simp [Plan.kind, kidsN])] at hs
    conv => whnf
    refine ⟨_, hpa _, ?_⟩
    conv => whnf
    refine ⟨_, hk _, ?_⟩
    conv => whnf
    refine bsel_intro (fun g1 => ?_) (fun g1 => ?_)
    · rw [hel] at g1
      have hkn : (kidsN 2 == (kids.length : Int)) = false := by
        have : ((kids.length : Int) == 1) = false := by rw [bne, Bool.not_eq_true'] at g1; exact g1
        rw [BEq.comm]; exact this
      conv => whnf
      exact fin_bool (by simp only [shaped, Plan.kind, Plan.kids]; rw [hkn]; rfl)
    · rw [hel] at g1
      have hkn : (kidsN 2 == (kids.length : Int)) = true := by
        have : ((kids.length : Int) == 1) = true := by rw [bne, Bool.not_eq_false'] at g1; exact g1
        rw [BEq.comm]; exact this
      conv => whnf
      refine ⟨_, ho _, ?_⟩
      conv => whnf
      refine ⟨_, hs.snapped rfl rfl _, ?_⟩
      iterate 2
        all_goals (try (conv => whnf))
        all_goals (first | (refine bsel_intro (fun hb => ?_) (fun hb => ?_)) | skip)
      all_goals exact fin_bool (by simp only [shaped, Plan.kind, Plan.kids]; rw [hkn, hb]; rfl)

  · have hk := mapKids_r hp
    have ho := mapOnly_r hp n test cells a b keys agg c kids
    have hs := hps (only (.mk 3 n test cells a b keys agg c kids))
    rw [hon (by simp [Plan.kind, kidsN])] at hs
    conv => whnf
    refine ⟨_, hpa _, ?_⟩
    conv => whnf
    refine ⟨_, hk _, ?_⟩
    conv => whnf
    refine bsel_intro (fun g1 => ?_) (fun g1 => ?_)
    · rw [hel] at g1
      have hkn : (kidsN 3 == (kids.length : Int)) = false := by
        have : ((kids.length : Int) == 1) = false := by rw [bne, Bool.not_eq_true'] at g1; exact g1
        rw [BEq.comm]; exact this
      conv => whnf
      exact fin_bool (by simp only [shaped, Plan.kind, Plan.kids]; rw [hkn]; rfl)
    · rw [hel] at g1
      have hkn : (kidsN 3 == (kids.length : Int)) = true := by
        have : ((kids.length : Int) == 1) = true := by rw [bne, Bool.not_eq_false'] at g1; exact g1
        rw [BEq.comm]; exact this
      conv => whnf
      refine ⟨_, ho _, ?_⟩
      conv => whnf
      refine ⟨_, hs.snapped rfl rfl _, ?_⟩
      iterate 2
        all_goals (try (conv => whnf))
        all_goals (first | (refine bsel_intro (fun hb => ?_) (fun hb => ?_)) | skip)
      all_goals exact fin_bool (by simp only [shaped, Plan.kind, Plan.kids]; rw [hkn, hb]; rfl)

  · have hk := joinKids_r hp
    have ho := joinOnly_r hp n test cells a b keys agg c kids
    have hs := hps (only (.mk 4 n test cells a b keys agg c kids))
    rw [hon (by simp [Plan.kind, kidsN])] at hs
    conv => whnf
    refine ⟨_, hpa _, ?_⟩
    conv => whnf
    refine ⟨_, hk _, ?_⟩
    conv => whnf
    refine bsel_intro (fun g1 => ?_) (fun g1 => ?_)
    · rw [hel] at g1
      have hkn : (kidsN 4 == (kids.length : Int)) = false := by
        have : ((kids.length : Int) == 2) = false := by rw [bne, Bool.not_eq_true'] at g1; exact g1
        rw [BEq.comm]; exact this
      conv => whnf
      exact fin_bool (by simp only [shaped, Plan.kind, Plan.kids]; rw [hkn]; rfl)
    · rw [hel] at g1
      have hkn : (kidsN 4 == (kids.length : Int)) = true := by
        have : ((kids.length : Int) == 2) = true := by rw [bne, Bool.not_eq_false'] at g1; exact g1
        rw [BEq.comm]; exact this
      conv => whnf
      refine ⟨_, ho _, ?_⟩
      conv => whnf
      refine ⟨_, hs.snapped rfl rfl _, ?_⟩
      iterate 2
        all_goals (try (conv => whnf))
        all_goals (first | (refine bsel_intro (fun hb => ?_) (fun hb => ?_)) | skip)
      all_goals exact fin_bool (by simp only [shaped, Plan.kind, Plan.kids]; rw [hkn, hb]; rfl)

  · have hk := bothKids_r hp
    have ho := bothOnly_r hp n test cells a b keys agg c kids
    have hs := hps (only (.mk 5 n test cells a b keys agg c kids))
    rw [hon (by simp [Plan.kind, kidsN])] at hs
    conv => whnf
    refine ⟨_, hpa _, ?_⟩
    conv => whnf
    refine ⟨_, hk _, ?_⟩
    conv => whnf
    refine bsel_intro (fun g1 => ?_) (fun g1 => ?_)
    · rw [hel] at g1
      have hkn : (kidsN 5 == (kids.length : Int)) = false := by
        have : ((kids.length : Int) == 2) = false := by rw [bne, Bool.not_eq_true'] at g1; exact g1
        rw [BEq.comm]; exact this
      conv => whnf
      exact fin_bool (by simp only [shaped, Plan.kind, Plan.kids]; rw [hkn]; rfl)
    · rw [hel] at g1
      have hkn : (kidsN 5 == (kids.length : Int)) = true := by
        have : ((kids.length : Int) == 2) = true := by rw [bne, Bool.not_eq_false'] at g1; exact g1
        rw [BEq.comm]; exact this
      conv => whnf
      refine ⟨_, ho _, ?_⟩
      conv => whnf
      refine ⟨_, hs.snapped rfl rfl _, ?_⟩
      iterate 2
        all_goals (try (conv => whnf))
        all_goals (first | (refine bsel_intro (fun hb => ?_) (fun hb => ?_)) | skip)
      all_goals exact fin_bool (by simp only [shaped, Plan.kind, Plan.kids]; rw [hkn, hb]; rfl)

  · have hk := onceKids_r hp
    have ho := onceOnly_r hp n test cells a b keys agg c kids
    have hs := hps (only (.mk 6 n test cells a b keys agg c kids))
    rw [hon (by simp [Plan.kind, kidsN])] at hs
    conv => whnf
    refine ⟨_, hpa _, ?_⟩
    conv => whnf
    refine ⟨_, hk _, ?_⟩
    conv => whnf
    refine bsel_intro (fun g1 => ?_) (fun g1 => ?_)
    · rw [hel] at g1
      have hkn : (kidsN 6 == (kids.length : Int)) = false := by
        have : ((kids.length : Int) == 1) = false := by rw [bne, Bool.not_eq_true'] at g1; exact g1
        rw [BEq.comm]; exact this
      conv => whnf
      exact fin_bool (by simp only [shaped, Plan.kind, Plan.kids]; rw [hkn]; rfl)
    · rw [hel] at g1
      have hkn : (kidsN 6 == (kids.length : Int)) = true := by
        have : ((kids.length : Int) == 1) = true := by rw [bne, Bool.not_eq_false'] at g1; exact g1
        rw [BEq.comm]; exact this
      conv => whnf
      refine ⟨_, ho _, ?_⟩
      conv => whnf
      refine ⟨_, hs.snapped rfl rfl _, ?_⟩
      iterate 2
        all_goals (try (conv => whnf))
        all_goals (first | (refine bsel_intro (fun hb => ?_) (fun hb => ?_)) | skip)
      all_goals exact fin_bool (by simp only [shaped, Plan.kind, Plan.kids]; rw [hkn, hb]; rfl)

  · have hk := groupKids_r hp
    have ho := groupOnly_r hp n test cells a b keys agg c kids
    have hs := hps (only (.mk 7 n test cells a b keys agg c kids))
    rw [hon (by simp [Plan.kind, kidsN])] at hs
    conv => whnf
    refine ⟨_, hpa _, ?_⟩
    conv => whnf
    refine ⟨_, hk _, ?_⟩
    conv => whnf
    refine bsel_intro (fun g1 => ?_) (fun g1 => ?_)
    · rw [hel] at g1
      have hkn : (kidsN 7 == (kids.length : Int)) = false := by
        have : ((kids.length : Int) == 1) = false := by rw [bne, Bool.not_eq_true'] at g1; exact g1
        rw [BEq.comm]; exact this
      conv => whnf
      exact fin_bool (by simp only [shaped, Plan.kind, Plan.kids]; rw [hkn]; rfl)
    · rw [hel] at g1
      have hkn : (kidsN 7 == (kids.length : Int)) = true := by
        have : ((kids.length : Int) == 1) = true := by rw [bne, Bool.not_eq_false'] at g1; exact g1
        rw [BEq.comm]; exact this
      conv => whnf
      refine ⟨_, ho _, ?_⟩
      conv => whnf
      refine ⟨_, hs.snapped rfl rfl _, ?_⟩
      iterate 2
        all_goals (try (conv => whnf))
        all_goals (first | (refine bsel_intro (fun hb => ?_) (fun hb => ?_)) | skip)
      all_goals exact fin_bool (by simp only [shaped, Plan.kind, Plan.kids]; rw [hkn, hb]; rfl)

  · conv => whnf
    refine ⟨_, hpa _, ?_⟩
    iterate 9
      all_goals (try (conv => whnf))
      all_goals (first | (refine bsel_false h1 ?_) | (refine bsel_false h2 ?_) | (refine bsel_false h3 ?_) | (refine bsel_false h4 ?_) | (refine bsel_false h5 ?_) | (refine bsel_false h6 ?_) | (refine bsel_false h7 ?_) | (refine bsel_intro (fun hb => ?_) (fun hb => ?_)) | skip)
    all_goals exact fin_bool (by
      simp only [beq_eq_false_iff_ne, ne_eq] at *
      simp only [shaped, Plan.kind, Plan.kids, kidsN]
      simp [h1, h2, h3, h4, h5, h6, h7]
      try (intro hh; omega))
end Go.Proofs.YtbghmemejbbhfaaGreat

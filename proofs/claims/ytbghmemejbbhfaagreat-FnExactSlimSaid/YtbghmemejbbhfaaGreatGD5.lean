/- THE PROGRAM's Slim RETURNS WHAT THE REFERENCE's RETURNS, FOR ALL ARGUMENTS. No condition. -/
import Derived.Test.YtbghmemejbbhfaaGreatGSh
import Derived.Test.YtbghmemejbbhfaaGreatGPw
import Derived.Test.YtbghmemejbbhfaaGreatGB6
import Derived.ProofKit
set_option linter.unusedVariables false
set_option linter.unusedSimpArgs false
/- The reference's Slim: the caller's own. -/
namespace Go.Proofs.YtbghmemejbbhfaaGreat
open Go Go.Am
variable {pr : Prims} (hp : Okp pr)
set_option maxRecDepth 100000
theorem sSlim_n (hp : Okp pr) (p : Plan) (hsm : p.small) : RetN pr 15 [p.enc] (slimP p) := by
  have h1 := l4Fit_r hp p hsm
  have hc1 := l4Copy_n hp p hsm
  have h2 := fun hf : fit p = true => l10Slim_f' hp p.cnt p 6
  have hok : fit p = true → okF 6 p = true := fun h => okF_of_form <| by simp only [fit, Bool.and_eq_true] at h; exact h.1
  have h3 := l4Copy_n hp (slimF p.cnt p) (slimF_small hsm)
  have hss : (slimF p.cnt p).small := slimF_small hsm
  unfold slimP
  generalize slimF p.cnt p = s at h2 h3 hss ⊢
  obtain ⟨kind, n, test, cells, a, b, keys, agg, c, kids⟩ := p
  obtain ⟨kind1, n1, test1, cells1, a9, b9, keys1, agg1, c1, kids1⟩ := s
  refine retN_of hp rfl ?_
  have S : Sepa [] [] := Sepa.nil []
  cases hf : fit (Plan.mk kind n test cells a b keys agg c kids) <;> rw [hf] at h1
  · conv => whnf
    intro k1 a1 hk_k1 hh_a1
    replace S := S.alloc hk_k1 hh_a1
    conv => whnf
    intro k2 a2 hk_k2 hh_a2
    replace S := S.alloc hk_k2 hh_a2
    conv => whnf
    refine .inl ⟨_, S.row 1 rfl, rfl, ?_⟩
    conv => whnf
    refine ⟨_, h1 _, ?_⟩
    conv => whnf
    refine ⟨_, rfl, rfl, rfl, .inl ⟨_, S.row 0 rfl, rfl, ?_⟩⟩
    conv => whnf
    intro a3 hh_a3
    replace S := S.set 0 rfl hh_a3
    dsimp only [List.set] at S
    conv => whnf
    exact ⟨_, fin_cell rfl rfl (S.row 0 rfl) rfl, _, _, [], rfl, own_zP _, by simp⟩
  · replace h2 := h2 hf
    replace hok := hok hf
    conv => whnf
    intro k1 a1 hk_k1 hh_a1
    replace S := S.alloc hk_k1 hh_a1
    conv => whnf
    intro k2 a2 hk_k2 hh_a2
    replace S := S.alloc hk_k2 hh_a2
    conv => whnf
    refine .inl ⟨_, S.row 1 rfl, rfl, ?_⟩
    conv => whnf
    refine ⟨_, h1 _, ?_⟩
    conv => whnf
    refine .inl ⟨_, S.row 1 rfl, rfl, ?_⟩
    conv => whnf
    obtain ⟨v1, a3, F1, hc3, hpre, ho, hn, hd⟩ := hc1.at (h := a2) (args := [(Plan.mk kind n test cells a b keys agg c kids).enc]) rfl rfl
    replace S := S.more (c := .plan (Plan.mk kind n test cells a b keys agg c kids) v1 F1) hpre ho hn hd
    obtain ⟨v2, F2, a4, hc4, f4, o4, n4, i4⟩ := h2 v1 F1 a3 (Nat.le_refl _) hsm hok ho hn
    replace S := S.turn 0 (c' := .plan (Plan.mk kind1 n1 test1 cells1 a9 b9 keys1 agg1 c1 kids1) v2 F2) (h' := a4) rfl f4.out o4 n4 (fun i hi => .inl (i4 i hi))
    dsimp only [List.set] at S
    obtain ⟨v3, a5, F3, hc5, hpre5, o5, n5, d5⟩ := h3.at (h := a4) (args := [v2]) rfl (snapL1 (o4.snap hss))
    replace S := S.more (c := .plan (Plan.mk kind1 n1 test1 cells1 a9 b9 keys1 agg1 c1 kids1) v3 F3) hpre5 o5 n5 d5
    rw [OwnP_mk] at ho
    obtain ⟨C1, K1, D1, Fc1, Fk1, Fd1, rfl, -, -, -, rfl⟩ := ho
    rw [OwnP_mk] at o4
    obtain ⟨C2, K2, D2, Fc2, Fk2, Fd2, rfl, -, -, -, rfl⟩ := o4
    rw [OwnP_mk] at o5
    obtain ⟨C3, K3, D3, Fc3, Fk3, Fd3, rfl, g1, g2, g3, rfl⟩ := o5
    refine ⟨_, hc3, ?_⟩
    conv => whnf
    refine ⟨_, hc4, ?_⟩
    conv => whnf
    refine ⟨_, hc5, ?_⟩
    conv => whnf
    refine ⟨_, rfl, rfl, (pval_all g1.cell.2 g2.cell.2 g3.cell.2), .inl ⟨_, S.row 2 rfl, rfl, ?_⟩⟩
    conv => whnf
    intro a6 hh_a6
    replace S := S.set 2 rfl hh_a6
    dsimp only [List.set] at S
    conv => whnf
    exact ⟨_, fin_cell rfl rfl (S.row 2 rfl) rfl, _, _, _, rfl, S.get 0 rfl, n5⟩
end Go.Proofs.YtbghmemejbbhfaaGreat
/- THE PROGRAM's Slim RETURNS WHAT THE REFERENCE's RETURNS, FOR ALL ARGUMENTS. No condition. -/
namespace Go.Proofs.YtbghmemejbbhfaaGreat
open Go Go.Am Go.ChangeShapes Go.WideShapes Go.ChangeAt Go.RowKit
set_option maxRecDepth 100000
theorem own_snap2 {h : Heap} : ∀ (N : Nat), (∀ (p : Plan) (v : AVal) (F : List Nat) (n : Nat), SizeOf.sizeOf p ≤ N → OwnP h p v F → 2 * p.cnt + 3 ≤ n → Am.snapF h n v = some p.enc) ∧
    ∀ (ps : List Plan) (vs : List AVal) (F : List Nat) (n : Nat), SizeOf.sizeOf ps ≤ N → OwnPs h ps vs F → 2 * Plan.cnts ps + 3 ≤ n → mapO (Am.snapF h n) vs = some (Plan.encs ps) := by
  intro N
  induction N with
  | zero =>
    refine ⟨fun p v F n hs => ?_, fun ps vs F n hs hp => ?_⟩
    · cases p; simp at hs
    · cases ps <;> simp at hs
  | succ N ih =>
    refine ⟨fun p v F n hs hp hn => ?_, fun ps vs F n hs hp hn => ?_⟩
    · obtain ⟨kind, m, test, cells, a, b, keys, agg, col, kids⟩ := p
      rw [OwnP_mk] at hp
      obtain ⟨C, K, D, Fc, Fk, Fd, rfl, h1, h2, h3, rfl⟩ := hp
      simp only [Plan.cnt] at hn
      obtain ⟨n, rfl⟩ : ∃ k, n = k + 5 := ⟨n - 5, by omega⟩
      have e1 : Am.snapF h (n + 4) C = some (.sl (cells.map Cell.enc)) := OwnL.snapF (n := n + 2) (fun x => rfl) h1
      have e2 : Am.snapF h (n + 4) K = some (.sl (keys.map i64)) := OwnL.snapF (n := n + 2) (fun x => rfl) h2
      have e3 : Am.snapF h (n + 4) D = some (.sl (Plan.encs kids)) := by
        rcases h3 with ⟨rfl, rfl, _⟩ | ⟨id, vs, Fs, rfl, h5, h6, _⟩
        · rfl
        · refine snapF_own h5 (by rw [OwnPs_len h6]) ?_
          exact ih.2 _ vs Fs (n + 3) (by simp at hs ⊢; omega) h6 (by omega)
      show (mapO (Am.snapF h (n + 4)) _).map AVal.agg = _
      simp only [mapO, e1, e2, e3, snapF_int, snapF_bool, Option.map_some, Plan.enc]
    · cases ps with
      | nil => simp only [OwnPs] at hp; rw [hp.1]; rfl
      | cons p ps =>
        simp only [OwnPs] at hp
        obtain ⟨v, vs', F1, F2, rfl, rfl, h1, h2⟩ := hp
        simp at hs
        simp only [Plan.cnts] at hn
        simp only [mapO, ih.1 p v F1 n (by omega) h1 (by omega), ih.2 ps vs' F2 n (by omega) h2 (by omega), Plan.encs]
theorem OwnP.snap2 {h : Heap} {p : Plan} {v : AVal} {F : List Nat} (ho : OwnP h p v F) (hc : p.cnt ≤ 1048577) : Am.snap h v = some p.enc := (own_snap2 _).1 p v F _ (Nat.le_refl _) ho (by omega)
theorem cnts_cms' : ∀ (N : Nat), (∀ p : Plan, SizeOf.sizeOf p ≤ N → 16 * p.cnt ≤ cm p) ∧ ∀ ps : List Plan, SizeOf.sizeOf ps ≤ N → 16 * Plan.cnts ps ≤ cms ps := by
  intro N
  induction N with
  | zero =>
    refine ⟨fun p h => ?_, fun ps h => ?_⟩
    · cases p; simp at h
    · cases ps <;> simp at h
  | succ N ih =>
    refine ⟨fun p h => ?_, fun ps h => ?_⟩
    · obtain ⟨kind, n, test, cells, a, b, keys, agg, col, kids⟩ := p
      have := ih.2 kids (by simp at h; omega)
      simp only [cm, Plan.cnt]
      omega
    · cases ps with
      | nil => simp [cms, Plan.cnts]
      | cons p ps =>
        simp at h
        have h1 := ih.1 p (by omega)
        have h2 := ih.2 ps (by omega)
        simp only [cms, Plan.cnts]
        omega
theorem cnt_mk {p : Plan} {k k' : Int} (hm : MkIn p k k') (hb : k' - k ≤ 16777216) : p.cnt ≤ 1048577 := by
  obtain ⟨kind, n, test, cells, a, b, keys, agg, c, kids⟩ := p
  simp only [MkIn] at hm
  have h1 := MkS_cms hm.2.2
  have h2 := (cnts_cms' _).2 kids (Nat.le_refl _)
  simp only [Plan.cnt]
  omega
theorem ci_sz (p : Plan) : ci p ≤ 16 * p.sz := by
  obtain ⟨kind, n, test, cells, a, b, keys, agg, c, kids⟩ := p
  have := cms_sz kids
  simp only [ci, Plan.sz]
  omega
theorem law_Slim {pr : Prims} (hk : Okc pr) (p : Plan) (hf : p.fits) : ∃ h, call (cfp pr) 5 [p.enc] [] = some (.ret (.bool true) h) := by
  have c1 := szPlan_r hk.toOkp p hf
  have hsm : ¬ szR 1048576 p.sz < 0 → p.small := fun h => by
    unfold szR at h
    unfold Plan.small
    split at h <;> omega
  have c2 : p.small → RetN pr 8 [p.enc] p := fun h => toPlan_n hk.toOkp p h
  have c3 : p.small → RetN pr 15 [p.enc] (slimP p) := fun h => sSlim_n hk.toOkp p h
  have c4 : p.small → RetN pr 16 [p.enc] (slimP p) := fun h => iSlim_n hk p h
  have c5 : p.small → Ret pr 10 [p.enc, p.enc] (.bool true) := fun h => eqPlan_r hk.toOkp p h
  have c6 : p.small → Ret pr 10 [(slimP p).enc, (slimP p).enc] (.bool true) := fun h => eqPlan_r hk.toOkp _ (slimP_small h)
  have hss : p.small → (slimP p).small := slimP_small
  generalize slimP p = s at c3 c4 c6 hss
  have hcp := ci_sz p
  have hcs := ci_sz s
  have e1 : snapL [] [p.enc, p.enc] = some [p.enc, p.enc] := by obtain ⟨kind, n, test, cells, a, b, keys, agg, c, kids⟩ := p; rfl
  have e2 : snapL [] [s.enc, s.enc] = some [s.enc, s.enc] := by obtain ⟨kind, n, test, cells, a, b, keys, agg, c, kids⟩ := s; rfl
  have e3 : ∀ (q : Plan) (k : Int), snapL [] [q.enc, i64 k] = some [q.enc, i64 k] := fun q k => by obtain ⟨kind, n, test, cells, a, b, keys, agg, c, kids⟩ := q; rfl
  obtain ⟨kind, n, test, cells, a, b, keys, agg, c, kids⟩ := p
  suffices hw : wpFq (cfp pr) 5 [(Plan.mk kind n test cells a b keys agg c kids).enc] [] (fun r => ∃ h, r = .ret (.bool true) h) by
    obtain ⟨r, hr, h, rfl⟩ := wpFq_sound (hk.out _ rfl) hw
    exact ⟨h, hr⟩
  have S : Sepa [] [] := Sepa.nil []
  conv => whnf
  intro k1 a1 hk_k1 hh_a1
  replace S := S.alloc hk_k1 hh_a1
  conv => whnf
  refine .inl ⟨_, S.row 0 rfl, rfl, ?_⟩
  conv => whnf
  refine ⟨_, c1 _, ?_⟩
  conv => whnf
  refine bsel_intro (fun g1 => ?_) (fun g1 => ?_)
  · conv => whnf
    exact ⟨_, rfl, _, rfl⟩
  · have hsm' := hsm (by simpa using g1)
    replace c2 := c2 hsm'
    replace c3 := c3 hsm'
    replace c4 := c4 hsm'
    replace c5 := c5 hsm'
    replace c6 := c6 hsm'
    replace hss := hss hsm'
    unfold Plan.small at hss
    have hsm2 := hsm'
    unfold Plan.small at hsm2
    clear c1 hsm hf
    conv => whnf
    refine .inl ⟨_, S.row 0 rfl, rfl, ?_⟩
    conv => whnf
    -- toPlan, spec.Slim
    obtain ⟨v1, b1, F1, q1, p1, o1, n1, d1⟩ := c2.at (h := a1) (args := [(Plan.mk kind n test cells a b keys agg c kids).enc]) rfl rfl
    replace S := S.more (c := .plan (Plan.mk kind n test cells a b keys agg c kids) v1 F1) p1 o1 n1 d1
    obtain ⟨v2, b2, F2, q2, p2, o2, n2, d2⟩ := c3.at (h := b1) (args := [v1]) rfl (snapL1 (o1.snap hsm'))
    replace S := S.more (c := .plan s v2 F2) p2 o2 n2 d2
    have o1' := o1
    have o2' := o2
    obtain ⟨kind1, n1', test1, cells1, a9, b9, keys1, agg1, c1, kids1⟩ := s
    rw [OwnP_mk] at o1' o2'
    obtain ⟨C1, K1, D1, Fc1, Fk1, Fd1, rfl, -, -, -, rfl⟩ := o1'
    obtain ⟨C2, K2, D2, Fc2, Fk2, Fd2, rfl, g1, g2, g3, rfl⟩ := o2'
    refine ⟨_, q1, ?_⟩
    conv => whnf
    refine ⟨_, q2, ?_⟩
    conv => whnf
    intro k2 a2 hk_k2 hh_a2
    replace S := S.alloc hk_k2 hh_a2
    conv => whnf
    refine ⟨_, rfl, rfl, (pval_all g1.cell.2 g2.cell.2 g3.cell.2), .inl ⟨_, S.row 0 rfl, rfl, ?_⟩⟩
    conv => whnf
    intro a3 hh_a3
    replace S := S.set 0 rfl hh_a3
    dsimp only [List.set] at S
    conv => whnf
    clear q1 q2 p1 p2 o1 o2 n1 n2 d1 d2 g1 g2 g3
    -- x0
    refine .inl ⟨_, S.row 3 rfl, rfl, ?_⟩
    conv => whnf
    obtain ⟨v1, b1, F1, q1, p1, o1, n1, d1⟩ := c2.at (h := a3) (args := [(Plan.mk kind n test cells a b keys agg c kids).enc]) rfl rfl
    replace S := S.more (c := .plan (Plan.mk kind n test cells a b keys agg c kids) v1 F1) p1 o1 n1 d1
    have o1' := o1
    rw [OwnP_mk] at o1'
    obtain ⟨C3, K3, D3, Fc3, Fk3, Fd3, rfl, g1, g2, g3, rfl⟩ := o1'
    refine ⟨_, q1, ?_⟩
    conv => whnf
    intro k3 a4 hk_k3 hh_a4
    replace S := S.alloc hk_k3 hh_a4
    conv => whnf
    refine ⟨_, rfl, rfl, (pval_all g1.cell.2 g2.cell.2 g3.cell.2), .inl ⟨_, S.row 0 rfl, rfl, ?_⟩⟩
    conv => whnf
    intro a5 hh_a5
    replace S := S.set 0 rfl hh_a5
    dsimp only [List.set] at S
    conv => whnf
    clear q1 p1 o1 n1 d1 g1 g2 g3
    -- g0
    refine .inl ⟨_, S.row 0 rfl, rfl, ?_⟩
    conv => whnf
    obtain ⟨v2, b2, F2, q2, p2, o2, n2, d2⟩ := c4.at (h := a5) (args := [pval kind n test C3 a b K3 agg c D3]) rfl (snapL1 ((show OwnP _ _ _ _ from S.get 1 rfl).snap hsm'))
    replace S := S.more (c := .plan (Plan.mk kind1 n1' test1 cells1 a9 b9 keys1 agg1 c1 kids1) v2 F2) p2 o2 n2 d2
    have o2' := o2
    rw [OwnP_mk] at o2'
    obtain ⟨C4, K4, D4, Fc4, Fk4, Fd4, rfl, g1, g2, g3, rfl⟩ := o2'
    refine ⟨_, q2, ?_⟩
    conv => whnf
    intro k4 a6 hk_k4 hh_a6
    replace S := S.alloc hk_k4 hh_a6
    conv => whnf
    refine ⟨_, rfl, rfl, (pval_all g1.cell.2 g2.cell.2 g3.cell.2), .inl ⟨_, S.row 0 rfl, rfl, ?_⟩⟩
    conv => whnf
    intro a7 hh_a7
    replace S := S.set 0 rfl hh_a7
    dsimp only [List.set] at S
    conv => whnf
    clear q2 p2 o2 n2 d2 g1 g2 g3
    -- parts: 0: box g0, 1: g0, 2: box x0, 3: x0, 4: box w0, 5: w0, 6: the first copy, 7: box p
    refine .inl ⟨_, S.row 0 rfl, rfl, ?_⟩
    conv => whnf
    refine .inl ⟨_, S.row 4 rfl, rfl, ?_⟩
    conv => whnf
    refine ⟨_, c6.here (snapL2 ((show OwnP _ _ _ _ from S.get 1 rfl).snap hss) ((show OwnP _ _ _ _ from S.get 5 rfl).snap hss)) e2 rfl, ?_⟩
    conv => whnf
    refine .inl ⟨_, S.row 2 rfl, rfl, ?_⟩
    conv => whnf
    refine .inl ⟨_, S.row 7 rfl, rfl, ?_⟩
    conv => whnf
    obtain ⟨v1, b1, F1, q1, p1, o1, n1, d1⟩ := c2.at (h := a7) (args := [(Plan.mk kind n test cells a b keys agg c kids).enc]) rfl rfl
    replace S := S.more (c := .plan (Plan.mk kind n test cells a b keys agg c kids) v1 F1) p1 o1 n1 d1
    have o1' := o1
    rw [OwnP_mk] at o1'
    obtain ⟨C5, K5, D5, Fc5, Fk5, Fd5, rfl, -, -, -, rfl⟩ := o1'
    refine ⟨_, q1, ?_⟩
    conv => whnf
    refine ⟨_, c5.here (snapL2 ((show OwnP _ _ _ _ from S.get 4 rfl).snap hsm') (o1.snap hsm')) e1 rfl, ?_⟩
    conv => whnf
    clear q1 p1 o1 n1 d1
    replace S := S.drop 0
    dsimp only [List.eraseIdx] at S
    -- marks in x0
    refine .inl ⟨_, S.row 2 rfl, rfl, ?_⟩
    conv => whnf
    have hx : OwnP b1 (Plan.mk kind n test cells a b keys agg c kids) _ _ := S.get 3 rfl
    obtain ⟨x', b2, q1, f1, o1, m1⟩ := markPlan_f hk.toOkp _ _ _ b1 1 hx (S.get' 3 _ rfl).2 (by omega) (by omega)
    replace S := S.fr 3 (c' := .plan x' (pval kind n test C3 a b K3 agg c D3) (Fc3 ++ (Fk3 ++ Fd3))) rfl f1 o1 rfl
    dsimp only [List.set] at S
    refine ⟨_, q1, ?_⟩
    clear q1 f1 o1 m1 hx
    conv => whnf
    refine .inl ⟨_, S.row 0 rfl, rfl, ?_⟩
    conv => whnf
    refine .inl ⟨_, S.row 4 rfl, rfl, ?_⟩
    conv => whnf
    refine ⟨_, c6.here (snapL2 ((show OwnP _ _ _ _ from S.get 1 rfl).snap hss) ((show OwnP _ _ _ _ from S.get 5 rfl).snap hss)) e2 rfl, ?_⟩
    conv => whnf
    -- marks in g0
    refine .inl ⟨_, S.row 0 rfl, rfl, ?_⟩
    conv => whnf
    have hg : OwnP b2 (Plan.mk kind1 n1' test1 cells1 a9 b9 keys1 agg1 c1 kids1) _ _ := S.get 1 rfl
    obtain ⟨g', b3, q1, f1, o1, m1⟩ := markPlan_f hk.toOkp _ _ _ b2 1 hg (S.get' 1 _ rfl).2 (by omega) (by omega)
    replace S := S.fr 1 (c' := .plan g' (pval kind1 n1' test1 C4 a9 b9 K4 agg1 c1 D4) (Fc4 ++ (Fk4 ++ Fd4))) rfl f1 o1 rfl
    dsimp only [List.set] at S
    refine ⟨_, q1, ?_⟩
    have hheld := heldPlan_r hk.toOkp g' 1 _ m1 (by omega) (by omega)
    have hcg := cnt_mk m1 (by omega)
    replace e3 := e3 g' 1
    clear q1 f1 o1 m1 hg
    conv => whnf
    refine .inl ⟨_, S.row 0 rfl, rfl, ?_⟩
    conv => whnf
    refine ⟨_, hheld.here (snapL2 ((show OwnP _ _ _ _ from S.get 1 rfl).snap2 hcg) rfl) e3 rfl, ?_⟩
    conv => whnf
    refine bsel_false (bne_self _) ?_
    conv => whnf
    -- h0
    refine .inl ⟨_, S.row 7 rfl, rfl, ?_⟩
    conv => whnf
    obtain ⟨v1, b4, F1, q1, p1, o1, n1, d1⟩ := c2.at (h := b3) (args := [(Plan.mk kind n test cells a b keys agg c kids).enc]) rfl rfl
    replace S := S.more (c := .plan (Plan.mk kind n test cells a b keys agg c kids) v1 F1) p1 o1 n1 d1
    obtain ⟨v2, b5, F2, q2, p2, o2, n2, d2⟩ := c4.at (h := b4) (args := [v1]) rfl (snapL1 (o1.snap hsm'))
    replace S := S.more (c := .plan (Plan.mk kind1 n1' test1 cells1 a9 b9 keys1 agg1 c1 kids1) v2 F2) p2 o2 n2 d2
    have o1' := o1
    have o2' := o2
    rw [OwnP_mk] at o1' o2'
    obtain ⟨C6, K6, D6, Fc6, Fk6, Fd6, rfl, -, -, -, rfl⟩ := o1'
    obtain ⟨C7, K7, D7, Fc7, Fk7, Fd7, rfl, g1, g2, g3, rfl⟩ := o2'
    refine ⟨_, q1, ?_⟩
    conv => whnf
    refine ⟨_, q2, ?_⟩
    conv => whnf
    intro k5 a8 hk_k5 hh_a8
    replace S := S.alloc hk_k5 hh_a8
    conv => whnf
    refine ⟨_, rfl, rfl, (pval_all g1.cell.2 g2.cell.2 g3.cell.2), .inl ⟨_, S.row 0 rfl, rfl, ?_⟩⟩
    conv => whnf
    intro a11 hh_a11
    replace S := S.set 0 rfl hh_a11
    dsimp only [List.set] at S
    conv => whnf
    clear q1 q2 p1 p2 o1 o2 n1 n2 d1 d2 g1 g2 g3
    -- parts: 0: box h0, 1: h0, 2: copy, 3: box g0, 4: g0, 5: box x0, 6: x0, 7: box w0, 8: w0
    refine .inl ⟨_, S.row 0 rfl, rfl, ?_⟩
    conv => whnf
    refine .inl ⟨_, S.row 7 rfl, rfl, ?_⟩
    conv => whnf
    refine ⟨_, c6.here (snapL2 ((show OwnP _ _ _ _ from S.get 1 rfl).snap hss) ((show OwnP _ _ _ _ from S.get 8 rfl).snap hss)) e2 rfl, ?_⟩
    conv => whnf
    refine .inl ⟨_, S.row 3 rfl, rfl, ?_⟩
    conv => whnf
    refine ⟨_, hheld.here (snapL2 ((show OwnP _ _ _ _ from S.get 4 rfl).snap2 hcg) rfl) e3 rfl, ?_⟩
    conv => whnf
    refine bsel_false (bne_self _) ?_
    conv => whnf
    exact ⟨_, rfl, _, rfl⟩
end Go.Proofs.YtbghmemejbbhfaaGreat

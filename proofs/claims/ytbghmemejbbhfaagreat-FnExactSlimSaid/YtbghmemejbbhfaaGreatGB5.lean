/- markPlan, heldPlan. -/
import Derived.Test.YtbghmemejbbhfaaGreatGOm
set_option linter.unusedVariables false
set_option linter.unusedSimpArgs false
/- Marks are held. -/
namespace Go.Proofs.YtbghmemejbbhfaaGreat
open Go Go.Am
variable {pr : Prims} (hp : Okp pr)
set_option maxRecDepth 100000
theorem bne_self (x : Int) : (x != x) = false := by simp
theorem mk_cms' : ∀ (N : Nat), (∀ (p : Plan) (k k' : Int), SizeOf.sizeOf p ≤ N → MkOne p k k' → k' = k + (cm p : Int)) ∧ ∀ (ps : List Plan) (k k' : Int), SizeOf.sizeOf ps ≤ N → MkS ps k k' → k' = k + (cms ps : Int) := by
  intro N
  induction N with
  | zero =>
    refine ⟨fun p k k' h => ?_, fun ps k k' h => ?_⟩
    · cases p; simp at h
    · cases ps <;> simp at h
  | succ N ih =>
    refine ⟨fun p k k' h hm => ?_, fun ps k k' h hm => ?_⟩
    · obtain ⟨kind, n, test, cells, a, b, keys, agg, col, kids⟩ := p
      simp only [MkOne] at hm
      have := ih.2 kids _ _ (by simp at h; omega) hm.2.2.2.2.2.2.2.2.2
      simp only [cm, k12] at this ⊢
      omega
    · cases ps with
      | nil => simp only [MkS] at hm; simp [cms]; exact hm
      | cons p ps =>
        simp only [MkS] at hm
        obtain ⟨k1, h1, h2⟩ := hm
        simp at h
        have e1 := ih.1 p _ _ (by omega) h1
        have e2 := ih.2 ps _ _ (by omega) h2
        simp only [cms]
        omega
theorem MkS_cms {ps : List Plan} {k k' : Int} (h : MkS ps k k') : k' = k + (cms ps : Int) := (mk_cms' _).2 ps k k' (Nat.le_refl _) h
theorem heldCellS_r (hp : Okp pr) (xs : List Cell) (k : Int) (hx : xs = mkCells k xs.length) (h0 : 0 ≤ k) (hb : k + 4 * (xs.length : Int) ≤ 1152921504606846976) : Ret pr 39 [.sl (xs.map Cell.enc), i64 k] (i64 (k + 4 * (xs.length : Int))) := by
  refine ret_of hp rfl rfl ?_
  conv => whnf
  refine loop_rule (fun m st => ∃ j : Nat, j + m = xs.length ∧ st.tm 0 = .sl (xs.map Cell.enc) ∧ st.tm 1 = i64 (k + 4 * (j : Int)) ∧ st.tm 5 = i64 (j : Nat) ∧ st.hp = []) (fun m st hI => ?_) xs.length _ ⟨0, by simp, rfl, by simp; rfl, rfl, rfl⟩
  obtain ⟨j, hj, e0, e1, e5, hh⟩ := hI
  obtain ⟨tm, hq⟩ := st
  simp only at e0 e1 e5 hh
  subst hh
  rw [show tm = upd (upd (upd tm 0 (.sl (xs.map Cell.enc))) 1 (i64 (k + 4 * (j : Int)))) 5 (i64 (j : Nat)) by rw [upd_id e0, upd_id e1, upd_id e5]]
  clear e0 e1 e5
  have hge : j < xs.length → (xs.map Cell.enc)[((j : Nat) : Int).toNat]? = some (Cell.enc ⟨k + 4 * (j : Int), k + 4 * (j : Int) + 1, k + 4 * (j : Int) + 1 + 1, k + 4 * (j : Int) + 1 + 1 + 1⟩) := fun hjl => by
    rw [Int.toNat_natCast, List.getElem?_map, hx]
    simp [mkCells, hjl]
  have hkk : k + 4 * ((j + 1 : Nat) : Int) = k + 4 * (j : Int) + 1 + 1 + 1 + 1 := by omega
  have hb2 : j < xs.length → k + 4 * (j : Int) + 4 ≤ 1152921504606846976 := fun hjl => by omega
  have hpos : 0 ≤ k + 4 * (j : Int) := by omega
  generalize hkd : k + 4 * (j : Int) = kk at hge hkk hb2 hpos
  conv => whnf
  refine bsel_intro (fun h1 => ?_) (fun h1 => ?_)
  · have hjl : j < xs.length := by simpa using h1
    have hg := hge hjl
    have hb3 := hb2 hjl
    clear hge hb2
    conv => whnf
    refine ⟨_, hg, by omega, rfl, ?_⟩
    conv => whnf
    refine bsel_false (bne_self _) ?_
    conv => whnf
    rw [wrap1 (kk) (by omega) (by omega)]
    conv => whnf
    refine ⟨_, hg, by omega, rfl, ?_⟩
    conv => whnf
    refine bsel_false (bne_self _) ?_
    conv => whnf
    rw [wrap1 (kk + 1) (by omega) (by omega)]
    conv => whnf
    refine ⟨_, hg, by omega, rfl, ?_⟩
    conv => whnf
    refine bsel_false (bne_self _) ?_
    conv => whnf
    rw [wrap1 (kk + 1 + 1) (by omega) (by omega)]
    conv => whnf
    refine ⟨_, hg, by omega, rfl, ?_⟩
    conv => whnf
    refine bsel_false (bne_self _) ?_
    conv => whnf
    rw [wrap1 (kk + 1 + 1 + 1) (by omega) (by omega)]
    conv => whnf
    exact ⟨m - 1, by omega, j + 1, by omega, rfl, by rw [hkk]; rfl, nat_step j (by omega), rfl⟩
  · have hje : j = xs.length := by
      have : ¬ j < xs.length := by simpa using h1
      omega
    subst hje
    conv => whnf
    exact fin_int hkd.symm
theorem heldIntS_r (hp : Okp pr) (xs : List Int) (k : Int) (hx : xs = mkInts k xs.length) (h0 : 0 ≤ k) (hb : k + (xs.length : Int) ≤ 1152921504606846976) : Ret pr 40 [.sl (xs.map i64), i64 k] (i64 (k + (xs.length : Int))) := by
  refine ret_of hp rfl rfl ?_
  conv => whnf
  refine loop_rule (fun m st => ∃ j : Nat, j + m = xs.length ∧ st.tm 0 = .sl (xs.map i64) ∧ st.tm 1 = i64 (k + (j : Int)) ∧ st.tm 5 = i64 (j : Nat) ∧ st.hp = []) (fun m st hI => ?_) xs.length _ ⟨0, by simp, rfl, by simp; rfl, rfl, rfl⟩
  obtain ⟨j, hj, e0, e1, e5, hh⟩ := hI
  obtain ⟨tm, hq⟩ := st
  simp only at e0 e1 e5 hh
  subst hh
  rw [show tm = upd (upd (upd tm 0 (.sl (xs.map i64))) 1 (i64 (k + (j : Int)))) 5 (i64 (j : Nat)) by rw [upd_id e0, upd_id e1, upd_id e5]]
  clear e0 e1 e5
  have hge : j < xs.length → (xs.map i64)[((j : Nat) : Int).toNat]? = some (i64 (k + (j : Int))) := fun hjl => by
    rw [Int.toNat_natCast, List.getElem?_map, hx]
    simp [mkInts, hjl]
  have hkk : k + ((j + 1 : Nat) : Int) = k + (j : Int) + 1 := by omega
  have hb2 : j < xs.length → k + (j : Int) + 1 ≤ 1152921504606846976 := fun hjl => by omega
  have hpos : 0 ≤ k + (j : Int) := by omega
  generalize hkd : k + (j : Int) = kk at hge hkk hb2 hpos
  conv => whnf
  refine bsel_intro (fun h1 => ?_) (fun h1 => ?_)
  · have hjl : j < xs.length := by simpa using h1
    have hg := hge hjl
    have hb3 := hb2 hjl
    clear hge hb2
    conv => whnf
    refine ⟨_, hg, by omega, rfl, ?_⟩
    conv => whnf
    refine bsel_false (bne_self _) ?_
    conv => whnf
    rw [wrap1 (kk) (by omega) (by omega)]
    conv => whnf
    exact ⟨m - 1, by omega, j + 1, by omega, rfl, by rw [hkk]; rfl, nat_step j (by omega), rfl⟩
  · have hje : j = xs.length := by
      have : ¬ j < xs.length := by simpa using h1
      omega
    subst hje
    conv => whnf
    exact fin_int hkd.symm
end Go.Proofs.YtbghmemejbbhfaaGreat
/- Marks of plans are held. -/
namespace Go.Proofs.YtbghmemejbbhfaaGreat
open Go Go.Am
variable {pr : Prims} (hp : Okp pr)
set_option maxRecDepth 100000
theorem heldPlanS_r' (hp : Okp pr) : ∀ (N : Nat) (ps : List Plan) (k k' : Int), SizeOf.sizeOf ps ≤ N → MkS ps k k' → 0 ≤ k → k' ≤ 1152921504606846976 → Ret pr 41 [.sl (Plan.encs ps), i64 k] (i64 k') := by
  intro N
  induction N with
  | zero => intro ps k k' hs; cases ps <;> simp at hs
  | succ N ih =>
    intro ps k k' hs hm h0 hb
    have hge := cms_ge ps
    have hcm := MkS_cms hm
    refine ret_of hp rfl rfl ?_
    conv => whnf
    refine loop_rule (fun m st => ∃ (j : Nat) (kj : Int), j + m = ps.length ∧ st.tm 0 = .sl (Plan.encs ps) ∧ st.tm 1 = i64 kj ∧ st.tm 5 = i64 (j : Nat) ∧ st.hp = [] ∧ MkS (ps.drop j) kj k' ∧ 0 ≤ kj) (fun m st hI => ?_) ps.length _ ⟨0, k, by simp, rfl, rfl, rfl, rfl, hm, h0⟩
    obtain ⟨j, kk, hj, e0, e1, e5, hh, hmj, hpos⟩ := hI
    obtain ⟨tm, hq⟩ := st
    simp only at e0 e1 e5 hh
    subst hh
    rw [show tm = upd (upd (upd tm 0 (.sl (Plan.encs ps))) 1 (i64 kk)) 5 (i64 (j : Nat)) by rw [upd_id e0, upd_id e1, upd_id e5]]
    clear e0 e1 e5
    conv => whnf
    refine bsel_intro (fun h1 => ?_) (fun h1 => ?_)
    · have hjl : j < ps.length := by simpa [encs_len] using h1
      have hg : (Plan.encs ps)[((j : Nat) : Int).toNat]? = some (Plan.enc ps[j]) := by rw [Int.toNat_natCast, encs_get]; simp [hjl]
      have hsz := List.sizeOf_lt_of_mem (List.getElem_mem hjl)
      rw [List.drop_eq_getElem_cons hjl] at hmj
      generalize ps[j] = q at hg hmj hsz
      obtain ⟨kind, n, test, cells, a, b, keys, agg, c, kids⟩ := q
      simp only [MkS] at hmj
      obtain ⟨k1, hm1, hm2⟩ := hmj
      simp only [MkOne] at hm1
      obtain ⟨hkd, rfl, rfl, hc, rfl, rfl, hk, rfl, rfl, hks⟩ := hm1
      rw [hkd] at hg
      have hcm2 := MkS_cms hks
      have hcm3 := MkS_cms hm2
      have hk12 : k12 kk = kk + 12 := by simp only [k12]; omega
      have q1 := heldCellS_r hp cells (k12 kk) hc (by omega) (by omega)
      have q2 := heldIntS_r hp keys _ hk (by omega) (by omega)
      have q3 := ih kids _ _ (by simp at hsz hs; omega) hks (by omega) (by omega)
      generalize hk2 : k12 kk + 4 * (cells.length : Int) = k2 at hg q1 q2 q3 hcm2
      generalize hk3 : k2 + 1 + 1 + (keys.length : Int) = k3 at hg q2 q3 hcm2
      clear hc hk hks hm
      cases hn : (kk + 1 + 1 + 1).tmod 3 == 0
      iterate 2
        · simp only [mkTest, hn] at hg
          conv => whnf
          refine ⟨_, hg, by omega, rfl, ?_⟩
          conv => whnf
          refine bsel_false (bne_self _) ?_
          conv => whnf
          rw [wrap1 (kk) (by omega) (by omega)]
          conv => whnf
          refine ⟨_, hg, by omega, rfl, ?_⟩
          conv => whnf
          refine bsel_false (bne_self _) ?_
          conv => whnf
          rw [wrap1 (kk + 1) (by omega) (by omega)]
          conv => whnf
          refine ⟨_, hg, by omega, rfl, ?_⟩
          conv => whnf
          refine bsel_false (bne_self _) ?_
          conv => whnf
          rw [wrap1 (kk + 1 + 1) (by omega) (by omega)]
          conv => whnf
          refine ⟨_, hg, by omega, rfl, ?_⟩
          conv => whnf
          refine ⟨rfl, by decide, ?_⟩
          conv => whnf
          first
            | refine bsel_true hn ?_
            | refine bsel_false hn ?_
          conv => whnf
          rw [wrap1 (kk + 1 + 1 + 1) (by omega) (by omega)]
          conv => whnf
          refine ⟨_, hg, by omega, rfl, ?_⟩
          conv => whnf
          refine bsel_false (bne_self _) ?_
          conv => whnf
          rw [wrap1 (kk + 1 + 1 + 1 + 1) (by omega) (by omega)]
          conv => whnf
          refine ⟨_, hg, by omega, rfl, ?_⟩
          conv => whnf
          refine bsel_false (bne_self _) ?_
          conv => whnf
          rw [wrap1 (kk + 1 + 1 + 1 + 1 + 1) (by omega) (by omega)]
          conv => whnf
          refine ⟨_, hg, by omega, rfl, ?_⟩
          conv => whnf
          refine bsel_false (bne_self _) ?_
          conv => whnf
          rw [wrap1 (kk + 1 + 1 + 1 + 1 + 1 + 1) (by omega) (by omega)]
          conv => whnf
          refine ⟨_, hg, by omega, rfl, ?_⟩
          conv => whnf
          refine bsel_false (bne_self _) ?_
          conv => whnf
          rw [wrap1 (kk + 1 + 1 + 1 + 1 + 1 + 1 + 1) (by omega) (by omega)]
          conv => whnf
          refine ⟨_, hg, by omega, rfl, ?_⟩
          conv => whnf
          refine bsel_false (bne_self _) ?_
          conv => whnf
          rw [wrap1 (kk + 1 + 1 + 1 + 1 + 1 + 1 + 1 + 1) (by omega) (by omega)]
          conv => whnf
          refine ⟨_, hg, by omega, rfl, ?_⟩
          conv => whnf
          refine bsel_false (bne_self _) ?_
          conv => whnf
          rw [wrap1 (kk + 1 + 1 + 1 + 1 + 1 + 1 + 1 + 1 + 1) (by omega) (by omega)]
          conv => whnf
          refine ⟨_, hg, by omega, rfl, ?_⟩
          conv => whnf
          refine bsel_false (bne_self _) ?_
          conv => whnf
          rw [wrap1 (kk + 1 + 1 + 1 + 1 + 1 + 1 + 1 + 1 + 1 + 1) (by omega) (by omega)]
          conv => whnf
          refine ⟨_, hg, by omega, rfl, ?_⟩
          conv => whnf
          refine bsel_false (bne_self _) ?_
          conv => whnf
          rw [wrap1 (kk + 1 + 1 + 1 + 1 + 1 + 1 + 1 + 1 + 1 + 1 + 1) (by omega) (by omega)]
          conv => whnf
          refine ⟨_, hg, by omega, rfl, ?_⟩
          conv => whnf
          refine ⟨_, q1 _, ?_⟩
          conv => whnf
          refine bsel_false (decide_eq_false (by omega)) ?_
          conv => whnf
          refine ⟨_, hg, by omega, rfl, ?_⟩
          conv => whnf
          refine bsel_false (bne_self _) ?_
          conv => whnf
          rw [wrap1 (k2) (by omega) (by omega)]
          conv => whnf
          refine ⟨_, hg, by omega, rfl, ?_⟩
          conv => whnf
          refine bsel_false (bne_self _) ?_
          conv => whnf
          rw [wrap1 (k2 + 1) (by omega) (by omega)]
          conv => whnf
          refine ⟨_, hg, by omega, rfl, ?_⟩
          conv => whnf
          refine ⟨_, q2 _, ?_⟩
          conv => whnf
          refine bsel_false (decide_eq_false (by omega)) ?_
          conv => whnf
          refine ⟨_, hg, by omega, rfl, ?_⟩
          conv => whnf
          refine bsel_false (bne_self _) ?_
          conv => whnf
          rw [wrap1 (k3) (by omega) (by omega)]
          conv => whnf
          refine ⟨_, hg, by omega, rfl, ?_⟩
          conv => whnf
          refine bsel_false (bne_self _) ?_
          conv => whnf
          rw [wrap1 (k3 + 1) (by omega) (by omega)]
          conv => whnf
          refine ⟨_, hg, by omega, rfl, ?_⟩
          conv => whnf
          refine ⟨_, q3 _, ?_⟩
          conv => whnf
          refine bsel_false (decide_eq_false (by omega)) ?_
          conv => whnf
          exact ⟨m - 1, by omega, j + 1, k1, by omega, rfl, rfl, nat_step j (by omega), rfl, hm2, by omega⟩
    · have hje : j = ps.length := by
        have : ¬ j < ps.length := by simpa [encs_len] using h1
        omega
      subst hje
      rw [List.drop_length] at hmj
      simp only [MkS] at hmj
      conv => whnf
      exact fin_int hmj.symm
theorem heldPlanS_r (hp : Okp pr) (ps : List Plan) (k k' : Int) (hm : MkS ps k k') (h0 : 0 ≤ k) (hb : k' ≤ 1152921504606846976) : Ret pr 41 [.sl (Plan.encs ps), i64 k] (i64 k') := heldPlanS_r' hp _ ps k k' (Nat.le_refl _) hm h0 hb
end Go.Proofs.YtbghmemejbbhfaaGreat
/- markPlan, heldPlan. -/
namespace Go.Proofs.YtbghmemejbbhfaaGreat
open Go Go.Am
variable {pr : Prims} (hp : Okp pr)
set_option maxRecDepth 100000
/-- How many marks a plan takes. -/
def ci : Plan → Nat
  | .mk kind n test cells a b keys agg col kids => 4 * cells.length + keys.length + cms kids
theorem split_plan {h : Heap} {L : List Chunk} {kind n : Int} {test : Test} {cells : List Cell} {a b : Int} {keys : List Int} {agg col : Int} {kids : List Plan} {v : AVal} {F : List Nat}
    (S : Sepa h (.plan (.mk kind n test cells a b keys agg col kids) v F :: L)) :
    ∃ C K D Fc Fk Fd, v = pval kind n test C a b K agg col D ∧ F = Fc ++ (Fk ++ Fd) ∧ Sepa h (.list Cell.enc 4 cells C Fc :: .list i64 1 keys K Fk :: .kids kids D Fd :: L) := by
  have h2 : OwnP h _ v F := S.get 0 rfl
  rw [OwnP_mk] at h2
  obtain ⟨C, K, D, Fc, Fk, Fd, rfl, g1, g2, g3, rfl⟩ := h2
  have hn1 : (Fc ++ (Fk ++ Fd)).Nodup := (S.get' 0 _ rfl).2
  refine ⟨C, K, D, Fc, Fk, Fd, rfl, rfl, ?_⟩
  have T2 := S.split (c := .list Cell.enc 4 cells C Fc) (d := (Chunk.list i64 1 keys K Fk).two (.kids kids D Fd)) g1 ⟨g2, g3⟩ (fun id hid => List.mem_append.2 hid) hn1
  have T3 := T2.swap.split (c := .list i64 1 keys K Fk) (d := .kids kids D Fd) g2 g3 (fun id hid => List.mem_append.2 hid) (List.nodup_append.1 hn1).2.1
  exact T3.front 2 rfl
theorem markPlan_f (hp : Okp pr) (p : Plan) (v : AVal) (F : List Nat) (h : Heap) (k : Int) (ho : OwnP h p v F) (hn : F.Nodup) (h0 : 0 ≤ k) (hb : k + (ci p : Int) ≤ 1152921504606846976) :
    ∃ p' h', callM (cfp pr) (call (cfp pr)) 13 [v, i64 k] h = some (.ret (i64 (k + (ci p : Int))) h') ∧ Fr h h' F ∧ OwnP h' p' v F ∧ MkIn p' k (k + (ci p : Int)) := by
  obtain ⟨kind, n, test, cells, a, b, keys, agg, c, kids⟩ := p
  have S : Sepa h [.plan (.mk kind n test cells a b keys agg c kids) v F] := Sepa.one (c := .plan (.mk kind n test cells a b keys agg c kids) v F) ho hn
  obtain ⟨C, K, D, Fc, Fk, Fd, rfl, rfl, T⟩ := split_plan S
  clear S ho
  have S := T
  clear T
  rw [callF rfl]
  suffices hw : wpFq (cfp pr) 13 [pval kind n test C a b K agg c D, i64 k] h (fun r => ∃ p' h', r = .ret (i64 (k + (ci (.mk kind n test cells a b keys agg c kids) : Int))) h' ∧ Fr h h' (Fc ++ (Fk ++ Fd)) ∧ OwnP h' p' (pval kind n test C a b K agg c D) (Fc ++ (Fk ++ Fd)) ∧ MkIn p' k (k + (ci (.mk kind n test cells a b keys agg c kids) : Int))) by
    obtain ⟨r, hr, p', h', rfl, h1, h2, h3⟩ := wpFq_sound (hp.out _ rfl) hw
    exact ⟨p', h', hr, h1, h2, h3⟩
  have hci : (ci (.mk kind n test cells a b keys agg c kids) : Int) = 4 * (cells.length : Int) + (keys.length : Int) + (cms kids : Int) := by simp [ci]
  rw [hci] at hb ⊢
  have fr := Fr.refl h (Fc ++ (Fk ++ Fd))
  conv => whnf
  intro kb a1 hkb hh1
  replace fr := fr.alloc hh1
  replace S := S.alloc hkb hh1
  conv => whnf
  refine .inl ⟨_, S.row 0 rfl, rfl, ?_⟩
  refine LoadR_intro (v := C) rfl ?_
  refine forceV_intro ?_
  conv => whnf
  obtain ⟨d1, hc1, f1, o1⟩ := markCellS_f hp cells C Fc a1 k (S.get 1 rfl) (by omega) (by omega)
  refine ⟨_, hc1, ?_⟩
  replace fr := fr.turn f1 fun i hi => .inl (by simp [hi])
  replace S := S.fr 1 (c' := .list Cell.enc 4 (mkCells k cells.length) C Fc) rfl f1 o1 rfl
  dsimp only [List.set] at S
  conv => whnf
  refine .inl ⟨_, S.row 0 rfl, rfl, ?_⟩
  refine LoadR_intro (v := K) rfl ?_
  refine forceV_intro ?_
  conv => whnf
  obtain ⟨d2, hc2, f2, o2⟩ := markIntS_f hp keys K Fk d1 (k + 4 * (cells.length : Int)) (S.get 2 rfl) (by omega) (by omega)
  refine ⟨_, hc2, ?_⟩
  replace fr := fr.turn f2 fun i hi => .inl (by simp [hi])
  replace S := S.fr 2 (c' := .list i64 1 (mkInts (k + 4 * (cells.length : Int)) keys.length) K Fk) rfl f2 o2 rfl
  dsimp only [List.set] at S
  conv => whnf
  refine .inl ⟨_, S.row 0 rfl, rfl, ?_⟩
  refine LoadR_intro (v := D) rfl ?_
  refine forceV_intro ?_
  conv => whnf
  obtain ⟨kids', d3, hc3, f3, o3, m3, l3⟩ := markPlanS_f' hp _ kids D Fd d2 (k + 4 * (cells.length : Int) + (keys.length : Int)) (Nat.le_refl _) (S.get 3 rfl) (S.get' 3 _ rfl).2 (by omega) (by omega)
  refine ⟨_, hc3, ?_⟩
  replace fr := fr.turn f3 fun i hi => .inl (by simp [hi])
  replace S := S.fr 3 (c' := .kids kids' D Fd) rfl f3 o3 rfl
  dsimp only [List.set] at S
  conv => whnf
  refine ⟨_, rfl, .mk kind n test (mkCells k cells.length) a b (mkInts (k + 4 * (cells.length : Int)) keys.length) agg c kids', d3, ?_, fr, OwnP.of (S.get 1 rfl) (S.get 2 rfl) (S.get 3 rfl), ?_⟩
  · rw [show k + (4 * (cells.length : Int) + (keys.length : Int) + (cms kids : Int)) = k + 4 * (cells.length : Int) + (keys.length : Int) + (cms kids : Int) by omega]
    rfl
  · simp only [MkIn]
    refine ⟨by rw [mkCells_len], by rw [mkInts_len, mkCells_len], ?_⟩
    rw [mkInts_len, mkCells_len, show k + (4 * (cells.length : Int) + (keys.length : Int) + (cms kids : Int)) = k + 4 * (cells.length : Int) + (keys.length : Int) + (cms kids : Int) by omega]
    exact m3
theorem heldPlan_r (hp : Okp pr) (p : Plan) (k k' : Int) (hm : MkIn p k k') (h0 : 0 ≤ k) (hb : k' ≤ 1152921504606846976) : Ret pr 14 [p.enc, i64 k] (i64 k') := by
  obtain ⟨kind, n, test, cells, a, b, keys, agg, c, kids⟩ := p
  simp only [MkIn] at hm
  obtain ⟨hc, hk, hks⟩ := hm
  have hcm := MkS_cms hks
  have q1 := heldCellS_r hp cells k hc (by omega) (by omega)
  have q2 := heldIntS_r hp keys _ hk (by omega) (by omega)
  have q3 := heldPlanS_r hp kids _ _ hks (by omega) hb
  generalize hk2 : k + 4 * (cells.length : Int) = k2 at q1 q2 q3 hcm
  generalize hk3 : k2 + (keys.length : Int) = k3 at q2 q3 hcm
  clear hc hk hks
  refine ret_of hp rfl rfl ?_
  conv => whnf
  refine ⟨_, q1 _, ?_⟩
  conv => whnf
  refine bsel_false (decide_eq_false (by omega)) ?_
  conv => whnf
  refine ⟨_, q2 _, ?_⟩
  conv => whnf
  refine bsel_false (decide_eq_false (by omega)) ?_
  conv => whnf
  refine ⟨_, q3 _, ?_⟩
  conv => whnf
  refine bsel_false (decide_eq_false (by omega)) ?_
  conv => whnf
  exact fin_int rfl
end Go.Proofs.YtbghmemejbbhfaaGreat

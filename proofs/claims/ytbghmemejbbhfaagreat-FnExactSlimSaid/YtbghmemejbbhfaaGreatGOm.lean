/- markPlan: what it leaves. -/
import Derived.Test.YtbghmemejbbhfaaGreatGB3
set_option linter.unusedVariables false
set_option linter.unusedSimpArgs false
/- markPlan: what it leaves. -/
namespace Go.Proofs.YtbghmemejbbhfaaGreat
open Go Go.Am
variable {pr : Prims} (hp : Okp pr)
set_option maxRecDepth 100000
theorem markPlanS_f' (hp : Okp pr) : ∀ (N : Nat) (ps : List Plan) (D : AVal) (F : List Nat) (h : Heap) (k : Int), SizeOf.sizeOf ps ≤ N → OwnK h ps D F → F.Nodup → 0 ≤ k → k + (cms ps : Int) ≤ 1152921504606846976 →
    ∃ ps' h', callM (cfp pr) (call (cfp pr)) 38 [D, i64 k] h = some (.ret (i64 (k + (cms ps : Int))) h') ∧ Fr h h' F ∧ OwnK h' ps' D F ∧ MkS ps' k (k + (cms ps : Int)) ∧ ps'.length = ps.length := by
  intro N
  induction N with
  | zero => intro ps D F h k hs; cases ps <;> simp at hs
  | succ N ih =>
    intro ps D F h k hs ho hnd h0 hb
    have hge := cms_ge ps
    rw [callF rfl]
    suffices hw : wpFq (cfp pr) 38 [D, i64 k] h (fun r => ∃ ps' h', r = .ret (i64 (k + (cms ps : Int))) h' ∧ Fr h h' F ∧ OwnK h' ps' D F ∧ MkS ps' k (k + (cms ps : Int)) ∧ ps'.length = ps.length) by
      obtain ⟨r, hr, ps', h', rfl, h1, h2, h3, h4⟩ := wpFq_sound (hp.out _ rfl) hw
      exact ⟨ps', h', hr, h1, h2, h3, h4⟩
    rcases ho with ⟨rfl, rfl, rfl⟩ | ⟨id, vs, Fs, rfl, hrow, hps, rfl⟩
    · conv => whnf
      refine loop_unroll ?_
      conv => whnf
      exact ⟨_, rfl, [], h, by simp [cms]; rfl, Fr.refl _ _, .inl ⟨rfl, rfl, rfl⟩, by simp [MkS, cms], rfl⟩
    · refine loop_ruley true (fun m st => ∃ (j : Nat) (qs : List Plan) (v1 v2 : List AVal) (F1 F2 : List Nat), j + m = ps.length ∧ st.tm 0 = .own id 0 ps.length ∧ st.tm 1 = i64 (k + (cms (ps.take j) : Int)) ∧ st.tm 5 = i64 (j : Nat) ∧
        Sepa st.hp [.row id (.arr 19 (v1 ++ v2)), .plans qs v1 F1, .plans (ps.drop j) v2 F2] ∧ Fr h st.hp (id :: Fs) ∧ qs.length = j ∧ MkS qs k (k + (cms (ps.take j) : Int)) ∧ Fs = F1 ++ F2) (fun m st hI => ?_) ps.length _ ⟨0, [], [], vs, [], Fs, by simp, rfl, by simp [cms]; rfl, rfl, ?_, Fr.refl _ _, rfl, by simp [MkS, cms], rfl⟩
      rotate_left
      · have S0 : Sepa h [.kids ps (.own id 0 ps.length) (id :: Fs)] := Sepa.one (c := .kids ps (.own id 0 ps.length) (id :: Fs)) (.inr ⟨id, vs, Fs, rfl, hrow, hps, rfl⟩) hnd
        have S1 := S0.split (c := .row id (.arr 19 vs)) (d := (Chunk.plans [] [] []).two (.plans ps vs Fs)) hrow ⟨by show OwnPs _ _ _ _; simp [OwnPs], hps⟩ (fun i hi => by simpa [Chunk.row, Chunk.two, Chunk.plans, Chunk.kids] using hi) (by simpa [Chunk.row, Chunk.two, Chunk.plans] using hnd)
        have S2 := S1.swap.split (c := .plans [] [] []) (d := .plans ps vs Fs) (by show OwnPs _ _ _ _; simp [OwnPs]) hps (fun i hi => by simpa [Chunk.two, Chunk.plans] using hi) (by simpa [Chunk.plans] using (List.nodup_cons.1 hnd).2)
        have S3 := S2.front 2 rfl
        exact S3
      obtain ⟨j, qs, v1, v2, F1, F2, hj, e0, e1, e5, S, fr, hq1, hq2, hFs⟩ := hI
      obtain ⟨tm, hq⟩ := st
      simp only at e0 e1 e5 S fr
      rw [show tm = upd (upd (upd tm 0 (.own id 0 ps.length)) 1 (i64 (k + (cms (ps.take j) : Int)))) 5 (i64 (j : Nat)) by rw [upd_id e0, upd_id e1, upd_id e5]]
      clear e0 e1 e5
      have hv1 : v1.length = j := by
        have : OwnPs hq qs v1 F1 := S.get 1 rfl
        rw [OwnPs_len this]; exact hq1
      have hpos : 0 ≤ k + (cms (ps.take j) : Int) := by omega
      have hnext : ∀ hjl : j < ps.length, (cms (ps.take (j + 1)) : Int) = (cms (ps.take j) : Int) + (cm ps[j] : Int) ∧ cms (ps.take j) + cm ps[j] ≤ cms ps := fun hjl => by
        have e1 : ps.take (j + 1) = ps.take j ++ [ps[j]] := by rw [List.take_add_one]; simp [hjl]
        have e2 := cms_append (ps.take (j + 1)) (ps.drop (j + 1))
        rw [List.take_append_drop, e1, cms_append] at e2
        rw [e1, cms_append]
        simp only [cms] at e2 ⊢
        omega
      generalize hkd : k + (cms (ps.take j) : Int) = kk at hq2 hpos
      conv => whnf
      refine bsel_intro (fun h1 => ?_) (fun h1 => ?_)
      · have hjl : j < ps.length := by simpa using h1
        obtain ⟨hn1, hn2⟩ := hnext hjl
        have hidx : 0 + ((j : Nat) : Int).toNat = v1.length := by rw [hv1]; simp
        have hsz := List.sizeOf_lt_of_mem (List.getElem_mem hjl)
        rw [List.drop_eq_getElem_cons hjl] at S
        generalize ps[j] = q at S hn1 hn2 hsz
        obtain ⟨kind, n, test, cells, a, b, keys, agg, c, kids⟩ := q
        obtain ⟨C, K, D1, v2', Fc, Fk, Fd, F2', hv2, hF2, T⟩ := ungather S
        subst hv2 hF2
        clear S
        have S := T
        clear T
        have hkb : k12 kk + 4 * (cells.length : Int) + 1 + 1 + (keys.length : Int) + 1 + 1 + (cms kids : Int) = kk + (cm (.mk kind n test cells a b keys agg c kids) : Int) := by
          simp only [cm, k12]; omega
        have hkb2 : kk + (cm (.mk kind n test cells a b keys agg c kids) : Int) ≤ 1152921504606846976 := by omega
        have hk12 : k12 kk = kk + 12 := by simp only [k12]; omega
        have hinF : ∀ i, i ∈ Fc ∨ i ∈ Fk ∨ i ∈ Fd → i ∈ id :: Fs := fun i hi => by
          rw [hFs]
          simp only [List.mem_cons, List.mem_append]
          rcases hi with h | h | h
          · exact .inr (.inr (.inl (.inl h)))
          · exact .inr (.inr (.inl (.inr (.inl h))))
          · exact .inr (.inr (.inl (.inr (.inr h))))
        conv => whnf
        refine ⟨_, S.row 0 rfl, ⟨by omega, by omega⟩, ?_⟩
        conv => whnf
        refine ⟨_, rfl, rfl, rfl, .inr ⟨_, _, _, S.row 0 rfl, rowGet hidx, ?_⟩⟩
        conv => whnf
        intro c1 hh_c1
        replace fr := fr.set hh_c1 (.inl (by simp))
        replace S := S.setRow 0 rfl hidx hh_c1
        dsimp only [List.set] at S
        conv => whnf
        rw [wrap1 (kk) (by omega) (by omega)]
        refine ⟨_, S.row 0 rfl, ⟨by omega, by omega⟩, ?_⟩
        conv => whnf
        refine ⟨_, rfl, rfl, rfl, .inr ⟨_, _, _, S.row 0 rfl, rowGet hidx, ?_⟩⟩
        conv => whnf
        intro c2 hh_c2
        replace fr := fr.set hh_c2 (.inl (by simp))
        replace S := S.setRow 0 rfl hidx hh_c2
        dsimp only [List.set] at S
        conv => whnf
        rw [wrap1 (kk + 1) (by omega) (by omega)]
        refine ⟨_, S.row 0 rfl, ⟨by omega, by omega⟩, ?_⟩
        conv => whnf
        refine ⟨_, rfl, rfl, rfl, .inr ⟨_, _, _, S.row 0 rfl, rowGet hidx, ?_⟩⟩
        conv => whnf
        intro c3 hh_c3
        replace fr := fr.set hh_c3 (.inl (by simp))
        replace S := S.setRow 0 rfl hidx hh_c3
        dsimp only [List.set] at S
        conv => whnf
        rw [wrap1 (kk + 1 + 1) (by omega) (by omega)]
        refine ⟨rfl, by decide, ?_⟩
        conv => whnf
        refine bsel_intro (fun hm => ?_) (fun hm => ?_)
        · conv => whnf
          refine ⟨_, S.row 0 rfl, ⟨by omega, by omega⟩, ?_⟩
          conv => whnf
          refine ⟨_, rfl, rfl, rfl, .inr ⟨_, _, _, S.row 0 rfl, rowGet hidx, ?_⟩⟩
          conv => whnf
          intro c4 hh_c4
          replace fr := fr.set hh_c4 (.inl (by simp))
          replace S := S.setRow 0 rfl hidx hh_c4
          dsimp only [List.set] at S
          conv => whnf
          rw [wrap1 (kk + 1 + 1 + 1) (by omega) (by omega)]
          refine ⟨_, S.row 0 rfl, ⟨by omega, by omega⟩, ?_⟩
          conv => whnf
          refine ⟨_, rfl, rfl, rfl, .inr ⟨_, _, _, S.row 0 rfl, rowGet hidx, ?_⟩⟩
          conv => whnf
          intro c5 hh_c5
          replace fr := fr.set hh_c5 (.inl (by simp))
          replace S := S.setRow 0 rfl hidx hh_c5
          dsimp only [List.set] at S
          conv => whnf
          rw [wrap1 (kk + 1 + 1 + 1 + 1) (by omega) (by omega)]
          refine ⟨_, S.row 0 rfl, ⟨by omega, by omega⟩, ?_⟩
          conv => whnf
          refine ⟨_, rfl, rfl, rfl, .inr ⟨_, _, _, S.row 0 rfl, rowGet hidx, ?_⟩⟩
          conv => whnf
          intro c6 hh_c6
          replace fr := fr.set hh_c6 (.inl (by simp))
          replace S := S.setRow 0 rfl hidx hh_c6
          dsimp only [List.set] at S
          conv => whnf
          rw [wrap1 (kk + 1 + 1 + 1 + 1 + 1) (by omega) (by omega)]
          refine ⟨_, S.row 0 rfl, ⟨by omega, by omega⟩, ?_⟩
          conv => whnf
          refine ⟨_, rfl, rfl, rfl, .inr ⟨_, _, _, S.row 0 rfl, rowGet hidx, ?_⟩⟩
          conv => whnf
          intro c7 hh_c7
          replace fr := fr.set hh_c7 (.inl (by simp))
          replace S := S.setRow 0 rfl hidx hh_c7
          dsimp only [List.set] at S
          conv => whnf
          rw [wrap1 (kk + 1 + 1 + 1 + 1 + 1 + 1) (by omega) (by omega)]
          refine ⟨_, S.row 0 rfl, ⟨by omega, by omega⟩, ?_⟩
          conv => whnf
          refine ⟨_, rfl, rfl, rfl, .inr ⟨_, _, _, S.row 0 rfl, rowGet hidx, ?_⟩⟩
          conv => whnf
          intro c8 hh_c8
          replace fr := fr.set hh_c8 (.inl (by simp))
          replace S := S.setRow 0 rfl hidx hh_c8
          dsimp only [List.set] at S
          conv => whnf
          rw [wrap1 (kk + 1 + 1 + 1 + 1 + 1 + 1 + 1) (by omega) (by omega)]
          refine ⟨_, S.row 0 rfl, ⟨by omega, by omega⟩, ?_⟩
          conv => whnf
          refine ⟨_, rfl, rfl, rfl, .inr ⟨_, _, _, S.row 0 rfl, rowGet hidx, ?_⟩⟩
          conv => whnf
          intro c9 hh_c9
          replace fr := fr.set hh_c9 (.inl (by simp))
          replace S := S.setRow 0 rfl hidx hh_c9
          dsimp only [List.set] at S
          conv => whnf
          rw [wrap1 (kk + 1 + 1 + 1 + 1 + 1 + 1 + 1 + 1) (by omega) (by omega)]
          refine ⟨_, S.row 0 rfl, ⟨by omega, by omega⟩, ?_⟩
          conv => whnf
          refine ⟨_, rfl, rfl, rfl, .inr ⟨_, _, _, S.row 0 rfl, rowGet hidx, ?_⟩⟩
          conv => whnf
          intro c10 hh_c10
          replace fr := fr.set hh_c10 (.inl (by simp))
          replace S := S.setRow 0 rfl hidx hh_c10
          dsimp only [List.set] at S
          conv => whnf
          rw [wrap1 (kk + 1 + 1 + 1 + 1 + 1 + 1 + 1 + 1 + 1) (by omega) (by omega)]
          refine ⟨_, S.row 0 rfl, ⟨by omega, by omega⟩, ?_⟩
          conv => whnf
          refine ⟨_, rfl, rfl, rfl, .inr ⟨_, _, _, S.row 0 rfl, rowGet hidx, ?_⟩⟩
          conv => whnf
          intro c11 hh_c11
          replace fr := fr.set hh_c11 (.inl (by simp))
          replace S := S.setRow 0 rfl hidx hh_c11
          dsimp only [List.set] at S
          conv => whnf
          rw [wrap1 (kk + 1 + 1 + 1 + 1 + 1 + 1 + 1 + 1 + 1 + 1) (by omega) (by omega)]
          refine ⟨_, S.row 0 rfl, ⟨by omega, by omega⟩, ?_⟩
          conv => whnf
          refine ⟨_, rfl, rfl, rfl, .inr ⟨_, _, _, S.row 0 rfl, rowGet hidx, ?_⟩⟩
          conv => whnf
          intro c12 hh_c12
          replace fr := fr.set hh_c12 (.inl (by simp))
          replace S := S.setRow 0 rfl hidx hh_c12
          dsimp only [List.set] at S
          conv => whnf
          rw [wrap1 (kk + 1 + 1 + 1 + 1 + 1 + 1 + 1 + 1 + 1 + 1 + 1) (by omega) (by omega)]
          conv => whnf
          refine ⟨_, S.row 0 rfl, ⟨by omega, by omega⟩, ?_⟩
          conv => whnf
          refine .inr ⟨_, _, _, S.row 0 rfl, rowGet hidx, ?_⟩
          refine LoadR_intro (v := C) rfl ?_
          refine forceV_intro ?_
          conv => whnf
          obtain ⟨d1, hc1, f1, o1⟩ := markCellS_f hp cells C Fc c12 (k12 kk) (S.get 2 rfl) (by omega) (by omega)
          refine ⟨_, hc1, ?_⟩
          replace fr := fr.turn f1 fun i hi => .inl (hinF i (.inl hi))
          replace S := S.fr 2 (c' := .list Cell.enc 4 (mkCells (k12 kk) cells.length) C Fc) rfl f1 o1 rfl
          dsimp only [List.set] at S
          conv => whnf
          generalize hk2 : k12 kk + 4 * (cells.length : Int) = k2
          refine ⟨_, S.row 0 rfl, ⟨by omega, by omega⟩, ?_⟩
          conv => whnf
          refine ⟨_, rfl, rfl, rfl, .inr ⟨_, _, _, S.row 0 rfl, rowGet hidx, ?_⟩⟩
          conv => whnf
          intro c13 hh_c13
          replace fr := fr.set hh_c13 (.inl (by simp))
          replace S := S.setRow 0 rfl hidx hh_c13
          dsimp only [List.set] at S
          conv => whnf
          rw [wrap1 (k2) (by omega) (by omega)]
          refine ⟨_, S.row 0 rfl, ⟨by omega, by omega⟩, ?_⟩
          conv => whnf
          refine ⟨_, rfl, rfl, rfl, .inr ⟨_, _, _, S.row 0 rfl, rowGet hidx, ?_⟩⟩
          conv => whnf
          intro c14 hh_c14
          replace fr := fr.set hh_c14 (.inl (by simp))
          replace S := S.setRow 0 rfl hidx hh_c14
          dsimp only [List.set] at S
          conv => whnf
          rw [wrap1 (k2 + 1) (by omega) (by omega)]
          conv => whnf
          refine ⟨_, S.row 0 rfl, ⟨by omega, by omega⟩, ?_⟩
          conv => whnf
          refine .inr ⟨_, _, _, S.row 0 rfl, rowGet hidx, ?_⟩
          refine LoadR_intro (v := K) rfl ?_
          refine forceV_intro ?_
          conv => whnf
          obtain ⟨d2, hc2, f2, o2⟩ := markIntS_f hp keys K Fk c14 (k2 + 1 + 1) (S.get 3 rfl) (by omega) (by omega)
          refine ⟨_, hc2, ?_⟩
          replace fr := fr.turn f2 fun i hi => .inl (hinF i (.inr (.inl hi)))
          replace S := S.fr 3 (c' := .list i64 1 (mkInts (k2 + 1 + 1) keys.length) K Fk) rfl f2 o2 rfl
          dsimp only [List.set] at S
          conv => whnf
          generalize hk3 : k2 + 1 + 1 + (keys.length : Int) = k3
          refine ⟨_, S.row 0 rfl, ⟨by omega, by omega⟩, ?_⟩
          conv => whnf
          refine ⟨_, rfl, rfl, rfl, .inr ⟨_, _, _, S.row 0 rfl, rowGet hidx, ?_⟩⟩
          conv => whnf
          intro c15 hh_c15
          replace fr := fr.set hh_c15 (.inl (by simp))
          replace S := S.setRow 0 rfl hidx hh_c15
          dsimp only [List.set] at S
          conv => whnf
          rw [wrap1 (k3) (by omega) (by omega)]
          refine ⟨_, S.row 0 rfl, ⟨by omega, by omega⟩, ?_⟩
          conv => whnf
          refine ⟨_, rfl, rfl, rfl, .inr ⟨_, _, _, S.row 0 rfl, rowGet hidx, ?_⟩⟩
          conv => whnf
          intro c16 hh_c16
          replace fr := fr.set hh_c16 (.inl (by simp))
          replace S := S.setRow 0 rfl hidx hh_c16
          dsimp only [List.set] at S
          conv => whnf
          rw [wrap1 (k3 + 1) (by omega) (by omega)]
          conv => whnf
          refine ⟨_, S.row 0 rfl, ⟨by omega, by omega⟩, ?_⟩
          conv => whnf
          refine .inr ⟨_, _, _, S.row 0 rfl, rowGet hidx, ?_⟩
          refine LoadR_intro (v := D1) rfl ?_
          refine forceV_intro ?_
          conv => whnf
          obtain ⟨kids', d3, hc3, f3, o3, m3, l3⟩ := ih kids D1 Fd c16 (k3 + 1 + 1) (by simp at hsz hs; omega) (S.get 4 rfl) (S.get' 4 _ rfl).2 (by omega) (by omega)
          refine ⟨_, hc3, ?_⟩
          replace fr := fr.turn f3 fun i hi => .inl (hinF i (.inr (.inr hi)))
          replace S := S.fr 4 (c' := .kids kids' D1 Fd) rfl f3 o3 rfl
          dsimp only [List.set] at S
          conv => whnf
          have T := gather (kind := kk) (n := kk + 1) (test := ⟨kk + 1 + 1, true, ⟨kk + 1 + 1 + 1 + 1, kk + 1 + 1 + 1 + 1 + 1, kk + 1 + 1 + 1 + 1 + 1 + 1, kk + 1 + 1 + 1 + 1 + 1 + 1 + 1⟩, ⟨kk + 1 + 1 + 1 + 1 + 1 + 1 + 1 + 1, kk + 1 + 1 + 1 + 1 + 1 + 1 + 1 + 1 + 1, kk + 1 + 1 + 1 + 1 + 1 + 1 + 1 + 1 + 1 + 1, kk + 1 + 1 + 1 + 1 + 1 + 1 + 1 + 1 + 1 + 1 + 1⟩⟩) (a := k2) (b := k2 + 1) (agg := k3) (col := k3 + 1) S
          have hend : k + (cms (ps.take (j + 1)) : Int) = k3 + 1 + 1 + (cms kids : Int) := by omega
          refine ⟨m - 1, by omega, j + 1, qs ++ [.mk kk (kk + 1) ⟨kk + 1 + 1, true, ⟨kk + 1 + 1 + 1 + 1, kk + 1 + 1 + 1 + 1 + 1, kk + 1 + 1 + 1 + 1 + 1 + 1, kk + 1 + 1 + 1 + 1 + 1 + 1 + 1⟩, ⟨kk + 1 + 1 + 1 + 1 + 1 + 1 + 1 + 1, kk + 1 + 1 + 1 + 1 + 1 + 1 + 1 + 1 + 1, kk + 1 + 1 + 1 + 1 + 1 + 1 + 1 + 1 + 1 + 1, kk + 1 + 1 + 1 + 1 + 1 + 1 + 1 + 1 + 1 + 1 + 1⟩⟩ (mkCells (k12 kk) cells.length) k2 (k2 + 1) (mkInts (k2 + 1 + 1) keys.length) k3 (k3 + 1) kids'], v1 ++ [pval kk (kk + 1) ⟨kk + 1 + 1, true, ⟨kk + 1 + 1 + 1 + 1, kk + 1 + 1 + 1 + 1 + 1, kk + 1 + 1 + 1 + 1 + 1 + 1, kk + 1 + 1 + 1 + 1 + 1 + 1 + 1⟩, ⟨kk + 1 + 1 + 1 + 1 + 1 + 1 + 1 + 1, kk + 1 + 1 + 1 + 1 + 1 + 1 + 1 + 1 + 1, kk + 1 + 1 + 1 + 1 + 1 + 1 + 1 + 1 + 1 + 1, kk + 1 + 1 + 1 + 1 + 1 + 1 + 1 + 1 + 1 + 1 + 1⟩⟩ C k2 (k2 + 1) K k3 (k3 + 1) D1], v2', F1 ++ (Fc ++ (Fk ++ Fd)), F2', by omega, rfl, by rw [hend]; rfl, nat_step j (by omega), ?_, fr, ?_, ?_, ?_⟩
          · rw [List.append_assoc]
            exact T
          · simp [hq1]
          · rw [hend]
            refine MkS_append hq2 ?_
            simp only [MkOne]
            refine ⟨trivial, trivial, ?_, by rw [mkCells_len], by rw [mkCells_len]; exact hk2.symm, by rw [mkCells_len, hk2], by rw [mkInts_len, mkCells_len, hk2], ?_, ?_, ?_⟩
            · simp only [mkTest]; rw [hm]
            · rw [mkInts_len, mkCells_len, hk2, hk3]
            · rw [mkInts_len, mkCells_len, hk2, hk3]
            · rw [mkInts_len, mkCells_len, hk2, hk3]; exact m3
          · rw [hFs]; simp
        · conv => whnf
          refine ⟨_, S.row 0 rfl, ⟨by omega, by omega⟩, ?_⟩
          conv => whnf
          refine ⟨_, rfl, rfl, rfl, .inr ⟨_, _, _, S.row 0 rfl, rowGet hidx, ?_⟩⟩
          conv => whnf
          intro c4 hh_c4
          replace fr := fr.set hh_c4 (.inl (by simp))
          replace S := S.setRow 0 rfl hidx hh_c4
          dsimp only [List.set] at S
          conv => whnf
          rw [wrap1 (kk + 1 + 1 + 1) (by omega) (by omega)]
          refine ⟨_, S.row 0 rfl, ⟨by omega, by omega⟩, ?_⟩
          conv => whnf
          refine ⟨_, rfl, rfl, rfl, .inr ⟨_, _, _, S.row 0 rfl, rowGet hidx, ?_⟩⟩
          conv => whnf
          intro c5 hh_c5
          replace fr := fr.set hh_c5 (.inl (by simp))
          replace S := S.setRow 0 rfl hidx hh_c5
          dsimp only [List.set] at S
          conv => whnf
          rw [wrap1 (kk + 1 + 1 + 1 + 1) (by omega) (by omega)]
          refine ⟨_, S.row 0 rfl, ⟨by omega, by omega⟩, ?_⟩
          conv => whnf
          refine ⟨_, rfl, rfl, rfl, .inr ⟨_, _, _, S.row 0 rfl, rowGet hidx, ?_⟩⟩
          conv => whnf
          intro c6 hh_c6
          replace fr := fr.set hh_c6 (.inl (by simp))
          replace S := S.setRow 0 rfl hidx hh_c6
          dsimp only [List.set] at S
          conv => whnf
          rw [wrap1 (kk + 1 + 1 + 1 + 1 + 1) (by omega) (by omega)]
          refine ⟨_, S.row 0 rfl, ⟨by omega, by omega⟩, ?_⟩
          conv => whnf
          refine ⟨_, rfl, rfl, rfl, .inr ⟨_, _, _, S.row 0 rfl, rowGet hidx, ?_⟩⟩
          conv => whnf
          intro c7 hh_c7
          replace fr := fr.set hh_c7 (.inl (by simp))
          replace S := S.setRow 0 rfl hidx hh_c7
          dsimp only [List.set] at S
          conv => whnf
          rw [wrap1 (kk + 1 + 1 + 1 + 1 + 1 + 1) (by omega) (by omega)]
          refine ⟨_, S.row 0 rfl, ⟨by omega, by omega⟩, ?_⟩
          conv => whnf
          refine ⟨_, rfl, rfl, rfl, .inr ⟨_, _, _, S.row 0 rfl, rowGet hidx, ?_⟩⟩
          conv => whnf
          intro c8 hh_c8
          replace fr := fr.set hh_c8 (.inl (by simp))
          replace S := S.setRow 0 rfl hidx hh_c8
          dsimp only [List.set] at S
          conv => whnf
          rw [wrap1 (kk + 1 + 1 + 1 + 1 + 1 + 1 + 1) (by omega) (by omega)]
          refine ⟨_, S.row 0 rfl, ⟨by omega, by omega⟩, ?_⟩
          conv => whnf
          refine ⟨_, rfl, rfl, rfl, .inr ⟨_, _, _, S.row 0 rfl, rowGet hidx, ?_⟩⟩
          conv => whnf
          intro c9 hh_c9
          replace fr := fr.set hh_c9 (.inl (by simp))
          replace S := S.setRow 0 rfl hidx hh_c9
          dsimp only [List.set] at S
          conv => whnf
          rw [wrap1 (kk + 1 + 1 + 1 + 1 + 1 + 1 + 1 + 1) (by omega) (by omega)]
          refine ⟨_, S.row 0 rfl, ⟨by omega, by omega⟩, ?_⟩
          conv => whnf
          refine ⟨_, rfl, rfl, rfl, .inr ⟨_, _, _, S.row 0 rfl, rowGet hidx, ?_⟩⟩
          conv => whnf
          intro c10 hh_c10
          replace fr := fr.set hh_c10 (.inl (by simp))
          replace S := S.setRow 0 rfl hidx hh_c10
          dsimp only [List.set] at S
          conv => whnf
          rw [wrap1 (kk + 1 + 1 + 1 + 1 + 1 + 1 + 1 + 1 + 1) (by omega) (by omega)]
          refine ⟨_, S.row 0 rfl, ⟨by omega, by omega⟩, ?_⟩
          conv => whnf
          refine ⟨_, rfl, rfl, rfl, .inr ⟨_, _, _, S.row 0 rfl, rowGet hidx, ?_⟩⟩
          conv => whnf
          intro c11 hh_c11
          replace fr := fr.set hh_c11 (.inl (by simp))
          replace S := S.setRow 0 rfl hidx hh_c11
          dsimp only [List.set] at S
          conv => whnf
          rw [wrap1 (kk + 1 + 1 + 1 + 1 + 1 + 1 + 1 + 1 + 1 + 1) (by omega) (by omega)]
          refine ⟨_, S.row 0 rfl, ⟨by omega, by omega⟩, ?_⟩
          conv => whnf
          refine ⟨_, rfl, rfl, rfl, .inr ⟨_, _, _, S.row 0 rfl, rowGet hidx, ?_⟩⟩
          conv => whnf
          intro c12 hh_c12
          replace fr := fr.set hh_c12 (.inl (by simp))
          replace S := S.setRow 0 rfl hidx hh_c12
          dsimp only [List.set] at S
          conv => whnf
          rw [wrap1 (kk + 1 + 1 + 1 + 1 + 1 + 1 + 1 + 1 + 1 + 1 + 1) (by omega) (by omega)]
          conv => whnf
          refine ⟨_, S.row 0 rfl, ⟨by omega, by omega⟩, ?_⟩
          conv => whnf
          refine .inr ⟨_, _, _, S.row 0 rfl, rowGet hidx, ?_⟩
          refine LoadR_intro (v := C) rfl ?_
          refine forceV_intro ?_
          conv => whnf
          obtain ⟨d1, hc1, f1, o1⟩ := markCellS_f hp cells C Fc c12 (k12 kk) (S.get 2 rfl) (by omega) (by omega)
          refine ⟨_, hc1, ?_⟩
          replace fr := fr.turn f1 fun i hi => .inl (hinF i (.inl hi))
          replace S := S.fr 2 (c' := .list Cell.enc 4 (mkCells (k12 kk) cells.length) C Fc) rfl f1 o1 rfl
          dsimp only [List.set] at S
          conv => whnf
          generalize hk2 : k12 kk + 4 * (cells.length : Int) = k2
          refine ⟨_, S.row 0 rfl, ⟨by omega, by omega⟩, ?_⟩
          conv => whnf
          refine ⟨_, rfl, rfl, rfl, .inr ⟨_, _, _, S.row 0 rfl, rowGet hidx, ?_⟩⟩
          conv => whnf
          intro c13 hh_c13
          replace fr := fr.set hh_c13 (.inl (by simp))
          replace S := S.setRow 0 rfl hidx hh_c13
          dsimp only [List.set] at S
          conv => whnf
          rw [wrap1 (k2) (by omega) (by omega)]
          refine ⟨_, S.row 0 rfl, ⟨by omega, by omega⟩, ?_⟩
          conv => whnf
          refine ⟨_, rfl, rfl, rfl, .inr ⟨_, _, _, S.row 0 rfl, rowGet hidx, ?_⟩⟩
          conv => whnf
          intro c14 hh_c14
          replace fr := fr.set hh_c14 (.inl (by simp))
          replace S := S.setRow 0 rfl hidx hh_c14
          dsimp only [List.set] at S
          conv => whnf
          rw [wrap1 (k2 + 1) (by omega) (by omega)]
          conv => whnf
          refine ⟨_, S.row 0 rfl, ⟨by omega, by omega⟩, ?_⟩
          conv => whnf
          refine .inr ⟨_, _, _, S.row 0 rfl, rowGet hidx, ?_⟩
          refine LoadR_intro (v := K) rfl ?_
          refine forceV_intro ?_
          conv => whnf
          obtain ⟨d2, hc2, f2, o2⟩ := markIntS_f hp keys K Fk c14 (k2 + 1 + 1) (S.get 3 rfl) (by omega) (by omega)
          refine ⟨_, hc2, ?_⟩
          replace fr := fr.turn f2 fun i hi => .inl (hinF i (.inr (.inl hi)))
          replace S := S.fr 3 (c' := .list i64 1 (mkInts (k2 + 1 + 1) keys.length) K Fk) rfl f2 o2 rfl
          dsimp only [List.set] at S
          conv => whnf
          generalize hk3 : k2 + 1 + 1 + (keys.length : Int) = k3
          refine ⟨_, S.row 0 rfl, ⟨by omega, by omega⟩, ?_⟩
          conv => whnf
          refine ⟨_, rfl, rfl, rfl, .inr ⟨_, _, _, S.row 0 rfl, rowGet hidx, ?_⟩⟩
          conv => whnf
          intro c15 hh_c15
          replace fr := fr.set hh_c15 (.inl (by simp))
          replace S := S.setRow 0 rfl hidx hh_c15
          dsimp only [List.set] at S
          conv => whnf
          rw [wrap1 (k3) (by omega) (by omega)]
          refine ⟨_, S.row 0 rfl, ⟨by omega, by omega⟩, ?_⟩
          conv => whnf
          refine ⟨_, rfl, rfl, rfl, .inr ⟨_, _, _, S.row 0 rfl, rowGet hidx, ?_⟩⟩
          conv => whnf
          intro c16 hh_c16
          replace fr := fr.set hh_c16 (.inl (by simp))
          replace S := S.setRow 0 rfl hidx hh_c16
          dsimp only [List.set] at S
          conv => whnf
          rw [wrap1 (k3 + 1) (by omega) (by omega)]
          conv => whnf
          refine ⟨_, S.row 0 rfl, ⟨by omega, by omega⟩, ?_⟩
          conv => whnf
          refine .inr ⟨_, _, _, S.row 0 rfl, rowGet hidx, ?_⟩
          refine LoadR_intro (v := D1) rfl ?_
          refine forceV_intro ?_
          conv => whnf
          obtain ⟨kids', d3, hc3, f3, o3, m3, l3⟩ := ih kids D1 Fd c16 (k3 + 1 + 1) (by simp at hsz hs; omega) (S.get 4 rfl) (S.get' 4 _ rfl).2 (by omega) (by omega)
          refine ⟨_, hc3, ?_⟩
          replace fr := fr.turn f3 fun i hi => .inl (hinF i (.inr (.inr hi)))
          replace S := S.fr 4 (c' := .kids kids' D1 Fd) rfl f3 o3 rfl
          dsimp only [List.set] at S
          conv => whnf
          have T := gather (kind := kk) (n := kk + 1) (test := ⟨kk + 1 + 1, false, ⟨kk + 1 + 1 + 1 + 1, kk + 1 + 1 + 1 + 1 + 1, kk + 1 + 1 + 1 + 1 + 1 + 1, kk + 1 + 1 + 1 + 1 + 1 + 1 + 1⟩, ⟨kk + 1 + 1 + 1 + 1 + 1 + 1 + 1 + 1, kk + 1 + 1 + 1 + 1 + 1 + 1 + 1 + 1 + 1, kk + 1 + 1 + 1 + 1 + 1 + 1 + 1 + 1 + 1 + 1, kk + 1 + 1 + 1 + 1 + 1 + 1 + 1 + 1 + 1 + 1 + 1⟩⟩) (a := k2) (b := k2 + 1) (agg := k3) (col := k3 + 1) S
          have hend : k + (cms (ps.take (j + 1)) : Int) = k3 + 1 + 1 + (cms kids : Int) := by omega
          refine ⟨m - 1, by omega, j + 1, qs ++ [.mk kk (kk + 1) ⟨kk + 1 + 1, false, ⟨kk + 1 + 1 + 1 + 1, kk + 1 + 1 + 1 + 1 + 1, kk + 1 + 1 + 1 + 1 + 1 + 1, kk + 1 + 1 + 1 + 1 + 1 + 1 + 1⟩, ⟨kk + 1 + 1 + 1 + 1 + 1 + 1 + 1 + 1, kk + 1 + 1 + 1 + 1 + 1 + 1 + 1 + 1 + 1, kk + 1 + 1 + 1 + 1 + 1 + 1 + 1 + 1 + 1 + 1, kk + 1 + 1 + 1 + 1 + 1 + 1 + 1 + 1 + 1 + 1 + 1⟩⟩ (mkCells (k12 kk) cells.length) k2 (k2 + 1) (mkInts (k2 + 1 + 1) keys.length) k3 (k3 + 1) kids'], v1 ++ [pval kk (kk + 1) ⟨kk + 1 + 1, false, ⟨kk + 1 + 1 + 1 + 1, kk + 1 + 1 + 1 + 1 + 1, kk + 1 + 1 + 1 + 1 + 1 + 1, kk + 1 + 1 + 1 + 1 + 1 + 1 + 1⟩, ⟨kk + 1 + 1 + 1 + 1 + 1 + 1 + 1 + 1, kk + 1 + 1 + 1 + 1 + 1 + 1 + 1 + 1 + 1, kk + 1 + 1 + 1 + 1 + 1 + 1 + 1 + 1 + 1 + 1, kk + 1 + 1 + 1 + 1 + 1 + 1 + 1 + 1 + 1 + 1 + 1⟩⟩ C k2 (k2 + 1) K k3 (k3 + 1) D1], v2', F1 ++ (Fc ++ (Fk ++ Fd)), F2', by omega, rfl, by rw [hend]; rfl, nat_step j (by omega), ?_, fr, ?_, ?_, ?_⟩
          · rw [List.append_assoc]
            exact T
          · simp [hq1]
          · rw [hend]
            refine MkS_append hq2 ?_
            simp only [MkOne]
            refine ⟨trivial, trivial, ?_, by rw [mkCells_len], by rw [mkCells_len]; exact hk2.symm, by rw [mkCells_len, hk2], by rw [mkInts_len, mkCells_len, hk2], ?_, ?_, ?_⟩
            · simp only [mkTest]; rw [hm]
            · rw [mkInts_len, mkCells_len, hk2, hk3]
            · rw [mkInts_len, mkCells_len, hk2, hk3]
            · rw [mkInts_len, mkCells_len, hk2, hk3]; exact m3
          · rw [hFs]; simp
      · have hje : j = ps.length := by
          have : ¬ j < ps.length := by simpa using h1
          omega
        subst hje
        rw [List.take_length] at hkd
        conv => whnf
        have hps' : OwnPs hq qs v1 F1 := S.get 1 rfl
        have hr := S.row 0 rfl
        have h2' : OwnPs hq (ps.drop ps.length) v2 F2 := S.get 2 rfl
        rw [List.drop_length] at h2'
        simp only [OwnPs] at h2'
        obtain ⟨rfl, rfl⟩ := h2'
        rw [List.append_nil] at hr hFs
        exact ⟨_, rfl, qs, hq, by rw [hkd]; rfl, fr, .inr ⟨id, v1, F1, by rw [hq1], hr, hps', by rw [hFs]⟩, by rw [hkd]; exact hq2, hq1⟩
end Go.Proofs.YtbghmemejbbhfaaGreat

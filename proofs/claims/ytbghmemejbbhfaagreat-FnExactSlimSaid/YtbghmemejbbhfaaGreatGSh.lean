/- The reference's l10Slim: it turns what it is handed. -/
import Derived.Test.YtbghmemejbbhfaaGreatGD2
import Derived.Test.YtbghmemejbbhfaaGreatGD3
import Derived.Test.YtbghmemejbbhfaaGreatGB5
set_option linter.unusedVariables false
set_option linter.unusedSimpArgs false
/- The reference's l10Slim: it turns what it is handed. -/
namespace Go.Am
open Go
theorem mapO_imp {f g : AVal → Option AVal} (h : ∀ x a, f x = some a → g x = some a) : ∀ (l r : List AVal), mapO f l = some r → mapO g l = some r
  | [], r, e => e
  | x :: xs, r, e => by
    simp only [mapO] at e ⊢
    cases hx : f x with
    | none => simp [hx] at e
    | some a =>
      cases hxs : mapO f xs with
      | none => simp [hx, hxs] at e
      | some as2 =>
        simp only [hx, hxs] at e
        simp only [h x a hx, mapO_imp h xs as2 hxs]
        exact e
/-- What is closed is closed in any heap. -/
theorem snapF_any (h : Heap) : ∀ (n : Nat) (v a : AVal), snapF [] n v = some a → snapF h n v = some a := by
  intro n
  induction n with
  | zero => intro v a e; cases e
  | succ n ih =>
    intro v a e
    have hm := mapO_imp ih
    cases v
    case own id st len => simp [snapF] at e
    case ptr id i off => simp [snapF] at e
    case map id => simp [snapF] at e
    case agg cs =>
      simp only [snapF, Option.map_eq_some_iff] at e ⊢
      obtain ⟨r, h1, h2⟩ := e
      exact ⟨r, hm _ _ h1, h2⟩
    case tup cs =>
      simp only [snapF, Option.map_eq_some_iff] at e ⊢
      obtain ⟨r, h1, h2⟩ := e
      exact ⟨r, hm _ _ h1, h2⟩
    case func fn x y =>
      simp only [snapF] at e ⊢
      cases h1 : mapO (snapF [] n) x with
      | none => simp [h1] at e
      | some x' =>
        cases h2 : mapO (snapF [] n) y with
        | none => simp [h1, h2] at e
        | some y' =>
          simp only [h1, h2] at e
          simp only [hm _ _ h1, hm _ _ h2]
          exact e
    case iface t v =>
      simp only [snapF, Option.map_eq_some_iff] at e ⊢
      obtain ⟨r, h1, h2⟩ := e
      exact ⟨r, ih _ _ h1, h2⟩
    all_goals exact e
theorem snapL_any (h : Heap) {l r : List AVal} (e : snapL [] l = some r) : snapL h l = some r := mapO_imp (snapF_any h 4194304) l r e
end Go.Am
namespace Go.Proofs.YtbghmemejbbhfaaGreat
open Go Go.Am
/-- Arguments that lie in the caller's heap, or don't; the result is a plain one. -/
theorem Ret.here {pr : Prims} {f : FuncId} {args args' : List AVal} {res : AVal} {h : Heap} (hr : Ret pr f args' res) (hs : snapL h args = Option.some args') (hi : snapL [] args' = Option.some args') (hres : res.isScalar = true) (hM : modes f = Am.Mode.P := by rfl) :
    callM (cfp pr) (call (cfp pr)) f args h = Option.some (.ret res h) := by
  cases hn : snapL [] args with
  | none => exact hr.frozen hn hs hi hres hM
  | some as2 =>
    have := snapL_any h hn
    rw [hs] at this
    cases this
    exact hr.snapped hn hi hM h
variable {pr : Prims} (hp : Okp pr)
set_option maxRecDepth 100000
theorem unplans {h : Heap} {R P1 : Chunk} {B : List Chunk} {q : Plan} {rest : List Plan} {v2 : List AVal} {F2 : List Nat} (S : Sepa h (R :: P1 :: .plans (q :: rest) v2 F2 :: B)) :
    ∃ vq v2' Fq F2', v2 = vq :: v2' ∧ F2 = Fq ++ F2' ∧ Sepa h (.plan q vq Fq :: R :: P1 :: .plans rest v2' F2' :: B) := by
  have h1 : OwnPs h _ v2 F2 := S.get 2 rfl
  simp only [OwnPs] at h1
  obtain ⟨vq, v2', Fq, F2', rfl, rfl, h2, h3⟩ := h1
  have hn : (Fq ++ F2').Nodup := (S.get' 2 _ rfl).2
  refine ⟨vq, v2', Fq, F2', rfl, rfl, ?_⟩
  have T0 := S.front 2 rfl
  dsimp only [List.eraseIdx] at T0
  have T1 := T0.split (c := .plans rest v2' F2') (d := .plan q vq Fq) h3 h2 (fun id hid => List.mem_append.2 hid.symm) (by rw [List.nodup_append] at hn ⊢; exact ⟨hn.2.1, hn.1, fun a ha b hb e => hn.2.2 b hb a ha e.symm⟩)
  have T2 := T1.front 3 rfl
  dsimp only [List.eraseIdx] at T2
  have T3 := T2.front 3 rfl
  dsimp only [List.eraseIdx] at T3
  have T4 := T3.front 3 rfl
  exact T4
theorem replans {h : Heap} {R : Chunk} {B : List Chunk} {q : Plan} {qs : List Plan} {v1 : List AVal} {vq : AVal} {F1 Fq : List Nat} (S : Sepa h (.plan q vq Fq :: R :: .plans qs v1 F1 :: B)) :
    Sepa h (R :: .plans (qs ++ [q]) (v1 ++ [vq]) (F1 ++ Fq) :: B) := by
  have T0 := (S.front 2 rfl).swap
  dsimp only [List.eraseIdx] at T0
  have T1 := T0.merge (e := .plans (qs ++ [q]) (v1 ++ [vq]) (F1 ++ Fq)) (OwnPs_append (T0.get 1 rfl) (by simp only [OwnPs]; exact ⟨_, [], _, [], rfl, by simp, T0.get 0 rfl, rfl, rfl⟩)) (fun id hid => (List.mem_append.1 hid).symm) T0.nodup2
  exact T1.swap
theorem unkids2 {h : Heap} {B : List Chunk} {x y : Plan} {D : AVal} {F : List Nat} (S : Sepa h (.kids [x, y] D F :: B)) :
    ∃ id vx vy Fx Fy, D = .own id 0 2 ∧ F = id :: (Fx ++ Fy) ∧ Sepa h (.row id (.arr 19 [vx, vy]) :: .plan x vx Fx :: .plan y vy Fy :: B) := by
  have g3 : OwnK h [x, y] D F := S.get 0 rfl
  rcases g3 with ⟨h1, _, _⟩ | ⟨id, vs, Fs, rfl, hrow, hps, rfl⟩
  · cases h1
  · simp only [OwnPs] at hps
    obtain ⟨vx, vs', Fx, F2, rfl, rfl, hx, vy, vs2, Fy, F3, rfl, rfl, hy, rfl, rfl⟩ := hps
    have hn : (id :: (Fx ++ (Fy ++ []))).Nodup := (S.get' 0 _ rfl).2
    rw [List.append_nil] at hn S
    refine ⟨id, vx, vy, Fx, Fy, rfl, by simp, ?_⟩
    have T1 := S.split (c := .row id (.arr 19 [vx, vy])) (d := (Chunk.plan x vx Fx).two (.plan y vy Fy)) hrow ⟨hx, hy⟩ (fun i hi => by simpa [Chunk.row, Chunk.two, Chunk.plan, Chunk.kids] using hi) (by simpa [Chunk.row, Chunk.two, Chunk.plan] using hn)
    have T2 := T1.swap.split (c := .plan x vx Fx) (d := .plan y vy Fy) hx hy (fun i hi => by simpa [Chunk.two, Chunk.plan] using hi) (by simpa [Chunk.plan] using (List.nodup_cons.1 hn).2)
    have T3 := T2.front 2 rfl
    exact T3
set_option maxHeartbeats 4000000 in
theorem l10Slim_f' (hp : Okp pr) : ∀ (n : Nat) (p : Plan) (d : Nat) (v : AVal) (F : List Nat) (h : Heap), p.cnt ≤ n → p.small → okF d p = true → OwnP h p v F → F.Nodup →
    ∃ v' F' h', callM (cfp pr) (call (cfp pr)) 42 [v] h = some (.ret v' h') ∧ Am.Fr h h' F ∧ OwnP h' (slimF n p) v' F' ∧ F'.Nodup ∧ ∀ id ∈ F', id ∈ F := by
  intro n
  induction n with
  | zero => intro p d v F h hn; rw [cnt_eq] at hn; omega
  | succ n ih =>
    intro p d v F h hn hsm hok ho hnd
    have hok := okF_up (okF_up hok)
    have hcs := cnt_eq p
    obtain ⟨hk, hks⟩ := okF_kids hok
    simp only [slimF]
    obtain ⟨kind, m, test, cells, a, b, keys, agg, c, kids⟩ := p
    simp only [Plan.kind, Plan.kids] at hk hks hcs ⊢
    obtain ⟨hsc, hsk, hskids, hsks⟩ := small_split hsm
    have S : Sepa h [.plan (.mk kind m test cells a b keys agg c kids) v F] := Sepa.one (c := .plan (.mk kind m test cells a b keys agg c kids) v F) ho hnd
    obtain ⟨C, K, D, Fc, Fk, Fd, rfl, rfl, T⟩ := split_plan S
    clear S ho
    have S := T
    clear T
    rw [callF rfl]
    suffices hw : wpFq (cfp pr) 42 [pval kind m test C a b K agg c D] h (fun r => ∃ v' F' h', r = .ret v' h' ∧ Am.Fr h h' (Fc ++ (Fk ++ Fd)) ∧ OwnP h' (slimRule (slimF n) ((Plan.mk kind m test cells a b keys agg c kids).wk (kids.map (slimF n)))) v' F' ∧ F'.Nodup ∧ ∀ id ∈ F', id ∈ Fc ++ (Fk ++ Fd)) by
      obtain ⟨r, hr, v', F', h', rfl, h1, h2, h3, h4⟩ := wpFq_sound (hp.out _ rfl) hw
      exact ⟨v', F', h', hr, h1, h2, h3, h4⟩
    have fr := Am.Fr.refl h (Fc ++ (Fk ++ Fd))
    have g1 : OwnL Cell.enc 4 h cells C Fc := S.get 0 rfl
    have g2 : OwnL i64 1 h keys K Fk := S.get 1 rfl
    have g3 : OwnK h kids D Fd := S.get 2 rfl
    have hC := g1.cell
    have hK := g2.cell
    have hFn : (Fc ++ (Fk ++ Fd)).Nodup := hnd
    clear g1 g2
    rcases g3 with ⟨rfl, rfl, rfl⟩ | ⟨id, vs, Fs, rfl, hrow, hps, rfl⟩
    · conv => whnf
      intro k1 a1 hk1 hh1
      replace S := S.alloc hk1 hh1
      replace fr := fr.alloc hh1
      conv => whnf
      intro k2 a2 hk2 hh2
      replace S := S.alloc hk2 hh2
      replace fr := fr.alloc hh2
      conv => whnf
      refine loop_unrolly ?_
      conv => whnf
      refine .inl ⟨_, S.row 1 rfl, rfl, ?_⟩
      conv => whnf
      refine .inl ⟨_, S.row 1 rfl, rfl, ?_⟩
      conv => whnf
      refine .inl ⟨_, S.row 1 rfl, rfl, ?_⟩
      conv => whnf
      refine ⟨_, rfl, rfl, pval_all hC.2 hK.2 rfl, .inl ⟨_, S.row 0 rfl, rfl, ?_⟩⟩
      conv => whnf
      intro a3 hh3
      have hk2F : k2 ∈ Fc ++ (Fk ++ []) ∨ h.length ≤ k2 := .inr (by have := fr.len; subst hh1; simp at hk2; omega)
      replace fr := fr.set hh3 hk2F
      replace S := S.set 0 rfl hh3
      dsimp only [List.set] at S
      conv => whnf
      refine ⟨_, fin_cell rfl rfl (S.row 0 rfl) rfl, _, _, _, rfl, fr, OwnP.of (S.get 2 rfl) (S.get 3 rfl) (S.get 4 rfl), hFn, fun id hid => hid⟩
    · have hsl : ∀ j, (hj : j < kids.length) → kids[j].cnt ≤ n ∧ kids[j].small ∧ okF (d + 1) kids[j] = true := fun j hj => by
        have hm := List.getElem_mem hj
        have := cnts_mem hm
        exact ⟨by omega, hsks _ hm, hks _ hm⟩
      have S0 := S.front 2 rfl
      dsimp only [List.eraseIdx] at S0
      have S1 := S0.split (c := .row id (.arr 19 vs)) (d := (Chunk.plans [] [] []).two (.plans kids vs Fs)) hrow ⟨by show OwnPs _ _ _ _; simp [OwnPs], hps⟩ (fun i hi => by simpa [Chunk.row, Chunk.two, Chunk.plans, Chunk.kids] using hi) (by have := (S0.get' 0 _ rfl).2; simpa [Chunk.row, Chunk.two, Chunk.plans, Chunk.kids] using this)
      have S2 := S1.swap.split (c := .plans [] [] []) (d := .plans kids vs Fs) (by show OwnPs _ _ _ _; simp [OwnPs]) hps (fun i hi => by simpa [Chunk.two, Chunk.plans] using hi) (by have := (S0.get' 0 _ rfl).2; simpa [Chunk.plans, Chunk.kids] using (List.nodup_cons.1 this).2)
      have S3 := S2.front 2 rfl
      dsimp only [List.eraseIdx] at S3
      clear S S0 S1 S2
      have hfid : id ∈ Fc ++ (Fk ++ id :: Fs) := by simp
      have hfs : ∀ i ∈ Fs, i ∈ Fc ++ (Fk ++ id :: Fs) := fun i hi => by simp [hi]
      conv => whnf
      intro k1 a1 hk1 hh1
      replace S3 := S3.alloc hk1 hh1
      replace fr := fr.alloc hh1
      conv => whnf
      intro k2 a2 hk2 hh2
      have hk2F : k2 ∈ Fc ++ (Fk ++ id :: Fs) ∨ h.length ≤ k2 := .inr (by have := fr.len; omega)
      replace S3 := S3.alloc hk2 hh2
      replace fr := fr.alloc hh2
      replace S3 := S3.pick [2,3,4,0,1,5,6] (by decide)
      simp only [pickL, List.getElem?_cons_zero, List.getElem?_cons_succ] at S3
      refine loop_ruley true (fun m' st => ∃ (j : Nat) (v1 v2 : List AVal) (F1 F2 : List Nat), j + m' = kids.length ∧ st.tm 1 = .ptr k1 0 0 ∧ st.tm 2 = .ptr k2 0 0 ∧ st.tm 3 = i64 (j : Nat) ∧
        Sepa st.hp [.row id (.arr 19 (v1 ++ v2)), .plans ((kids.take j).map (slimF n)) v1 F1, .plans (kids.drop j) v2 F2, .row k2 (.box zPlan), .row k1 (.box (pval kind m test C a b (K) agg c (.own id 0 kids.length))), .list Cell.enc 4 cells C Fc, .list i64 1 keys K Fk] ∧
        Am.Fr h st.hp (Fc ++ (Fk ++ id :: Fs)) ∧ (∀ i ∈ F1 ++ F2, i ∈ Fs)) (fun m' st hI => ?_) kids.length _ ⟨0, [], vs, [], Fs, by simp, rfl, rfl, rfl, S3, fr, by simp⟩
      obtain ⟨j, v1, v2, F1, F2, hj, e1, e2, e3, S, fr2, hFs⟩ := hI
      obtain ⟨tm, hq⟩ := st
      simp only at e1 e2 e3 S fr2
      rw [show tm = upd (upd (upd tm 1 (.ptr k1 0 0)) 2 (.ptr k2 0 0)) 3 (i64 (j : Nat)) by rw [upd_id e1, upd_id e2, upd_id e3]]
      clear e1 e2 e3 S3 fr hh1 hh2
      have hv1 : v1.length = j := by
        have : OwnPs hq ((kids.take j).map (slimF n)) v1 F1 := S.get 1 rfl
        rw [OwnPs_len this]; simp; omega
      conv => whnf
      refine .inl ⟨_, S.row 4 rfl, rfl, ?_⟩
      conv => whnf
      refine bsel_intro (fun h1 => ?_) (fun h1 => ?_)
      · have hjl : j < kids.length := by simpa using h1
        obtain ⟨c1, c2, c3⟩ := hsl j hjl
        have hidx : 0 + ((j : Nat) : Int).toNat = v1.length := by rw [hv1]; simp
        have htk : (kids.take (j + 1)).map (slimF n) = (kids.take j).map (slimF n) ++ [slimF n kids[j]] := by rw [List.take_add_one, List.map_append]; congr 1; simp [hjl]
        rw [List.drop_eq_getElem_cons hjl] at S
        have hih := ih kids[j] (d + 1)
        have hsz := slimF_sz n kids[j]
        generalize slimF n kids[j] = r at htk hih hsz
        generalize kids[j] = q at S c1 c2 c3 hih hsz
        obtain ⟨vq, v2', Fq, F2', rfl, rfl, T⟩ := unplans S
        have hoq : OwnP hq q vq Fq := T.get 0 rfl
        obtain ⟨vr, Fr', hh, hc, f1, o1, n1, i1⟩ := hih vq Fq hq c1 c2 c3 hoq (T.get' 0 _ rfl).2
        clear S hih
        obtain ⟨kind', n', test', cells', a', b', keys', agg', c', kids'⟩ := q
        obtain ⟨kind3, n3, test3, cells3, a3, b3, keys3, agg3, c3', kids3⟩ := r
        rw [OwnP_mk] at hoq
        obtain ⟨C1, K1, D1, Fc1, Fk1, Fd1, rfl, -, -, -, rfl⟩ := hoq
        have o1' := o1
        rw [OwnP_mk] at o1
        obtain ⟨C2, K2, D2, Fc2, Fk2, Fd2, rfl, w1, w2, w3, rfl⟩ := o1
        have T2 := T.turn 0 (c' := .plan (Plan.mk kind3 n3 test3 cells3 a3 b3 keys3 agg3 c3' kids3) (pval kind3 n3 test3 C2 a3 b3 K2 agg3 c3' D2) (Fc2 ++ (Fk2 ++ Fd2))) (h' := hh) rfl f1.out o1' n1 (fun i hi => .inl (i1 i hi))
        dsimp only [List.set] at T2
        have hFq : ∀ i ∈ Fc1 ++ (Fk1 ++ Fd1), i ∈ Fs := fun i hi => hFs i (List.mem_append.2 (.inr (List.mem_append.2 (.inl hi))))
        have fr3 := fr2.turn f1 fun i hi => .inl (hfs i (hFq i hi))
        have hpos1 : id ∈ Fc ++ (Fk ++ id :: Fs) ∨ h.length ≤ id := .inl hfid
        conv => whnf
        refine .inl ⟨_, T.row 5 rfl, rfl, ?_⟩
        conv => whnf
        refine .inl ⟨_, T.row 5 rfl, rfl, ?_⟩
        conv => whnf
        refine ⟨_, T.row 1 rfl, ⟨by omega, by omega⟩, ?_⟩
        conv => whnf
        refine .inr ⟨_, _, _, T.row 1 rfl, rowGet hidx, ?_⟩
        conv => whnf
        refine ⟨_, hc, ?_⟩
        conv => whnf
        refine ⟨?_, ?_⟩
        · conv => whnf
          refine ⟨?_, ?_⟩
          · conv => whnf
            exact reload_box rfl (T2.row 5 rfl) rfl rfl
          · conv => whnf
            trivial
        clear T fr2
        conv => whnf
        refine ⟨_, T2.row 1 rfl, ⟨by omega, by omega⟩, ?_⟩
        conv => whnf
        refine ⟨_, rfl, rfl, pval_all w1.cell.2 w2.cell.2 w3.cell.2, .inr ⟨_, _, _, T2.row 1 rfl, rowGet hidx, ?_⟩⟩
        conv => whnf
        intro h5 hh5
        have T5 := T2.setRow 1 rfl hidx hh5
        have fr5 := fr3.set hh5 hpos1
        dsimp only [List.set] at T5
        conv => whnf
        refine ⟨m' - 1, by omega, j + 1, v1 ++ [pval kind3 n3 test3 C2 a3 b3 K2 agg3 c3' D2], v2', F1 ++ (Fc2 ++ (Fk2 ++ Fd2)), F2', by omega, rfl, rfl, nat_step j (by omega), ?_, fr5, fun i hi => ?_⟩
        · have T6 := replans T5
          rw [htk, show (v1 ++ [pval kind3 n3 test3 C2 a3 b3 K2 agg3 c3' D2]) ++ v2' = v1 ++ pval kind3 n3 test3 C2 a3 b3 K2 agg3 c3' D2 :: v2' by simp]
          exact T6
        · simp only [List.mem_append] at hi hFs hFq i1
          rcases hi with (h | h) | h
          · exact hFs i (.inl h)
          · exact hFq i (i1 i h)
          · exact hFs i (.inr (.inr h))
      · have hje : j = kids.length := by
          have : ¬ j < kids.length := by simpa using h1
          omega
        subst hje
        rw [List.take_length, List.drop_length] at S
        have hv2 : v2 = [] ∧ F2 = [] := by
          have : OwnPs hq [] v2 F2 := S.get 2 rfl
          simpa only [OwnPs] using this
        obtain ⟨rfl, rfl⟩ := hv2
        rw [List.append_nil] at S
        have hks' : ∀ q ∈ kids.map (slimF n), okF (d + 1) q = true := fun q hq => by
          obtain ⟨r, hr, rfl⟩ := List.mem_map.1 hq
          exact okF_slimF n _ r (hks r hr)
        have hok' : okF (d + 2) (Plan.mk kind m test cells a b keys agg c (kids.map (slimF n))) = true := okF_mk (by simpa [Plan.kind, Plan.kids] using hk) hks'
        have hcn : Plan.cnts (kids.map (slimF n)) ≤ n := by
          have := cnts_map (slimF_cnt n) kids
          omega
        have hszs : Plan.szs (kids.map (slimF n)) ≤ Plan.szs kids := szs_map (slimF_sz n) kids
        have hkl : kids.length = (kids.map (slimF n)).length := by simp
        have hsm' : (Plan.mk kind m test cells a b keys agg c (kids.map (slimF n))).small := by
          simp only [Plan.small, Plan.sz, List.length_map] at hsm ⊢
          omega
        simp only [Plan.wk]
        generalize hR : slimRule (slimF n) (Plan.mk kind m test cells a b keys agg c (kids.map (slimF n))) = R
        have hR0 := hR
        rw [slimRule_eq _ _ (d + 1) hok'] at hR
        simp only [hkl] at S ⊢
        generalize kids.map (slimF n) = ks at S hR hR0 hks' hok' hcn hkl hsm' ⊢
        have hnP : (Fc ++ (Fk ++ id :: F1)).Nodup := by
          refine nodup_join (S.get' 5 _ rfl).2 (nodup_join (S.get' 6 _ rfl).2 ?_ fun i hi => ?_) fun i hi hm => ?_
          · exact List.nodup_cons.2 ⟨fun hm => S.apart 0 1 _ _ (by omega) rfl rfl id (by simp [Chunk.row]) hm, (S.get' 1 _ rfl).2⟩
          · intro hm
            rcases List.mem_cons.1 hm with rfl | hm
            · exact S.apart 6 0 _ _ (by omega) rfl rfl _ hi (by simp [Chunk.row])
            · exact S.apart 6 1 _ _ (by omega) rfl rfl _ hi hm
          · rcases List.mem_append.1 hm with hm | hm
            · exact S.apart 5 6 _ _ (by omega) rfl rfl _ hi hm
            · rcases List.mem_cons.1 hm with rfl | hm
              · exact S.apart 5 0 _ _ (by omega) rfl rfl _ hi (by simp [Chunk.row])
              · exact S.apart 5 1 _ _ (by omega) rfl rfl _ hi hm
        have hF1 : ∀ i ∈ F1, i ∈ Fs := fun i hi => hFs i (by simp [hi])
        have hPsub : ∀ i ∈ Fc ++ (Fk ++ id :: F1), i ∈ Fc ++ (Fk ++ id :: Fs) := fun i hi => by
          simp only [List.mem_append, List.mem_cons] at hi ⊢
          rcases hi with h | h | h | h
          · exact .inl h
          · exact .inr (.inl h)
          · exact .inr (.inr (.inl h))
          · exact .inr (.inr (.inr (hF1 i h)))
        clear hFs hv1 hj hsl hks hk hszs hn hcs hok hsks hskids hsm hFn hps hrow hnd
        cases ks with
        | nil =>
          have hRn : R = Plan.mk kind m test cells a b keys agg c [] := hR0.symm
          subst hRn
          conv => whnf
          refine .inl ⟨_, S.row 4 rfl, rfl, ?_⟩
          conv => whnf
          refine .inl ⟨_, S.row 4 rfl, rfl, ?_⟩
          conv => whnf
          refine ⟨_, rfl, rfl, pval_all hC.2 hK.2 rfl, .inl ⟨_, S.row 3 rfl, rfl, ?_⟩⟩
          conv => whnf
          intro h5 hh5
          replace S := S.set 3 rfl hh5
          replace fr2 := fr2.set hh5 hk2F
          dsimp only [List.set] at S
          conv => whnf
          exact ⟨_, fin_cell rfl rfl (S.row 3 rfl) rfl, _, _, _, rfl, fr2, OwnP.of (S.get 5 rfl) (S.get 6 rfl) (.inr ⟨id, v1, F1, rfl, S.row 0 rfl, S.get 1 rfl, rfl⟩), hnP, hPsub⟩
        | cons k rest =>
          have hkk := okF_kids (hks' k (by simp))
          have hk4 : ∀ k4, k4 = hq.length → k4 ∈ Fc ++ (Fk ++ id :: Fs) ∨ h.length ≤ k4 := fun k4 e => .inr (by have := fr2.len; omega)
          replace S := S.pick [0, 2, 1, 3, 4, 5, 6] (by decide)
          simp only [pickL, List.getElem?_cons_zero, List.getElem?_cons_succ] at S
          obtain ⟨vk, v1', Fk0, F1', rfl, rfl, T⟩ := unplans S
          clear S
          have S := T
          clear T
          have hok0 : OwnP hq k vk Fk0 := S.get 0 rfl
          have hk0 : (Plan.mk kind m test cells a b keys agg c (k :: rest)).k0 = k := rfl
          rw [hk0] at hR
          have hoc : okF (d + 1) k = true := hks' k (by simp)
          have honce := l10Once_r hp (d + 1) k hoc
          have hFk0 : ∀ i ∈ Fk0, i ∈ Fc ++ (Fk ++ id :: Fs) := fun i hi => hPsub i (by simp [hi])
          have hksm : k.small := by
            simp only [Plan.small, Plan.sz, Plan.szs] at hsm' ⊢
            omega
          have hkenc : snapL [] [k.enc] = some [k.enc] := by obtain ⟨kind', n', test', cells', a', b', keys', agg', c', kids'⟩ := k; rfl
          have hne : ((((k :: rest).length : Nat) : Int) == 0) = false := by simp; omega
          have hlt0 : (0 : Int) < (((k :: rest).length : Nat) : Int) := by rw [List.length_cons]; omega
          rcases Decidable.em (kind = 6) with rfl | h6
          · have hrest : rest = [] := by
              have := (okF_kids hok').1
              cases rest with
              | nil => rfl
              | cons r l => simp [Plan.kind, Plan.kids, kidsN] at this; omega
            subst hrest
            cases ho : once k <;> rw [ho] at honce hR
            · rcases Decidable.em (k.kind = 5) with h5 | h5
              · obtain ⟨x, y, hxy⟩ := two_of hkk.1 (by rw [h5]; rfl)
                obtain ⟨kind', n', test', cells', a', b', keys', agg', c', kids'⟩ := k
                simp only [Plan.kind, Plan.kids] at h5 hxy
                subst h5 hxy
                obtain ⟨hsc1, hsk1, hskids1, hsks1⟩ := small_split hksm
                have hsx : x.small := hsks1 x (by simp)
                have hsy : y.small := hsks1 y (by simp)
                have hxok : okF d x = true := hkk.2 x (by simp [Plan.kids])
                have hsame := sPlanSame_r hp x y hsx hsy
                have hxyenc : snapL [] [x.enc, y.enc] = some [x.enc, y.enc] := by obtain ⟨xk, xn, xt, xc, xa, xb, xK, xg, xC, xk2⟩ := x; obtain ⟨yk, yn, yt, yc, ya, yb, yK, yg, yC, yk2⟩ := y; rfl
                have hR2 : (bif planEq x y then slimF n ((Plan.mk 6 m test cells a b keys agg c [Plan.mk 5 n' test' cells' a' b' keys' agg' c' [x, y]]).wk [x]) else Plan.mk 6 m test cells a b keys agg c [Plan.mk 5 n' test' cells' a' b' keys' agg' c' [x, y]]) = R := hR
                obtain ⟨rfl, rfl⟩ : v1' = [] ∧ F1' = [] := by
                  have : OwnPs hq [] v1' F1' := S.get 3 rfl
                  simpa only [OwnPs] using this
                obtain ⟨C1, K1, D1, Fc1, Fk1, Fd1, rfl, rfl, T⟩ := split_plan S
                clear S
                have hC1 := (show OwnL _ _ _ _ _ _ from T.get 0 rfl).cell
                have hK1 := (show OwnL _ _ _ _ _ _ from T.get 1 rfl).cell
                have T2 := T.front 2 rfl
                dsimp only [List.eraseIdx] at T2
                obtain ⟨id1, vx, vy, Fx, Fy, rfl, rfl, S⟩ := unkids2 T2
                clear T T2
                have hD1 : (AVal.own id1 0 2).cells = [AVal.own id1 0 2] ∧ (AVal.own id1 0 2).isCell = true := ⟨rfl, rfl⟩
                replace S := S.pick [3,4,0,1,2,5,6,7,8,9,10,11] (by decide)
                simp only [pickL, List.getElem?_cons_zero, List.getElem?_cons_succ] at S
                have hnP2 := hnP
                have hPsub2 := hPsub
                have hox : OwnP hq x vx Fx := S.get 3 rfl
                have hoy : OwnP hq y vy Fy := S.get 4 rfl
                have hcx : 1 + (x.cnt + 0) ≤ n := by
                  have : Plan.cnts [Plan.mk 5 n' test' cells' a' b' keys' agg' c' [x, y]] ≤ n := hcn
                  simp only [Plan.cnts, Plan.cnt] at this
                  omega
                have hsmx : (Plan.mk 6 m test cells a b keys agg c [x]).small := by
                  simp only [Plan.small, Plan.sz, Plan.szs, List.length_cons, List.length_nil] at hsm' ⊢
                  omega
                have hokx : okF (d + 2) (Plan.mk 6 m test cells a b keys agg c [x]) = true := okF_mk rfl fun z hz => by simp [Plan.kids] at hz; subst hz; exact okF_up hxok
                have hndx : (Fc ++ (Fk ++ id :: (Fx ++ []))).Nodup := by
                  rw [List.append_nil]
                  refine nodup_join (S.get' 10 _ rfl).2 (nodup_join (S.get' 11 _ rfl).2 ?_ fun i hi => ?_) fun i hi hm => ?_
                  · exact List.nodup_cons.2 ⟨fun hm => S.apart 5 3 _ _ (by omega) rfl rfl id (by simp [Chunk.row]) hm, (S.get' 3 _ rfl).2⟩
                  · intro hm
                    rcases List.mem_cons.1 hm with rfl | hm
                    · exact S.apart 11 5 _ _ (by omega) rfl rfl _ hi (by simp [Chunk.row])
                    · exact S.apart 11 3 _ _ (by omega) rfl rfl _ hi hm
                  · rcases List.mem_append.1 hm with hm | hm
                    · exact S.apart 10 11 _ _ (by omega) rfl rfl _ hi hm
                    · rcases List.mem_cons.1 hm with rfl | hm
                      · exact S.apart 10 5 _ _ (by omega) rfl rfl _ hi (by simp [Chunk.row])
                      · exact S.apart 10 3 _ _ (by omega) rfl rfl _ hi hm
                have hk2n : k2 ∉ Fc ++ (Fk ++ id :: (Fx ++ [])) := by
                  intro hm
                  simp only [List.append_nil, List.mem_append, List.mem_cons] at hm
                  rcases hm with hm | hm | rfl | hm
                  · exact S.apart 8 10 _ _ (by omega) rfl rfl k2 (by simp [Chunk.row]) hm
                  · exact S.apart 8 11 _ _ (by omega) rfl rfl k2 (by simp [Chunk.row]) hm
                  · exact S.apart 8 5 _ _ (by omega) rfl rfl k2 (by simp [Chunk.row]) (by simp [Chunk.row])
                  · exact S.apart 8 3 _ _ (by omega) rfl rfl k2 (by simp [Chunk.row]) hm
                have hsubx : ∀ i ∈ Fc ++ (Fk ++ id :: (Fx ++ [])), i ∈ Fc ++ (Fk ++ id :: Fs) := fun i hi => by
                  simp only [List.append_nil, List.mem_append, List.mem_cons] at hi
                  rcases hi with h | h | h | h
                  · simp [h]
                  · simp [h]
                  · simp [h]
                  · exact hFk0 i (by simp [h])
                have hih := ih (Plan.mk 6 m test cells a b keys agg c [x]) (d + 2)
                obtain ⟨xk, xn, xt, xc, xa, xb, xK, xg, xC, xk2⟩ := x
                obtain ⟨yk, yn, yt, yc, ya, yb, yK, yg, yC, yk2⟩ := y
                rw [OwnP_mk] at hox hoy
                obtain ⟨CX, KX, DX, FX1, FX2, FX3, rfl, x1, x2, x3, rfl⟩ := hox
                obtain ⟨CY, KY, DY, FY1, FY2, FY3, rfl, y1, y2, y3, rfl⟩ := hoy
                have hCX := x1.cell
                have hKX := x2.cell
                have hDX := OwnK.cell x3
                clear x1 x2 x3 y1 y2 y3
                cases he : planEq (Plan.mk xk xn xt xc xa xb xK xg xC xk2) (Plan.mk yk yn yt yc ya yb yK yg yC yk2) <;> rw [he] at hsame hR2
                · have hRp : _ = R := hR2
                  simp only [cond_false] at hRp
                  subst hRp
                  conv => whnf
                  refine .inl ⟨_, S.row 9 rfl, rfl, ?_⟩
                  conv => whnf
                  first | refine bsel_false hne ?_ | skip
                  conv => whnf
                  refine .inl ⟨_, S.row 9 rfl, rfl, ?_⟩
                  conv => whnf
                  refine ⟨_, S.row 5 rfl, ⟨by omega, hlt0⟩, ?_⟩
                  conv => whnf
                  refine .inr ⟨_, _, _, S.row 5 rfl, rfl, ?_⟩
                  conv => whnf
                  intro k4 a4 hk4' hh4
                  have hk4F := hk4 k4 hk4'
                  replace S := S.alloc hk4' hh4
                  replace fr2 := fr2.alloc hh4
                  conv => whnf
                  refine ⟨_, rfl, rfl, pval_all hC1.2 hK1.2 hD1.2, .inl ⟨_, S.row 0 rfl, rfl, ?_⟩⟩
                  conv => whnf
                  intro a5 hh5
                  replace S := S.set 0 rfl hh5
                  replace fr2 := fr2.set hh5 hk4F
                  dsimp only [List.set] at S
                  conv => whnf
                  refine .inl ⟨_, S.row 10 rfl, rfl, ?_⟩
                  conv => whnf
                  have hokk := OwnP.of (kind := 5) (n := n') (test := test') (a := a') (b := b') (agg := agg') (col := c') (kids := [Plan.mk xk xn xt xc xa xb xK xg xC xk2, Plan.mk yk yn yt yc ya yb yK yg yC yk2]) (S.get 1 rfl) (S.get 2 rfl) (.inr ⟨id1, [_, _], _, rfl, S.row 3 rfl, by simp only [OwnPs]; exact ⟨_, _, _, _, rfl, rfl, S.get 4 rfl, _, _, _, _, rfl, rfl, S.get 5 rfl, rfl, rfl⟩, rfl⟩)
                  refine .inl ⟨_, S.row 0 rfl, rfl, ?_⟩
                  conv => whnf
                  refine ⟨_, honce.here (snapL1 (hokk.snap hksm)) hkenc rfl, ?_⟩
                  conv => whnf
                  refine .inl ⟨_, S.row 10 rfl, rfl, ?_⟩
                  conv => whnf
                  refine .inl ⟨_, S.row 0 rfl, rfl, ?_⟩
                  conv => whnf
                  refine .inl ⟨_, S.row 0 rfl, rfl, ?_⟩
                  conv => whnf
                  refine ⟨_, S.row 3 rfl, ⟨by decide, by decide⟩, ?_⟩
                  conv => whnf
                  refine .inr ⟨_, _, _, S.row 3 rfl, rfl, ?_⟩
                  conv => whnf
                  refine .inl ⟨_, S.row 0 rfl, rfl, ?_⟩
                  conv => whnf
                  refine ⟨_, S.row 3 rfl, ⟨by decide, by decide⟩, ?_⟩
                  conv => whnf
                  refine .inr ⟨_, _, _, S.row 3 rfl, rfl, ?_⟩
                  conv => whnf
                  refine ⟨_, hsame.here (snapL2 ((show OwnP _ _ _ _ from S.get 4 rfl).snap hsx) ((show OwnP _ _ _ _ from S.get 5 rfl).snap hsy)) hxyenc rfl, ?_⟩
                  conv => whnf
                  refine .inl ⟨_, S.row 10 rfl, rfl, ?_⟩
                  conv => whnf
                  refine .inl ⟨_, S.row 10 rfl, rfl, ?_⟩
                  conv => whnf

                  refine ⟨_, rfl, rfl, pval_all hC.2 hK.2 rfl, .inl ⟨_, S.row 9 rfl, rfl, ?_⟩⟩
                  conv => whnf
                  intro a6 hh6
                  replace S := S.set 9 rfl hh6
                  replace fr2 := fr2.set hh6 hk2F
                  dsimp only [List.set] at S
                  conv => whnf

                  exact ⟨_, fin_cell rfl rfl (S.row 9 rfl) rfl, _, _, _, rfl, fr2, OwnP.of (S.get 11 rfl) (S.get 12 rfl) (.inr ⟨id, _, _, rfl, S.row 6 rfl, by
                    simp only [OwnPs]
                    exact ⟨_, _, _, _, rfl, rfl, OwnP.of (S.get 1 rfl) (S.get 2 rfl) (.inr ⟨id1, [_, _], _, rfl, S.row 3 rfl, by simp only [OwnPs]; exact ⟨_, _, _, _, rfl, rfl, S.get 4 rfl, _, _, _, _, rfl, rfl, S.get 5 rfl, rfl, rfl⟩, rfl⟩), S.get 8 rfl⟩, rfl⟩), by simpa using hnP2, fun i hi => hPsub2 i (by simpa using hi)⟩
                · have hRp : slimF n (Plan.mk 6 m test cells a b keys agg c [Plan.mk xk xn xt xc xa xb xK xg xC xk2]) = R := hR2
                  subst hRp
                  conv => whnf
                  refine .inl ⟨_, S.row 9 rfl, rfl, ?_⟩
                  conv => whnf
                  first | refine bsel_false hne ?_ | skip
                  conv => whnf
                  refine .inl ⟨_, S.row 9 rfl, rfl, ?_⟩
                  conv => whnf
                  refine ⟨_, S.row 5 rfl, ⟨by omega, hlt0⟩, ?_⟩
                  conv => whnf
                  refine .inr ⟨_, _, _, S.row 5 rfl, rfl, ?_⟩
                  conv => whnf
                  intro k4 a4 hk4' hh4
                  have hk4F := hk4 k4 hk4'
                  replace S := S.alloc hk4' hh4
                  replace fr2 := fr2.alloc hh4
                  conv => whnf
                  refine ⟨_, rfl, rfl, pval_all hC1.2 hK1.2 hD1.2, .inl ⟨_, S.row 0 rfl, rfl, ?_⟩⟩
                  conv => whnf
                  intro a5 hh5
                  replace S := S.set 0 rfl hh5
                  replace fr2 := fr2.set hh5 hk4F
                  dsimp only [List.set] at S
                  conv => whnf
                  refine .inl ⟨_, S.row 10 rfl, rfl, ?_⟩
                  conv => whnf
                  have hokk := OwnP.of (kind := 5) (n := n') (test := test') (a := a') (b := b') (agg := agg') (col := c') (kids := [Plan.mk xk xn xt xc xa xb xK xg xC xk2, Plan.mk yk yn yt yc ya yb yK yg yC yk2]) (S.get 1 rfl) (S.get 2 rfl) (.inr ⟨id1, [_, _], _, rfl, S.row 3 rfl, by simp only [OwnPs]; exact ⟨_, _, _, _, rfl, rfl, S.get 4 rfl, _, _, _, _, rfl, rfl, S.get 5 rfl, rfl, rfl⟩, rfl⟩)
                  refine .inl ⟨_, S.row 0 rfl, rfl, ?_⟩
                  conv => whnf
                  refine ⟨_, honce.here (snapL1 (hokk.snap hksm)) hkenc rfl, ?_⟩
                  clear hokk
                  conv => whnf
                  refine .inl ⟨_, S.row 10 rfl, rfl, ?_⟩
                  conv => whnf
                  refine .inl ⟨_, S.row 0 rfl, rfl, ?_⟩
                  conv => whnf
                  refine .inl ⟨_, S.row 0 rfl, rfl, ?_⟩
                  conv => whnf
                  refine ⟨_, S.row 3 rfl, ⟨by decide, by decide⟩, ?_⟩
                  conv => whnf
                  refine .inr ⟨_, _, _, S.row 3 rfl, rfl, ?_⟩
                  conv => whnf
                  refine .inl ⟨_, S.row 0 rfl, rfl, ?_⟩
                  conv => whnf
                  refine ⟨_, S.row 3 rfl, ⟨by decide, by decide⟩, ?_⟩
                  conv => whnf
                  refine .inr ⟨_, _, _, S.row 3 rfl, rfl, ?_⟩
                  conv => whnf
                  refine ⟨_, hsame.here (snapL2 ((show OwnP _ _ _ _ from S.get 4 rfl).snap hsx) ((show OwnP _ _ _ _ from S.get 5 rfl).snap hsy)) hxyenc rfl, ?_⟩
                  conv => whnf
                  refine .inl ⟨_, S.row 10 rfl, rfl, ?_⟩
                  conv => whnf
                  refine .inl ⟨_, S.row 0 rfl, rfl, ?_⟩
                  conv => whnf
                  refine ⟨_, S.row 3 rfl, ⟨by decide, by decide⟩, ?_⟩
                  conv => whnf
                  refine .inr ⟨_, _, _, S.row 3 rfl, rfl, ?_⟩
                  conv => whnf
                  refine ⟨_, S.row 6 rfl, ⟨by decide, hlt0⟩, ?_⟩
                  conv => whnf
                  refine ⟨_, rfl, rfl, pval_all hCX.2 hKX.2 hDX.2, .inr ⟨_, _, _, S.row 6 rfl, rfl, ?_⟩⟩
                  conv => whnf
                  intro a6 hh6
                  replace S := S.setRow 6 (A := []) (B := []) rfl rfl hh6
                  replace fr2 := fr2.set hh6 (.inl hfid)
                  dsimp only [List.set, List.nil_append] at S
                  have hop : OwnP a6 (Plan.mk 6 m test cells a b keys agg c [Plan.mk xk xn xt xc xa xb xK xg xC xk2]) (pval 6 m test C a b K agg c (.own id 0 1)) (Fc ++ (Fk ++ id :: ((FX1 ++ (FX2 ++ FX3)) ++ []))) :=
                    OwnP.of (S.get 11 rfl) (S.get 12 rfl) (.inr ⟨id, [_], _, rfl, S.row 6 rfl, by simp only [OwnPs]; exact ⟨_, [], _, [], rfl, rfl, S.get 4 rfl, rfl, rfl⟩, rfl⟩)
                  obtain ⟨vr, Fr', a7, hc, f1, o1, n1, i1⟩ := hih _ _ a6 (by simpa only [Plan.cnt, Plan.cnts] using hcx) hsmx hokx hop hndx
                  have hk2r : a7[k2]? = some (.box zPlan) := (f1.out k2 (get_lt (S.row 9 rfl)) hk2n).trans (S.row 9 rfl)
                  have fr7 := fr2.turn f1 fun i hi => .inl (hsubx i hi)
                  generalize slimF n (Plan.mk 6 m test cells a b keys agg c [Plan.mk xk xn xt xc xa xb xK xg xC xk2]) = R at o1 ⊢
                  obtain ⟨rk, rn, rt, rc, ra, rb, rK, rg, rC, rk2⟩ := R
                  have o1' := o1
                  rw [OwnP_mk] at o1
                  obtain ⟨C2, K2, D2, Fc2, Fk2, Fd2, rfl, w1, w2, w3, rfl⟩ := o1
                  conv => whnf
                  refine .inl ⟨_, S.row 10 rfl, rfl, ?_⟩
                  conv => whnf
                  refine ⟨_, hc, ?_⟩
                  conv => whnf
                  refine ⟨_, rfl, rfl, pval_all w1.cell.2 w2.cell.2 w3.cell.2, .inl ⟨_, hk2r, rfl, ?_⟩⟩
                  conv => whnf
                  intro a8 hh8
                  replace fr7 := fr7.set hh8 hk2F
                  conv => whnf
                  exact ⟨_, fin_cell rfl rfl (get_same hh8 hk2r) rfl, _, _, _, rfl, fr7, OwnP.frame o1' (fun i hi => by rw [hh8]; exact List.getElem?_set_ne (fun e => hk2n (by rw [e]; exact i1 i hi))), n1, fun i hi => hsubx i (i1 i hi)⟩
              · have e5 : (k.kind == 5) = false := by simpa using h5
                have hRp : Plan.mk 6 m test cells a b keys agg c [k] = R := by
                  have e6 : ((Plan.mk 6 m test cells a b keys agg c [k]).kind == 6) = true := rfl
                  have e2 : ((Plan.mk 6 m test cells a b keys agg c [k]).kind == 2) = false := rfl
                  simpa only [e5, e6, e2, Bool.and_false, Bool.false_and, cond_false] using hR
                subst hRp
                obtain ⟨kind', n', test', cells', a', b', keys', agg', c', kids'⟩ := k
                rw [OwnP_mk] at hok0
                obtain ⟨C1, K1, D1, Fc1, Fk1, Fd1, rfl, w1, w2, w3, rfl⟩ := hok0
                have hC1 := w1.cell
                have hK1 := w2.cell
                have hD1 := OwnK.cell w3
                clear w1 w2 w3
                have e5' : (kind' == 5) = false := e5
                conv => whnf
                refine .inl ⟨_, S.row 5 rfl, rfl, ?_⟩
                conv => whnf
                first | refine bsel_false hne ?_ | skip
                conv => whnf
                refine .inl ⟨_, S.row 5 rfl, rfl, ?_⟩
                conv => whnf
                refine ⟨_, S.row 1 rfl, ⟨by omega, hlt0⟩, ?_⟩
                conv => whnf
                refine .inr ⟨_, _, _, S.row 1 rfl, rfl, ?_⟩
                conv => whnf
                intro k4 a4 hk4' hh4
                have hk4F := hk4 k4 hk4'
                replace S := S.alloc hk4' hh4
                replace fr2 := fr2.alloc hh4
                conv => whnf
                refine ⟨_, rfl, rfl, pval_all hC1.2 hK1.2 hD1.2, .inl ⟨_, S.row 0 rfl, rfl, ?_⟩⟩
                conv => whnf
                intro a5 hh5
                replace S := S.set 0 rfl hh5
                replace fr2 := fr2.set hh5 hk4F
                dsimp only [List.set] at S
                conv => whnf
                refine .inl ⟨_, S.row 6 rfl, rfl, ?_⟩
                conv => whnf
                refine .inl ⟨_, S.row 0 rfl, rfl, ?_⟩
                conv => whnf
                refine ⟨_, honce.here (snapL1 ((show OwnP _ _ _ _ from S.get 1 rfl).snap hksm)) hkenc rfl, ?_⟩
                conv => whnf
                refine .inl ⟨_, S.row 6 rfl, rfl, ?_⟩
                conv => whnf
                refine .inl ⟨_, S.row 0 rfl, rfl, ?_⟩
                conv => whnf
                refine bsel_false e5' ?_
                conv => whnf
                refine .inl ⟨_, S.row 6 rfl, rfl, ?_⟩
                conv => whnf
                refine .inl ⟨_, S.row 6 rfl, rfl, ?_⟩
                conv => whnf

                refine ⟨_, rfl, rfl, pval_all hC.2 hK.2 rfl, .inl ⟨_, S.row 5 rfl, rfl, ?_⟩⟩
                conv => whnf
                intro a6 hh6
                replace S := S.set 5 rfl hh6
                replace fr2 := fr2.set hh6 hk2F
                dsimp only [List.set] at S
                conv => whnf

                exact ⟨_, fin_cell rfl rfl (S.row 5 rfl) rfl, _, _, _, rfl, fr2, OwnP.of (S.get 7 rfl) (S.get 8 rfl) (.inr ⟨id, _, _, rfl, S.row 2 rfl, by simp only [OwnPs]; exact ⟨_, _, _, _, rfl, rfl, S.get 1 rfl, S.get 4 rfl⟩, rfl⟩), hnP, hPsub⟩
            · have hRk : k = R := hR
              subst hRk
              obtain ⟨kind', n', test', cells', a', b', keys', agg', c', kids'⟩ := k
              rw [OwnP_mk] at hok0
              obtain ⟨C1, K1, D1, Fc1, Fk1, Fd1, rfl, w1, w2, w3, rfl⟩ := hok0
              have hC1 := w1.cell
              have hK1 := w2.cell
              have hD1 := OwnK.cell w3
              clear w1 w2 w3
              conv => whnf
              refine .inl ⟨_, S.row 5 rfl, rfl, ?_⟩
              conv => whnf
              first | refine bsel_false hne ?_ | skip
              conv => whnf
              refine .inl ⟨_, S.row 5 rfl, rfl, ?_⟩
              conv => whnf
              refine ⟨_, S.row 1 rfl, ⟨by omega, hlt0⟩, ?_⟩
              conv => whnf
              refine .inr ⟨_, _, _, S.row 1 rfl, rfl, ?_⟩
              conv => whnf
              intro k4 a4 hk4' hh4
              have hk4F := hk4 k4 hk4'
              replace S := S.alloc hk4' hh4
              replace fr2 := fr2.alloc hh4
              conv => whnf
              refine ⟨_, rfl, rfl, pval_all hC1.2 hK1.2 hD1.2, .inl ⟨_, S.row 0 rfl, rfl, ?_⟩⟩
              conv => whnf
              intro a5 hh5
              replace S := S.set 0 rfl hh5
              replace fr2 := fr2.set hh5 hk4F
              dsimp only [List.set] at S
              conv => whnf
              refine .inl ⟨_, S.row 6 rfl, rfl, ?_⟩
              conv => whnf
              refine .inl ⟨_, S.row 0 rfl, rfl, ?_⟩
              conv => whnf
              refine ⟨_, honce.here (snapL1 ((show OwnP _ _ _ _ from S.get 1 rfl).snap hksm)) hkenc rfl, ?_⟩
              conv => whnf
              refine .inl ⟨_, S.row 0 rfl, rfl, ?_⟩
              conv => whnf

              refine ⟨_, rfl, rfl, pval_all hC1.2 hK1.2 hD1.2, .inl ⟨_, S.row 5 rfl, rfl, ?_⟩⟩
              conv => whnf
              intro a6 hh6
              replace S := S.set 5 rfl hh6
              replace fr2 := fr2.set hh6 hk2F
              dsimp only [List.set] at S
              conv => whnf

              exact ⟨_, fin_cell rfl rfl (S.row 5 rfl) rfl, _, _, _, rfl, fr2, S.get 1 rfl, (S.get' 1 _ rfl).2, hFk0⟩
          · rcases Decidable.em (kind = 2) with rfl | h2
            · have hrest : rest = [] := by
                have := (okF_kids hok').1
                cases rest with
                | nil => rfl
                | cons r l => simp [Plan.kind, Plan.kids, kidsN] at this; omega
              subst hrest
              have hR2 : (bif k.kind == 2 && testEq test k.test then k else Plan.mk 2 m test cells a b keys agg c [k]) = R := hR
              obtain ⟨kind', n', test', cells', a', b', keys', agg', c', kids'⟩ := k
              simp only [Plan.kind, Plan.test] at hR2
              rw [OwnP_mk] at hok0
              obtain ⟨C1, K1, D1, Fc1, Fk1, Fd1, rfl, w1, w2, w3, rfl⟩ := hok0
              have hC1 := w1.cell
              have hK1 := w2.cell
              have hD1 := OwnK.cell w3
              clear w1 w2 w3
              cases e2 : (kind' == 2) <;> rw [e2] at hR2
              · have hRp : _ = R := hR2
                simp only [Bool.false_and, cond_false] at hRp
                subst hRp
                conv => whnf
                refine .inl ⟨_, S.row 5 rfl, rfl, ?_⟩
                conv => whnf
                first | refine bsel_false hne ?_ | skip
                conv => whnf
                refine .inl ⟨_, S.row 5 rfl, rfl, ?_⟩
                conv => whnf
                refine ⟨_, S.row 1 rfl, ⟨by omega, hlt0⟩, ?_⟩
                conv => whnf
                refine .inr ⟨_, _, _, S.row 1 rfl, rfl, ?_⟩
                conv => whnf
                intro k4 a4 hk4' hh4
                have hk4F := hk4 k4 hk4'
                replace S := S.alloc hk4' hh4
                replace fr2 := fr2.alloc hh4
                conv => whnf
                refine ⟨_, rfl, rfl, pval_all hC1.2 hK1.2 hD1.2, .inl ⟨_, S.row 0 rfl, rfl, ?_⟩⟩
                conv => whnf
                intro a5 hh5
                replace S := S.set 0 rfl hh5
                replace fr2 := fr2.set hh5 hk4F
                dsimp only [List.set] at S
                conv => whnf
                refine .inl ⟨_, S.row 6 rfl, rfl, ?_⟩
                conv => whnf
                refine .inl ⟨_, S.row 6 rfl, rfl, ?_⟩
                conv => whnf
                refine .inl ⟨_, S.row 6 rfl, rfl, ?_⟩
                conv => whnf
                refine .inl ⟨_, S.row 0 rfl, rfl, ?_⟩
                conv => whnf
                refine bsel_false e2 ?_
                conv => whnf
                refine .inl ⟨_, S.row 6 rfl, rfl, ?_⟩
                conv => whnf

                refine ⟨_, rfl, rfl, pval_all hC.2 hK.2 rfl, .inl ⟨_, S.row 5 rfl, rfl, ?_⟩⟩
                conv => whnf
                intro a6 hh6
                replace S := S.set 5 rfl hh6
                replace fr2 := fr2.set hh6 hk2F
                dsimp only [List.set] at S
                conv => whnf

                exact ⟨_, fin_cell rfl rfl (S.row 5 rfl) rfl, _, _, _, rfl, fr2, OwnP.of (S.get 7 rfl) (S.get 8 rfl) (.inr ⟨id, _, _, rfl, S.row 2 rfl, by simp only [OwnPs]; exact ⟨_, _, _, _, rfl, rfl, S.get 1 rfl, S.get 4 rfl⟩, rfl⟩), hnP, hPsub⟩
              · cases et : testEq test test' <;> rw [et] at hR2
                · have hRp : _ = R := hR2
                  simp only [Bool.and_false, cond_false] at hRp
                  subst hRp
                  conv => whnf
                  refine .inl ⟨_, S.row 5 rfl, rfl, ?_⟩
                  conv => whnf
                  first | refine bsel_false hne ?_ | skip
                  conv => whnf
                  refine .inl ⟨_, S.row 5 rfl, rfl, ?_⟩
                  conv => whnf
                  refine ⟨_, S.row 1 rfl, ⟨by omega, hlt0⟩, ?_⟩
                  conv => whnf
                  refine .inr ⟨_, _, _, S.row 1 rfl, rfl, ?_⟩
                  conv => whnf
                  intro k4 a4 hk4' hh4
                  have hk4F := hk4 k4 hk4'
                  replace S := S.alloc hk4' hh4
                  replace fr2 := fr2.alloc hh4
                  conv => whnf
                  refine ⟨_, rfl, rfl, pval_all hC1.2 hK1.2 hD1.2, .inl ⟨_, S.row 0 rfl, rfl, ?_⟩⟩
                  conv => whnf
                  intro a5 hh5
                  replace S := S.set 0 rfl hh5
                  replace fr2 := fr2.set hh5 hk4F
                  dsimp only [List.set] at S
                  conv => whnf
                  refine .inl ⟨_, S.row 6 rfl, rfl, ?_⟩
                  conv => whnf
                  refine .inl ⟨_, S.row 6 rfl, rfl, ?_⟩
                  conv => whnf
                  refine .inl ⟨_, S.row 6 rfl, rfl, ?_⟩
                  conv => whnf
                  refine .inl ⟨_, S.row 0 rfl, rfl, ?_⟩
                  conv => whnf
                  refine bsel_true e2 ?_
                  conv => whnf
                  refine .inl ⟨_, S.row 6 rfl, rfl, ?_⟩
                  conv => whnf
                  refine .inl ⟨_, S.row 0 rfl, rfl, ?_⟩
                  conv => whnf
                  refine ⟨_, testEq test test', eqS_test, rfl, ?_⟩
                  refine bsel_false et ?_
                  conv => whnf
                  refine .inl ⟨_, S.row 6 rfl, rfl, ?_⟩
                  conv => whnf

                  refine ⟨_, rfl, rfl, pval_all hC.2 hK.2 rfl, .inl ⟨_, S.row 5 rfl, rfl, ?_⟩⟩
                  conv => whnf
                  intro a6 hh6
                  replace S := S.set 5 rfl hh6
                  replace fr2 := fr2.set hh6 hk2F
                  dsimp only [List.set] at S
                  conv => whnf

                  exact ⟨_, fin_cell rfl rfl (S.row 5 rfl) rfl, _, _, _, rfl, fr2, OwnP.of (S.get 7 rfl) (S.get 8 rfl) (.inr ⟨id, _, _, rfl, S.row 2 rfl, by simp only [OwnPs]; exact ⟨_, _, _, _, rfl, rfl, S.get 1 rfl, S.get 4 rfl⟩, rfl⟩), hnP, hPsub⟩
                · have hRp : _ = R := hR2
                  simp only [Bool.and_true, cond_true] at hRp
                  subst hRp
                  conv => whnf
                  refine .inl ⟨_, S.row 5 rfl, rfl, ?_⟩
                  conv => whnf
                  first | refine bsel_false hne ?_ | skip
                  conv => whnf
                  refine .inl ⟨_, S.row 5 rfl, rfl, ?_⟩
                  conv => whnf
                  refine ⟨_, S.row 1 rfl, ⟨by omega, hlt0⟩, ?_⟩
                  conv => whnf
                  refine .inr ⟨_, _, _, S.row 1 rfl, rfl, ?_⟩
                  conv => whnf
                  intro k4 a4 hk4' hh4
                  have hk4F := hk4 k4 hk4'
                  replace S := S.alloc hk4' hh4
                  replace fr2 := fr2.alloc hh4
                  conv => whnf
                  refine ⟨_, rfl, rfl, pval_all hC1.2 hK1.2 hD1.2, .inl ⟨_, S.row 0 rfl, rfl, ?_⟩⟩
                  conv => whnf
                  intro a5 hh5
                  replace S := S.set 0 rfl hh5
                  replace fr2 := fr2.set hh5 hk4F
                  dsimp only [List.set] at S
                  conv => whnf
                  refine .inl ⟨_, S.row 6 rfl, rfl, ?_⟩
                  conv => whnf
                  refine .inl ⟨_, S.row 6 rfl, rfl, ?_⟩
                  conv => whnf
                  refine .inl ⟨_, S.row 6 rfl, rfl, ?_⟩
                  conv => whnf
                  refine .inl ⟨_, S.row 0 rfl, rfl, ?_⟩
                  conv => whnf
                  refine bsel_true e2 ?_
                  conv => whnf
                  refine .inl ⟨_, S.row 6 rfl, rfl, ?_⟩
                  conv => whnf
                  refine .inl ⟨_, S.row 0 rfl, rfl, ?_⟩
                  conv => whnf
                  refine ⟨_, testEq test test', eqS_test, rfl, ?_⟩
                  refine bsel_true et ?_
                  conv => whnf
                  refine .inl ⟨_, S.row 0 rfl, rfl, ?_⟩
                  conv => whnf

                  refine ⟨_, rfl, rfl, pval_all hC1.2 hK1.2 hD1.2, .inl ⟨_, S.row 5 rfl, rfl, ?_⟩⟩
                  conv => whnf
                  intro a6 hh6
                  replace S := S.set 5 rfl hh6
                  replace fr2 := fr2.set hh6 hk2F
                  dsimp only [List.set] at S
                  conv => whnf

                  exact ⟨_, fin_cell rfl rfl (S.row 5 rfl) rfl, _, _, _, rfl, fr2, S.get 1 rfl, (S.get' 1 _ rfl).2, hFk0⟩
            · have e6 : (kind == 6) = false := by simpa using h6
              have e2 : (kind == 2) = false := by simpa using h2
              have hRp : Plan.mk kind m test cells a b keys agg c (k :: rest) = R := by
                have e6 : ((Plan.mk kind m test cells a b keys agg c (k :: rest)).kind == 6) = false := e6
                have e2 : ((Plan.mk kind m test cells a b keys agg c (k :: rest)).kind == 2) = false := e2
                simpa only [e6, e2, Bool.and_false, Bool.false_and, cond_false] using hR
              subst hRp
              obtain ⟨kind', n', test', cells', a', b', keys', agg', c', kids'⟩ := k
              rw [OwnP_mk] at hok0
              obtain ⟨C1, K1, D1, Fc1, Fk1, Fd1, rfl, w1, w2, w3, rfl⟩ := hok0
              have hC1 := w1.cell
              have hK1 := w2.cell
              have hD1 := OwnK.cell w3
              clear w1 w2 w3
              conv => whnf
              refine .inl ⟨_, S.row 5 rfl, rfl, ?_⟩
              conv => whnf
              first | refine bsel_false hne ?_ | skip
              conv => whnf
              refine .inl ⟨_, S.row 5 rfl, rfl, ?_⟩
              conv => whnf
              refine ⟨_, S.row 1 rfl, ⟨by omega, hlt0⟩, ?_⟩
              conv => whnf
              refine .inr ⟨_, _, _, S.row 1 rfl, rfl, ?_⟩
              conv => whnf
              intro k4 a4 hk4' hh4
              have hk4F := hk4 k4 hk4'
              replace S := S.alloc hk4' hh4
              replace fr2 := fr2.alloc hh4
              conv => whnf
              refine ⟨_, rfl, rfl, pval_all hC1.2 hK1.2 hD1.2, .inl ⟨_, S.row 0 rfl, rfl, ?_⟩⟩
              conv => whnf
              intro a5 hh5
              replace S := S.set 0 rfl hh5
              replace fr2 := fr2.set hh5 hk4F
              dsimp only [List.set] at S
              conv => whnf
              refine .inl ⟨_, S.row 6 rfl, rfl, ?_⟩
              conv => whnf
              refine bsel_false e6 ?_
              conv => whnf
              refine .inl ⟨_, S.row 6 rfl, rfl, ?_⟩
              conv => whnf
              refine bsel_false e6 ?_
              conv => whnf
              refine .inl ⟨_, S.row 6 rfl, rfl, ?_⟩
              conv => whnf
              refine bsel_false e2 ?_
              conv => whnf
              refine .inl ⟨_, S.row 6 rfl, rfl, ?_⟩
              conv => whnf

              refine ⟨_, rfl, rfl, pval_all hC.2 hK.2 rfl, .inl ⟨_, S.row 5 rfl, rfl, ?_⟩⟩
              conv => whnf
              intro a6 hh6
              replace S := S.set 5 rfl hh6
              replace fr2 := fr2.set hh6 hk2F
              dsimp only [List.set] at S
              conv => whnf

              exact ⟨_, fin_cell rfl rfl (S.row 5 rfl) rfl, _, _, _, rfl, fr2, OwnP.of (S.get 7 rfl) (S.get 8 rfl) (.inr ⟨id, _, _, rfl, S.row 2 rfl, by simp only [OwnPs]; exact ⟨_, _, _, _, rfl, rfl, S.get 1 rfl, S.get 4 rfl⟩, rfl⟩), hnP, hPsub⟩
end Go.Proofs.YtbghmemejbbhfaaGreat

/- copyPlan: the caller's own. -/
import Derived.Test.YtbghmemejbbhfaaGreatGC7
import Derived.Test.YtbghmemejbbhfaaGreatGB1
import Derived.Test.YtbghmemejbbhfaaGreatGB2
set_option linter.unusedVariables false
set_option linter.unusedSimpArgs false
/- slices.Clone: the caller's own. -/
namespace Go.Am
open Go
theorem empty_rep {E : Env} {w : World} {v : AVal} {u : Value} (hv : v = .nil ∨ v = .own 0 0 0) (hr : Rep E w v u) (S : Nat → Prop) (w' : World) : RepC S w' (.sl []) u := by
  have fin : ∀ (a : Option Addr) (cap : Nat), RepC S w' (.sl []) (.slice a 0 cap) := fun a cap => .sl [] a cap 0 0 0 (fun _ _ => undef) (fun h => absurd rfl h) (Nat.zero_le _) (by simp) (by simp) (by simp)
  rcases hv with rfl | rfl
  · cases hr with
    | clo h => cases h with | nil a => exact fin a 0
  · cases hr with
    | clo h => cases h
    | own _ _ _ a cap b csz sz hm hcap hq => exact fin a cap
    | ownD _ _ _ a cap hm hcap => exact fin a cap
end Go.Am
namespace Go.Proofs.YtbghmemejbbhfaaGreat
open Go Go.Am
set_option maxRecDepth 100000
theorem yCloneC : CallsY cf none 54 [.sl []] [] rdy fun v _ _ => v = .nil ∨ v = .own 0 0 0 := by
  refine callsY_of (isY := isYf) (callsOk cfOk) (by kernel_rfl) fun B => ?_
  conv => whnf
  intro b
  conv => whnf
  refine bsel_intro (fun hb => ?_) (fun hb => ?_)
  · conv => whnf
    exact ⟨_, rfl, .inl rfl⟩
  · conv => whnf
    refine ⟨trivial, ?_⟩
    conv => whnf
    refine ⟨rfl, ?_⟩
    conv => whnf
    refine ⟨rfl, rfl, Nat.le_refl _, ?_⟩
    conv => whnf
    exact ⟨_, rfl, .inr rfl⟩

theorem yCloneI : CallsY cf none 55 [.sl []] [] rdy fun v _ _ => v = .nil ∨ v = .own 0 0 0 := by
  refine callsY_of (isY := isYf) (callsOk cfOk) (by kernel_rfl) fun B => ?_
  conv => whnf
  intro b
  conv => whnf
  refine bsel_intro (fun hb => ?_) (fun hb => ?_)
  · conv => whnf
    exact ⟨_, rfl, .inl rfl⟩
  · conv => whnf
    refine ⟨trivial, ?_⟩
    conv => whnf
    refine ⟨rfl, ?_⟩
    conv => whnf
    refine ⟨rfl, rfl, Nat.le_refl _, ?_⟩
    conv => whnf
    exact ⟨_, rfl, .inr rfl⟩

/-- A contract with yields, whose result is an empty list. -/
theorem prim_nil {f : FuncId} (hc : CallsY cf none f [.sl []] [] rdy fun v _ _ => v = .nil ∨ v = .own 0 0 0) {E : Env} {w : World} {vs : Array Value} (s : Sim E [] w) (hf : Full E []) (hg : GOk (fun _ => none) E.S w) (hr : Reps E w [.sl []] vs) :
    Calls Tryz.prog f vs w (Post E [] w (.ret (.sl []) [])) := by
  refine Calls.mono (hc E w vs s hf hg hr trivial) fun e w' he => ?_
  cases e with
  | panicked ch => exact he.elim
  | outgrown => exact he.elim
  | returned u =>
    obtain ⟨v, h', g', E', hv, s', f', x', r', _⟩ := he
    have him : ∀ b, ¬ E.im b := fun b ⟨id, sl, h1, _⟩ => by rw [hf id (Nat.zero_le _)] at h1; cases h1
    obtain ⟨s2, x2⟩ := s.grow (w' := w') (fun b hb => x'.mem b hb (him b) id) x'.size x'.os x'.tape x'.output
    exact ⟨.sl [], [], E, rfl, s2, hf, x2, .clo (empty_rep hv r' _ _)⟩
noncomputable def clonePr (f : FuncId) (args : List AVal) (h : Heap) : Option ARes := match args, h with
  | [.sl []], [] => some (.ret (.sl []) [])
  | _, _ => call (cfp pr1) f args h
noncomputable def pr2 : Prims := fun f =>
  if f == 54 then some (clonePr f) else
  if f == 55 then some (clonePr f) else
  pr1 f
theorem ok2 : Okp pr2 := ⟨fun f h => by
  unfold pr2
  split
  · rename_i e; have : f = 54 := by simpa using e
    subst this; simp [plain] at h
  · split
    · rename_i e; have : f = 55 := by simpa using e
      subst this; simp [plain] at h
    · exact ok1.out f h⟩
theorem sizeOk2_r (t : Plan) (ht : t.small) : Ret pr2 47 [t.enc] (.bool (sizeOkP t)) := by
  refine ret_prim (p := sizeOkPr) rfl rfl ?_ (sizeOkPr_some ht) rfl
  obtain ⟨kind, n, test, cells, a, b, keys, agg, col, kids⟩ := t
  rfl
theorem clone_case {f : FuncId} (hy : CallsY cf none f [.sl []] [] rdy fun v _ _ => v = .nil ∨ v = .own 0 0 0) {args : List AVal} {h : Heap} {r : ARes} (hr : clonePr f args h = some r) (E : Env) (w : World) (vs : Array Value) (hb : bodied Tryz.prog f = true) (s : Sim E h w) (hf : Full E h) (hg : GOk (fun _ => none) E.S w) (hreps : Reps E w args vs) :
    Calls Tryz.prog f vs w (Post E h w r) := by
  unfold clonePr at hr
  split at hr
  · cases hr; exact prim_nil hy s hf hg hreps
  · exact call_sound cfOk1 f args h r hr E w vs hb s hf hg hreps
theorem cfOk2 : CfgOk (cfp pr2) := cfOk_of fun f p args h r hp hr E w vs hb s hf hg hreps => by
  unfold pr2 at hp
  split at hp
  · rename_i e; have : f = 54 := by simpa using e
    subst this; cases hp; exact clone_case yCloneC hr E w vs hb s hf hg hreps
  · split at hp
    · rename_i e; have : f = 55 := by simpa using e
      subst this; cases hp; exact clone_case yCloneI hr E w vs hb s hf hg hreps
    · exact cfOk1.prims f p args h r hp hr E w vs hb s hf hg hreps
/-- Prims that have sizeOk and Clone among them. -/
structure Okc (pr : Prims) : Prop extends Oks pr where
  cloneC : ∀ xs : List Cell, xs.length ≤ 1048576 → RetL Cell.enc 4 pr 54 [.sl (xs.map Cell.enc)] xs
  cloneI : ∀ xs : List Int, xs.length ≤ 1048576 → RetL i64 1 pr 55 [.sl (xs.map i64)] xs
theorem call_pr2 {f : FuncId} {p : List AVal → Heap → Option ARes} (hp : pr2 f = some p) (args : List AVal) (h : Heap) : call (cfp pr2) f args h = p args h := by
  rw [call_eq]
  unfold callB
  have : (cfp pr2).pr f = some p := hp
  simp only [this]
theorem okc2 : Okc pr2 where
  toOkp := ok2
  size := sizeOk2_r
  cloneC := fun xs hl => by
    cases xs with
    | nil => exact ⟨.sl [], [], [], by rw [call_pr2 (p := clonePr _) rfl]; rfl, .inl ⟨rfl, rfl, .inr rfl⟩, by simp⟩
    | cons x xs =>
      have : RetL Cell.enc 4 pr1 54 [.sl ((x :: xs).map Cell.enc)] (x :: xs) := by
        suffices hw : wpF (cfp pr1) 54 [.sl ((x :: xs).map Cell.enc)] [] (fun r => ∃ v h F, r = .ret v h ∧ OwnL Cell.enc 4 h (x :: xs) v F ∧ F.Nodup) by
          obtain ⟨r, hr, v, h, F, rfl, h1, h2⟩ := wpF_sound rfl hw
          exact ⟨v, h, F, hr, h1, h2⟩
        conv => whnf
        refine ⟨trivial, ?_⟩
        conv => whnf
        refine ⟨?_, ?_⟩
        · rw [List.all_eq_true]; intro y hy; obtain ⟨z, _, rfl⟩ := List.mem_map.1 hy; rfl
        conv => whnf
        refine ⟨rfl, rfl, Nat.le_refl _, ?_⟩
        conv => whnf
        refine ⟨by simp [sizeLim] at hl ⊢; omega, ?_⟩
        conv => whnf
        refine ⟨_, _, [1], rfl, .inr ⟨1, ?_, rfl, rfl⟩, by simp⟩
        simp
        rfl
      obtain ⟨v, h, F, hc, h1, h2⟩ := this
      exact ⟨v, h, F, by rw [call_pr2 (p := clonePr _) rfl]; exact hc, h1, h2⟩
  cloneI := fun xs hl => by
    cases xs with
    | nil => exact ⟨.sl [], [], [], by rw [call_pr2 (p := clonePr _) rfl]; rfl, .inl ⟨rfl, rfl, .inr rfl⟩, by simp⟩
    | cons x xs =>
      have : RetL i64 1 pr1 55 [.sl ((x :: xs).map i64)] (x :: xs) := by
        suffices hw : wpF (cfp pr1) 55 [.sl ((x :: xs).map i64)] [] (fun r => ∃ v h F, r = .ret v h ∧ OwnL i64 1 h (x :: xs) v F ∧ F.Nodup) by
          obtain ⟨r, hr, v, h, F, rfl, h1, h2⟩ := wpF_sound rfl hw
          exact ⟨v, h, F, hr, h1, h2⟩
        conv => whnf
        refine ⟨trivial, ?_⟩
        conv => whnf
        refine ⟨?_, ?_⟩
        · rw [List.all_eq_true]; intro y hy; obtain ⟨z, _, rfl⟩ := List.mem_map.1 hy; rfl
        conv => whnf
        refine ⟨rfl, rfl, Nat.le_refl _, ?_⟩
        conv => whnf
        refine ⟨by simp [sizeLim] at hl ⊢; omega, ?_⟩
        conv => whnf
        refine ⟨_, _, [1], rfl, .inr ⟨1, ?_, rfl, rfl⟩, by simp⟩
        simp
        rfl
      obtain ⟨v, h, F, hc, h1, h2⟩ := this
      exact ⟨v, h, F, by rw [call_pr2 (p := clonePr _) rfl]; exact hc, h1, h2⟩
end Go.Proofs.YtbghmemejbbhfaaGreat
/- copyPlan: the caller's own. -/
namespace Go.Proofs.YtbghmemejbbhfaaGreat
open Go Go.Am
variable {pr : Prims}
set_option maxRecDepth 100000
theorem copyPlan_n' (hk : Okc pr) : ∀ (N : Nat) (p : Plan), SizeOf.sizeOf p ≤ N → p.small → RetN pr 34 [p.enc] p := by
  intro N
  induction N with
  | zero => intro p h; exfalso; cases p; simp at h
  | succ N ih =>
    intro p hs hsm
    obtain ⟨kind, n, test, cells, a, b, keys, agg, c, kids⟩ := p
    obtain ⟨hsc, hsk, hskids, hsks⟩ := small_split hsm
    have ih' : ∀ q ∈ kids, RetN pr 34 [q.enc] q := fun q hq => ih q (by have := List.sizeOf_lt_of_mem hq; simp at hs; omega) (hsks q hq)
    clear ih
    refine retN_of hk.toOkp rfl ?_
    have S : Sepa [] [] := Sepa.nil []
    conv => whnf
    intro k1 a1 hk_k1 hh_a1
    replace S := S.alloc hk_k1 hh_a1
    conv => whnf
    intro k2 a2 hk_k2 hh_a2
    replace S := S.alloc hk_k2 hh_a2
    conv => whnf
    refine .inl ⟨_, S.row 1 rfl, rfl, ?_⟩
    conv => whnf
    refine .inl ⟨_, S.row 1 rfl, rfl, ?_⟩
    conv => whnf
    obtain ⟨C, b1, Fc, hc1, hp1, g1, n1, d1⟩ := (hk.cloneC cells hsc).at (h := a2) (args := [.sl (cells.map Cell.enc)]) rfl rfl (fun _ => rfl) (fun _ _ => rfl)
    replace S := S.more (c := .list Cell.enc 4 cells C Fc) hp1 g1 n1 d1
    refine ⟨_, hc1, ?_⟩
    refine wpC_intro ?_
    refine forceV_intro ?_
    conv => whnf
    refine .inl ⟨_, S.row 2 rfl, rfl, ?_⟩
    conv => whnf
    obtain ⟨K, b2, Fk, hc2, hp2, g2, n2, d2⟩ := (hk.cloneI keys hsk).at (h := b1) (args := [.sl (keys.map i64)]) rfl rfl (fun _ => rfl) (fun _ _ => rfl)
    replace S := S.more (c := .list i64 1 keys K Fk) hp2 g2 n2 d2
    refine ⟨_, hc2, ?_⟩
    refine wpC_intro ?_
    refine forceV_intro ?_
    conv => whnf
    refine ⟨[C], g1.cell.1, rfl, (all1 g1.cell.2), .inl ⟨_, S.row 3 rfl, rfl, ?_⟩⟩
    conv => whnf
    intro a3 hh_a3
    replace S := S.set 3 rfl hh_a3
    dsimp only [List.set] at S
    conv => whnf
    refine ⟨[K], g2.cell.1, rfl, (all1 g2.cell.2), .inl ⟨_, S.row 3 rfl, rfl, ?_⟩⟩
    conv => whnf
    intro a4 hh_a4
    replace S := S.set 3 rfl hh_a4
    dsimp only [List.set] at S
    conv => whnf
    refine ⟨_, rfl, rfl, rfl, .inl ⟨_, S.row 3 rfl, rfl, ?_⟩⟩
    conv => whnf
    intro a5 hh_a5
    replace S := S.set 3 rfl hh_a5
    dsimp only [List.set] at S
    conv => whnf
    have hL := encs_len kids
    have hC := g1.cell.2
    have hK := g2.cell.2
    clear g1 g2
    refine loop_ruley true (fun m st => ∃ (j : Nat) (D : AVal) (F : List Nat), j + m = kids.length ∧ st.tm 1 = .ptr k1 0 0 ∧ st.tm 2 = .ptr k2 0 0 ∧ st.tm 17 = .sl (Plan.encs kids) ∧ st.tm 18 = i64 ((Plan.encs kids).length : Nat) ∧ st.tm 19 = i64 (j : Nat) ∧
      Sepa st.hp [.kids (kids.take j) D F, .list i64 1 keys K Fk, .list Cell.enc 4 cells C Fc, .row k2 (.box zPlan), .row k1 (.box (pval kind n test C a b K agg c D))]) (fun m st hI => ?_) kids.length _ ⟨0, .nil, [], by simp, rfl, rfl, rfl, rfl, rfl, ?_⟩
    rotate_left
    · exact S.more (c := .kids [] .nil []) (List.prefix_refl _) (.inl ⟨rfl, rfl, rfl⟩) (by simp [Chunk.kids]) (by simp [Chunk.kids])
    obtain ⟨j, D, F, hj, e1, e2, e17, e18, e19, S2⟩ := hI
    obtain ⟨tm, hq⟩ := st
    simp only at e1 e2 e17 e18 e19 S2
    rw [show tm = upd (upd (upd (upd (upd tm 1 (.ptr k1 0 0)) 2 (.ptr k2 0 0)) 17 (.sl (Plan.encs kids))) 18 (i64 ((Plan.encs kids).length : Nat))) 19 (i64 (j : Nat)) by rw [upd_id e1, upd_id e2, upd_id e17, upd_id e18, upd_id e19]]
    clear e1 e2 e17 e18 e19
    clear S
    conv => whnf
    refine bsel_intro (fun h1 => ?_) (fun h1 => ?_)
    · have hjl : j < kids.length := by simpa [encs_len] using h1
      have hge : (Plan.encs kids)[((j : Nat) : Int).toNat]? = some (Plan.enc kids[j]) := by rw [Int.toNat_natCast, encs_get]; simp [hjl]
      have hih := ih' kids[j] (List.getElem_mem hjl)
      have htk : kids.take (j + 1) = kids.take j ++ [kids[j]] := by rw [List.take_add_one]; simp [hjl]
      generalize kids[j] = q at hge hih htk
      obtain ⟨kind', n', test', cells', a', b', keys', agg', c', kids'⟩ := q
      conv => whnf
      refine ⟨_, hge, by omega, rfl, ?_⟩
      conv => whnf
      intro k5 b5 hk_k5 hh_b5
      replace S2 := S2.alloc hk_k5 hh_b5
      conv => whnf
      refine ⟨_, rfl, rfl, rfl, .inl ⟨_, S2.row 0 rfl, rfl, ?_⟩⟩
      conv => whnf
      intro b6 hh_b6
      replace S2 := S2.set 0 rfl hh_b6
      dsimp only [List.set] at S2
      conv => whnf
      refine .inl ⟨_, S2.row 5 rfl, rfl, ?_⟩
      refine LoadR_intro (v := D) rfl ?_
      refine forceV_intro ?_
      conv => whnf
      refine .inl ⟨_, S2.row 0 rfl, rfl, ?_⟩
      conv => whnf
      obtain ⟨v, hh, F2, hc, hpre, ho, hn, hd⟩ := hih.at (h := b6) (args := [(Plan.mk kind' n' test' cells' a' b' keys' agg' c' kids').enc]) rfl rfl
      have S3 := S2.more (c := .plan (Plan.mk kind' n' test' cells' a' b' keys' agg' c' kids') v F2) hpre ho hn hd
      rw [OwnP_mk] at ho
      obtain ⟨C1, K1, D1, Fc1, Fk1, Fd1, rfl, g1, g2, g3, rfl⟩ := ho
      refine ⟨_, hc, ?_⟩
      conv => whnf
      intro k8 b7 hk_k8 hh_b7
      replace S3 := S3.alloc hk_k8 hh_b7
      conv => whnf
      refine ⟨trivial, ?_⟩
      conv => whnf
      refine ⟨[pval kind' n' test' C1 a' b' K1 agg' c' D1], elems_row (S3.row 0 rfl), pval_elem g1.cell.2 g2.cell.2 g3.cell.2, ?_⟩
      have S3 := (S3.drop 0).drop 1
      dsimp only [List.eraseIdx] at S3
      refine appendKid S3 (by simp [sizeLim]; omega) fun D' F' b8 S4 => ?_
      refine forceV_intro ?_
      conv => whnf
      have hD' : OwnK b8 _ D' F' := S4.get 0 rfl
      refine ⟨[D'], hD'.cell.1, rfl, (all1 hD'.cell.2), .inl ⟨_, S4.row 4 rfl, rfl, ?_⟩⟩
      conv => whnf
      intro b9 hh_b9
      replace S4 := S4.set 4 rfl hh_b9
      dsimp only [List.set] at S4
      conv => whnf
      refine ⟨m - 1, by omega, j + 1, D', F', by omega, rfl, rfl, rfl, rfl, nat_step j (by omega), ?_⟩
      rw [htk]
      exact S4
    · have hje : j = kids.length := by
        have : ¬ j < kids.length := by simpa [encs_len] using h1
        omega
      subst hje
      conv => whnf
      refine .inl ⟨_, S2.row 4 rfl, rfl, ?_⟩
      conv => whnf
      have hD : OwnK hq (kids.take kids.length) D F := S2.get 0 rfl
      refine ⟨_, rfl, rfl, (pval_all hC hK hD.cell.2), .inl ⟨_, S2.row 3 rfl, rfl, ?_⟩⟩
      conv => whnf
      intro b3 hh_b3
      replace S2 := S2.set 3 rfl hh_b3
      dsimp only [List.set] at S2
      conv => whnf
      have hD' : OwnK b3 (kids.take kids.length) D F := S2.get 0 rfl
      rw [List.take_length] at hD'
      refine ⟨_, fin_cell rfl rfl (S2.row 3 rfl) rfl, _, _, _, rfl, OwnP.of (S2.get 2 rfl) (S2.get 1 rfl) hD', ?_⟩
      refine nodup_join (S2.get' 2 _ rfl).2 (nodup_join (S2.get' 1 _ rfl).2 (S2.get' 0 _ rfl).2 fun id hid => S2.apart 1 0 _ _ (by omega) rfl rfl id hid) fun id hid hm => ?_
      rcases List.mem_append.1 hm with h | h
      · exact S2.apart 2 1 _ _ (by omega) rfl rfl id hid h
      · exact S2.apart 2 0 _ _ (by omega) rfl rfl id hid h
theorem copyPlan_n (hk : Okc pr) (p : Plan) (hsm : p.small) : RetN pr 34 [p.enc] p := copyPlan_n' hk _ p (Nat.le_refl _) hsm
end Go.Proofs.YtbghmemejbbhfaaGreat

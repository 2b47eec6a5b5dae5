/- l4Copy: the caller's own. -/
import Derived.Test.YtbghmemejbbhfaaGreatGB1
set_option linter.unusedVariables false
set_option linter.unusedSimpArgs false
/- The law's own functions: copies of lists. -/
namespace Go.Proofs.YtbghmemejbbhfaaGreat
open Go Go.Am
variable {pr : Prims} (hp : Okp pr)
set_option maxRecDepth 100000
theorem retL_of (hp : Okp pr) {α : Type} {g : α → AVal} {sz : Nat} {f : FuncId} {args : List AVal} {xs : List α} (hn : plain f = true) (hw : wpF (cfp pr) f args [] (fun r => ∃ v h F, r = .ret v h ∧ OwnL g sz h xs v F ∧ F.Nodup)) : RetL g sz pr f args xs := by
  obtain ⟨r, hr, v, h, F, rfl, h1, h2⟩ := wpF_sound (hp.out f hn) hw
  exact ⟨v, h, F, hr, h1, h2⟩
theorem retN_of (hp : Okp pr) {f : FuncId} {args : List AVal} {p : Plan} (hn : plain f = true) (hw : wpFq (cfp pr) f args [] (fun r => ∃ v h F, r = .ret v h ∧ OwnP h p v F ∧ F.Nodup)) : RetN pr f args p := by
  obtain ⟨r, hr, v, h, F, rfl, h1, h2⟩ := wpFq_sound (hp.out f hn) hw
  exact ⟨v, h, F, hr, h1, h2⟩
theorem retS_of (hp : Okp pr) {f : FuncId} {args : List AVal} {ps : List Plan} (hn : plain f = true) (hw : wpFq (cfp pr) f args [] (fun r => ∃ v h F, r = .ret v h ∧ OwnK h ps v F ∧ F.Nodup)) : RetS pr f args ps := by
  obtain ⟨r, hr, v, h, F, rfl, h1, h2⟩ := wpFq_sound (hp.out f hn) hw
  exact ⟨v, h, F, hr, h1, h2⟩
theorem toCell_r (hp : Okp pr) (c : Cell) : Ret pr 46 [c.enc] c.enc := by
  refine ret_of hp rfl rfl ?_
  conv => whnf
  exact ⟨_, _, rfl, rfl⟩
theorem toTest_r (hp : Okp pr) (t : Test) : Ret pr 22 [t.enc] t.enc := by
  obtain ⟨k, no, l, r⟩ := t
  refine ret_of hp rfl rfl ?_
  cases no
  iterate 2
    · conv => whnf
      refine ⟨_, toCell_r hp l _, ?_⟩
      conv => whnf
      refine ⟨_, toCell_r hp r _, ?_⟩
      conv => whnf
      refine ⟨_, _, rfl, ?_⟩
      kernel_rfl
def zCell : AVal := .agg [i64 0, i64 0, i64 0, i64 0]
theorem toCellS_n (hp : Okp pr) (xs : List Cell) (hl : xs.length ≤ 1048576) : RetL Cell.enc 4 pr 23 [.sl (xs.map Cell.enc)] xs := by
  have hlen : (((xs.map Cell.enc).length : Nat) : Int).toNat = xs.length := by simp
  refine retL_of hp rfl ?_
  conv => whnf
  refine ⟨?_, ?_⟩
  · simp [sizeLim]; omega
  conv => whnf
  refine loop_rule (fun m st => ∃ j : Nat, j + m = xs.length ∧ st.tm 0 = .sl (xs.map Cell.enc) ∧ st.tm 3 = .own 0 0 (((xs.map Cell.enc).length : Nat) : Int).toNat ∧ st.tm 4 = i64 (j : Nat) ∧ st.hp = [.arr 4 ((xs.take j).map Cell.enc ++ List.replicate ((((xs.map Cell.enc).length : Nat) : Int).toNat - j) zCell)]) (fun m st hI => ?_) (xs.length) _ ⟨0, by simp, (by first | kernel_rfl | rfl | simp), (by first | kernel_rfl | rfl | simp), (by first | kernel_rfl | rfl | simp), (by first | kernel_rfl | rfl | simp)⟩
  obtain ⟨j, hj, e0, e3, e4, hh⟩ := hI
  obtain ⟨tm, hq⟩ := st
  simp only at e0 e3 e4 hh
  subst hh
  rw [show tm = upd (upd (upd tm 0 (.sl (xs.map Cell.enc))) 3 (.own 0 0 (((xs.map Cell.enc).length : Nat) : Int).toNat)) 4 (i64 (j : Nat)) by rw [upd_id e0, upd_id e3, upd_id e4]]
  clear e0 e3 e4
  conv => whnf
  · refine bsel_intro (fun h1 => ?_) (fun h1 => ?_)
    · have hjl : j < xs.length := by simpa using h1
      obtain ⟨m', rfl⟩ : ∃ m', m = m' + 1 := ⟨m - 1, by omega⟩
      have hm1 : ((((xs.map Cell.enc).length : Nat) : Int).toNat - j) = m' + 1 := by rw [hlen]; omega
      have hm2 : ((((xs.map Cell.enc).length : Nat) : Int).toNat - (j + 1)) = m' := by rw [hlen]; omega
      have hge : (xs.map Cell.enc)[((j : Nat) : Int).toNat]? = some (Cell.enc xs[j]) := by rw [Int.toNat_natCast]; simp [hjl]
      have hfill := fill_step Cell.enc zCell xs j m' hjl
      have hfg := fill_get Cell.enc zCell xs j m' hjl
      conv => whnf
      refine ⟨(xs[j]).enc, hge, by omega, rfl, ?_⟩
      conv => whnf
      refine ⟨_, toCell_r hp xs[j] _, ?_⟩
      conv => whnf
      refine ⟨⟨by omega, by rw [hlen]; omega⟩, rfl, ?_⟩
      conv => whnf
      refine ⟨zCell, ?_, ?_⟩
      · refine Eq.trans (b := ((xs.take j).map Cell.enc ++ List.replicate ((((xs.map Cell.enc).length : Nat) : Int).toNat - j) zCell)[0 + (j : Int).toNat]?) ?_ ?_
        · kernel_rfl
        · rw [hm1, Int.toNat_natCast, Nat.zero_add]
          exact hfg
      conv => whnf
      refine ⟨m', by omega, j + 1, by omega, rfl, rfl, nat_step j (by omega), ?_⟩
      refine Eq.trans (b := [AObj.arr 4 (((xs.take j).map Cell.enc ++ List.replicate ((((xs.map Cell.enc).length : Nat) : Int).toNat - j) zCell).set (0 + (j : Int).toNat) ((xs[j]).enc))]) ?_ ?_
      · kernel_rfl
      · rw [hm1, hm2, Int.toNat_natCast, Nat.zero_add, hfill]
    · have hje : j = xs.length := by
        have : ¬ j < xs.length := by simpa using h1
        omega
      subst hje
      conv => whnf
      refine ⟨_, _, [0], rfl, .inr ⟨0, ?_, ?_, rfl⟩, by simp⟩
      · refine Eq.trans (b := AVal.own 0 0 (((xs.map Cell.enc).length : Nat) : Int).toNat) (by kernel_rfl) (by rw [hlen])
      · refine Eq.trans (b := some (AObj.arr 4 ((xs.take xs.length).map Cell.enc ++ List.replicate ((((xs.map Cell.enc).length : Nat) : Int).toNat - xs.length) (zCell)))) (by kernel_rfl) (by rw [hlen, Nat.sub_self, List.take_length]; simp)
theorem toIntS_n (hp : Okp pr) (xs : List Int) (hl : xs.length ≤ 1048576) : RetL i64 1 pr 24 [.sl (xs.map i64)] xs := by
  have hlen : (((xs.map i64).length : Nat) : Int).toNat = xs.length := by simp
  refine retL_of hp rfl ?_
  conv => whnf
  refine ⟨?_, ?_⟩
  · simp [sizeLim]; omega
  conv => whnf
  refine loop_rule (fun m st => ∃ j : Nat, j + m = xs.length ∧ st.tm 0 = .sl (xs.map i64) ∧ st.tm 3 = .own 0 0 (((xs.map i64).length : Nat) : Int).toNat ∧ st.tm 4 = i64 (j : Nat) ∧ st.hp = [.arr 1 ((xs.take j).map i64 ++ List.replicate ((((xs.map i64).length : Nat) : Int).toNat - j) (i64 0))]) (fun m st hI => ?_) (xs.length) _ ⟨0, by simp, (by first | kernel_rfl | rfl | simp), (by first | kernel_rfl | rfl | simp), (by first | kernel_rfl | rfl | simp), (by first | kernel_rfl | rfl | simp)⟩
  obtain ⟨j, hj, e0, e3, e4, hh⟩ := hI
  obtain ⟨tm, hq⟩ := st
  simp only at e0 e3 e4 hh
  subst hh
  rw [show tm = upd (upd (upd tm 0 (.sl (xs.map i64))) 3 (.own 0 0 (((xs.map i64).length : Nat) : Int).toNat)) 4 (i64 (j : Nat)) by rw [upd_id e0, upd_id e3, upd_id e4]]
  clear e0 e3 e4
  conv => whnf
  · refine bsel_intro (fun h1 => ?_) (fun h1 => ?_)
    · have hjl : j < xs.length := by simpa using h1
      obtain ⟨m', rfl⟩ : ∃ m', m = m' + 1 := ⟨m - 1, by omega⟩
      have hm1 : ((((xs.map i64).length : Nat) : Int).toNat - j) = m' + 1 := by rw [hlen]; omega
      have hm2 : ((((xs.map i64).length : Nat) : Int).toNat - (j + 1)) = m' := by rw [hlen]; omega
      have hge : (xs.map i64)[((j : Nat) : Int).toNat]? = some (i64 xs[j]) := by rw [Int.toNat_natCast]; simp [hjl]
      have hfill := fill_step i64 (i64 0) xs j m' hjl
      have hfg := fill_get i64 (i64 0) xs j m' hjl
      conv => whnf
      refine ⟨i64 xs[j], hge, by omega, rfl, ?_⟩
      conv => whnf
      refine ⟨⟨by omega, by rw [hlen]; omega⟩, rfl, ?_⟩
      conv => whnf
      refine ⟨(i64 0), ?_, ?_⟩
      · refine Eq.trans (b := ((xs.take j).map i64 ++ List.replicate ((((xs.map i64).length : Nat) : Int).toNat - j) (i64 0))[0 + (j : Int).toNat]?) ?_ ?_
        · kernel_rfl
        · rw [hm1, Int.toNat_natCast, Nat.zero_add]
          exact hfg
      conv => whnf
      refine ⟨m', by omega, j + 1, by omega, rfl, rfl, nat_step j (by omega), ?_⟩
      refine Eq.trans (b := [AObj.arr 1 (((xs.take j).map i64 ++ List.replicate ((((xs.map i64).length : Nat) : Int).toNat - j) (i64 0)).set (0 + (j : Int).toNat) (i64 xs[j]))]) ?_ ?_
      · kernel_rfl
      · rw [hm1, hm2, Int.toNat_natCast, Nat.zero_add, hfill]
    · have hje : j = xs.length := by
        have : ¬ j < xs.length := by simpa using h1
        omega
      subst hje
      conv => whnf
      refine ⟨_, _, [0], rfl, .inr ⟨0, ?_, ?_, rfl⟩, by simp⟩
      · refine Eq.trans (b := AVal.own 0 0 (((xs.map i64).length : Nat) : Int).toNat) (by kernel_rfl) (by rw [hlen])
      · refine Eq.trans (b := some (AObj.arr 1 ((xs.take xs.length).map i64 ++ List.replicate ((((xs.map i64).length : Nat) : Int).toNat - xs.length) (i64 0)))) (by kernel_rfl) (by rw [hlen, Nat.sub_self, List.take_length]; simp)
end Go.Proofs.YtbghmemejbbhfaaGreat
/- The law's own functions: copies of plans, the caller's own. -/
namespace Go.Am
open Go
theorem Sepa.merge {h : Heap} {L : List Chunk} {c d e : Chunk} (s : Sepa h (c :: d :: L)) (he : e.P h) (hF : ∀ id ∈ e.F, id ∈ c.F ∨ id ∈ d.F) (hn : e.F.Nodup) : Sepa h (e :: L) := by
  refine ⟨fun i x hi => ?_, fun i j x y hij hi hj id hid => ?_⟩
  · cases i with
    | zero => simp at hi; subst hi; exact ⟨he, hn⟩
    | succ i => exact s.get' (i + 2) x (by simpa using hi)
  · cases i with
    | zero =>
      simp at hi
      subst hi
      cases j with
      | zero => exact absurd rfl hij
      | succ j =>
        rcases hF id hid with h1 | h1
        · exact s.apart 0 (j + 2) c y (by omega) rfl (by simpa using hj) id h1
        · exact s.apart 1 (j + 2) d y (by omega) rfl (by simpa using hj) id h1
    | succ i =>
      cases j with
      | zero =>
        simp at hj
        subst hj
        intro hm
        rcases hF id hm with h1 | h1
        · exact s.apart (i + 2) 0 x c (by omega) (by simpa using hi) rfl id hid h1
        · exact s.apart (i + 2) 1 x d (by omega) (by simpa using hi) rfl id hid h1
      | succ j => exact s.apart (i + 2) (j + 2) x y (by omega) (by simpa using hi) (by simpa using hj) id hid
theorem nodup_join {F G : List Nat} (h1 : F.Nodup) (h2 : G.Nodup) (h3 : ∀ id ∈ F, id ∉ G) : (F ++ G).Nodup := by
  rw [List.nodup_append]
  exact ⟨h1, h2, fun a ha b hb e => h3 a ha (e ▸ hb)⟩
theorem Sepa.nodup2 {h : Heap} {L : List Chunk} {c d : Chunk} (s : Sepa h (c :: d :: L)) : (d.F ++ c.F).Nodup := nodup_join (s.get' 1 d rfl).2 (s.get' 0 c rfl).2 (s.apart 1 0 d c (by omega) rfl rfl)
theorem Sepa.swap {h : Heap} {L : List Chunk} {c d : Chunk} (s : Sepa h (c :: d :: L)) : Sepa h (d :: c :: L) := by
  have key : ∀ i x, (d :: c :: L)[i]? = some x → ∃ j, (c :: d :: L)[j]? = some x ∧ (i = 0 → j = 1) ∧ (i = 1 → j = 0) ∧ (2 ≤ i → j = i) := by
    intro i x hi
    match i, hi with
    | 0, hi => exact ⟨1, by simpa using hi, by simp, by simp, by simp⟩
    | 1, hi => exact ⟨0, by simpa using hi, by simp, by simp, by simp⟩
    | i + 2, hi => exact ⟨i + 2, by simpa using hi, by simp, by omega, by simp⟩
  refine ⟨fun i x hi => ?_, fun i j x y hij hi hj => ?_⟩
  · obtain ⟨k, hk, _⟩ := key i x hi; exact s.get' k x hk
  · obtain ⟨k, hk, k0, k1, k2⟩ := key i x hi
    obtain ⟨l, hl, l0, l1, l2⟩ := key j y hj
    refine s.apart k l x y ?_ hk hl
    rcases Nat.lt_or_ge i 2 with h1 | h1 <;> rcases Nat.lt_or_ge j 2 with h2 | h2
    · rcases (by omega : i = 0 ∨ i = 1) with h3 | h3 <;> rcases (by omega : j = 0 ∨ j = 1) with h4 | h4 <;> first | omega | (have := k0 h3; have := l1 h4; omega) | (have := k1 h3; have := l0 h4; omega)
    · have := l2 h2; rcases (by omega : i = 0 ∨ i = 1) with h3 | h3
      · have := k0 h3; omega
      · have := k1 h3; omega
    · have := k2 h1; rcases (by omega : j = 0 ∨ j = 1) with h3 | h3
      · have := l0 h3; omega
      · have := l1 h3; omega
    · have := k2 h1; have := l2 h2; omega
end Go.Am
namespace Go.Proofs.YtbghmemejbbhfaaGreat
open Go Go.Am
variable {pr : Prims} (hp : Okp pr)
def zPlan : AVal := .agg [i64 0, i64 0, i64 0, .bool false, i64 0, i64 0, i64 0, i64 0, i64 0, i64 0, i64 0, i64 0, .nil, i64 0, i64 0, .nil, i64 0, i64 0, .nil]
/-- A kid is appended. -/
theorem appendKid {h : Heap} {B : List Chunk} {ps : List Plan} {q : Plan} {D v : AVal} {F F2 : List Nat} {K : AVal → Heap → Prop} (S : Sepa h (.plan q v F2 :: .kids ps D F :: B)) (hl : ps.length + 1 ≤ sizeLim)
    (hK : ∀ D' F' h', Sepa h' (.kids (ps ++ [q]) D' F' :: B) → K D' h') : AppR h 19 D [v] K := by
  have hD : OwnK h ps D F := S.get 1 rfl
  have hv : OwnP h q v F2 := S.get 0 rfl
  rcases hD with ⟨rfl, rfl, rfl⟩ | ⟨id, vs, Fs, rfl, h5, h6, rfl⟩
  · refine AppR_nil (S.drop 1) (by simp) (by simp [sizeLim]) fun k h' S' => ?_
    dsimp only [List.eraseIdx] at S'
    refine hK _ (k :: F2) h' (S'.merge (e := .kids [q] (.own k 0 [v].length) (k :: F2)) (.inr ⟨k, [v], F2, rfl, S'.row 0 rfl, ?_, rfl⟩) (fun id hid => ?_) ?_)
    · simp only [OwnPs]
      exact ⟨v, [], F2, [], rfl, by simp, S'.get 1 rfl, rfl, rfl⟩
    · rcases List.mem_cons.1 hid with rfl | h
      · exact .inl (by simp [Chunk.row])
      · exact .inr h
    · exact List.nodup_cons.2 ⟨fun hm => S'.apart 1 0 _ _ (by omega) rfl rfl k hm (by simp [Chunk.row]), (S'.get' 1 _ rfl).2⟩
  · have hvl := OwnPs_len h6
    have hn : (id :: Fs).Nodup := (S.get' 1 _ rfl).2
    have hidF : id ∉ Fs := (List.nodup_cons.1 hn).1
    have hid2 : id ∉ F2 := fun hm => S.apart 0 1 _ _ (by omega) rfl rfl id hm (by simp [Chunk.kids])
    rw [← hvl]
    refine ⟨vs, h5, rfl, Nat.le_refl _, .inr ⟨by simp, by rw [hvl]; exact hl, fun k h' e1 e2 => ?_⟩⟩
    rw [List.take_length] at e2 ⊢
    have hsame : ∀ j, j < h.length → j ≠ id → h'[j]? = h[j]? := fun j hj hne => by
      subst e2
      rw [List.getElem?_append_left (by simpa using hj), List.getElem?_set_ne (fun e => hne e.symm)]
    have hnew : h'[k]? = some (.arr 19 (vs ++ [v])) := get_new (by simpa using e1) e2
    have h6' : OwnPs h' ps vs Fs := OwnPs.frame h6 fun j hj => hsame j (OwnPs.lt h6 j hj) (fun e => hidF (e ▸ hj))
    have hv' : OwnP h' q v F2 := OwnP.frame hv fun j hj => hsame j (OwnP.lt hv j hj) (fun e => hid2 (e ▸ hj))
    have hkF : ∀ j ∈ Fs ++ F2, j < h.length := fun j hj => (List.mem_append.1 hj).elim (OwnPs.lt h6 j) (OwnP.lt hv j)
    have S1 := S.turn 1 (c' := ⟨k :: Fs, fun h => h[k]? = some (.arr 19 (vs ++ [v])) ∧ OwnPs h ps vs Fs, fun a b hp hf => ⟨by rw [hf k (by simp)]; exact hp.1, OwnPs.frame hp.2 fun j hj => hf j (by simp [hj])⟩,
      fun a hp j hj => by
        rcases List.mem_cons.1 hj with rfl | hj
        · exact get_lt hp.1
        · exact OwnPs.lt hp.2 j hj⟩) rfl (h' := h') (fun j hj hne => hsame j hj fun e => hne (by simp [Chunk.kids, e])) ⟨hnew, h6'⟩
      (List.nodup_cons.2 ⟨fun hm => by have := hkF k (by simp [hm]); omega, (List.nodup_cons.1 hn).2⟩) (fun j hj => by
        rcases List.mem_cons.1 hj with rfl | hj
        · exact .inr (by omega)
        · exact .inl (by simp [Chunk.kids, hj]))
    dsimp only [List.set] at S1
    refine hK _ (k :: (Fs ++ F2)) h' (S1.merge (e := .kids (ps ++ [q]) (.own k 0 (vs ++ [v]).length) (k :: (Fs ++ F2))) (.inr ⟨k, vs ++ [v], Fs ++ F2, by simp [hvl], hnew, OwnPs_append h6' (by simp only [OwnPs]; exact ⟨v, [], F2, [], rfl, by simp, hv', rfl, rfl⟩), rfl⟩) (fun j hj => ?_) ?_)
    · rcases List.mem_cons.1 hj with rfl | hj
      · exact .inr (by simp)
      · rcases List.mem_append.1 hj with h | h
        · exact .inr (by simp [h])
        · exact .inl h
    · refine List.nodup_cons.2 ⟨fun hm => by have := hkF k hm; omega, nodup_join (List.nodup_cons.1 hn).2 (S.get' 0 _ rfl).2 fun j hj hm => S.apart 0 1 _ _ (by omega) rfl rfl j hm (by simp [Chunk.kids, hj])⟩
theorem OwnL.cell {α : Type} {f : α → AVal} {sz : Nat} {h : Heap} {xs : List α} {v : AVal} {F : List Nat} (ho : OwnL f sz h xs v F) : v.cells = [v] ∧ v.isCell = true := by
  rcases ho with ⟨_, _, rfl | rfl⟩ | ⟨id, rfl, _, _⟩ <;> exact ⟨rfl, rfl⟩
theorem OwnK.cell {h : Heap} {ps : List Plan} {D : AVal} {F : List Nat} (ho : OwnK h ps D F) : D.cells = [D] ∧ D.isCell = true := by
  rcases ho with ⟨_, rfl, _⟩ | ⟨id, vs, Fs, rfl, _⟩ <;> exact ⟨rfl, rfl⟩
theorem all1 {C : AVal} (h : C.isCell = true) : [C].all AVal.isCell = true := by simp [h]
theorem pval_all {kind n : Int} {test : Test} {C : AVal} {a b : Int} {K : AVal} {agg col : Int} {D : AVal} (h1 : C.isCell = true) (h2 : K.isCell = true) (h3 : D.isCell = true) : (pval kind n test C a b K agg col D).cells.all AVal.isCell = true := by
  simp only [pval, AVal.cells, List.all_cons, h1, h2, h3, List.all_nil, Bool.and_true]
  rfl
theorem plans_fill {vs : List AVal} {v z : AVal} {n j : Nat} (hv : vs.length = j) (hj : j < n) : (vs ++ List.replicate (n - j) z).set j v = (vs ++ [v]) ++ List.replicate (n - (j + 1)) z := by
  subst hv
  rw [List.set_append_right _ _ (Nat.le_refl _), Nat.sub_self, show n - vs.length = (n - (vs.length + 1)) + 1 by omega, List.replicate_succ, List.set_cons_zero, List.append_assoc]
  rfl
theorem plans_at {vs : List AVal} {z : AVal} {n j : Nat} (hv : vs.length = j) (hj : j < n) : (vs ++ List.replicate (n - j) z)[j]? = some z := by
  subst hv
  rw [List.getElem?_append_right (Nat.le_refl _), Nat.sub_self, show n - vs.length = (n - (vs.length + 1)) + 1 by omega]
  rfl
set_option maxRecDepth 100000
theorem toPlanS_n (hp : Okp pr) (xs : List Plan) (hl : xs.length ≤ 1048576) (ih : ∀ p ∈ xs, RetN pr 8 [p.enc] p) : RetS pr 25 [.sl (Plan.encs xs)] xs := by
  have hlen : (((Plan.encs xs).length : Nat) : Int).toNat = xs.length := by simp [encs_len]
  refine retS_of hp rfl ?_
  have S : Sepa [] [] := Sepa.nil []
  conv => whnf
  refine ⟨?_, ?_⟩
  · simp [sizeLim, encs_len]; omega
  conv => whnf
  intro k1 h1 hk_k1 hh_h1
  replace S := S.alloc hk_k1 hh_h1
  conv => whnf
  rw [hlen] at S
  refine loop_ruley true (fun m st => ∃ (j : Nat) (vs : List AVal) (F : List Nat), j + m = xs.length ∧ st.tm 0 = .sl (Plan.encs xs) ∧ st.tm 3 = .own k1 0 (((Plan.encs xs).length : Nat) : Int).toNat ∧ st.tm 4 = i64 (j : Nat) ∧
    Sepa st.hp [.plans (xs.take j) vs F, .row k1 (.arr 19 (vs ++ List.replicate (xs.length - j) zPlan))]) (fun m st hI => ?_) xs.length _ ⟨0, [], [], by simp, rfl, rfl, rfl, ?_⟩
  rotate_left
  · exact S.more (c := .plans [] [] []) (List.prefix_refl _) (by show OwnPs _ _ _ _; simp [OwnPs]) (by simp [Chunk.plans]) (by simp [Chunk.plans])
  obtain ⟨j, vs, F, hj, e0, e3, e4, S2⟩ := hI
  obtain ⟨tm, hq⟩ := st
  simp only at e0 e3 e4 S2
  rw [show tm = upd (upd (upd tm 0 (.sl (Plan.encs xs))) 3 (.own k1 0 (((Plan.encs xs).length : Nat) : Int).toNat)) 4 (i64 (j : Nat)) by rw [upd_id e0, upd_id e3, upd_id e4]]
  clear e0 e3 e4
  have hvl : vs.length = j := by
    have : OwnPs hq (xs.take j) vs F := S2.get 0 rfl
    rw [OwnPs_len this]; simp; omega
  conv => whnf
  refine bsel_intro (fun h1 => ?_) (fun h1 => ?_)
  · have hjl : j < xs.length := by simpa [encs_len] using h1
    have hge : (Plan.encs xs)[((j : Nat) : Int).toNat]? = some (Plan.enc xs[j]) := by rw [Int.toNat_natCast, encs_get]; simp [hjl]
    have hih := ih xs[j] (List.getElem_mem hjl)
    have htk : xs.take (j + 1) = xs.take j ++ [xs[j]] := by rw [List.take_add_one]; simp [hjl]
    generalize xs[j] = q at hge hih htk
    obtain ⟨kind, n, test, cells, a, b, keys, agg, c, kids⟩ := q
    conv => whnf
    refine ⟨_, hge, by omega, rfl, ?_⟩
    conv => whnf
    obtain ⟨v, hh, F2, hc, hpre, ho, hn, hd⟩ := hih.at (h := hq) (args := [(Plan.mk kind n test cells a b keys agg c kids).enc]) rfl rfl
    have S3 := S2.more (c := .plan (Plan.mk kind n test cells a b keys agg c kids) v F2) hpre ho hn hd
    rw [OwnP_mk] at ho
    obtain ⟨C, K, D, Fc, Fk, Fd, rfl, g1, g2, g3, rfl⟩ := ho
    refine ⟨_, hc, ?_⟩
    conv => whnf
    refine ⟨_, S3.row 2 rfl, ⟨by omega, by rw [hlen]; omega⟩, ?_⟩
    conv => whnf
    refine ⟨_, rfl, rfl, pval_all g1.cell.2 g2.cell.2 g3.cell.2, .inr ⟨_, _, zPlan, S3.row 2 rfl, ?_, ?_⟩⟩
    · rw [Int.toNat_natCast, Nat.zero_add]; exact plans_at hvl hjl
    conv => whnf
    intro h5 hh5
    have S5 := S3.set 2 rfl hh5
    dsimp only [List.set] at S5
    conv => whnf
    refine ⟨m - 1, by omega, j + 1, vs ++ [pval kind n test C a b K agg c D], F ++ (Fc ++ (Fk ++ Fd)), by omega, rfl, rfl, nat_step j (by omega), ?_⟩
    have S6 := S5.merge (e := .plans (xs.take (j + 1)) (vs ++ [pval kind n test C a b K agg c D]) (F ++ (Fc ++ (Fk ++ Fd)))) ?_ ?_ S5.nodup2
    · have hfill := plans_fill (v := pval kind n test C a b K agg c D) (z := zPlan) hvl hjl
      rw [Int.toNat_natCast, Nat.zero_add] at S6
      rw [← hfill]
      exact S6
    · have h7 : OwnP h5 _ _ _ := S5.get 0 rfl
      have h8 : OwnPs h5 _ _ _ := S5.get 1 rfl
      show OwnPs h5 _ _ _
      rw [htk]
      exact OwnPs_append h8 (by simp only [OwnPs]; exact ⟨_, _, _, _, rfl, by simp, h7, rfl, rfl⟩)
    · intro id hid
      rcases List.mem_append.1 hid with h | h
      · exact .inr h
      · exact .inl h
  · have hje : j = xs.length := by
      have : ¬ j < xs.length := by simpa [encs_len] using h1
      omega
    subst hje
    conv => whnf
    have e := S2.row 1 rfl
    rw [Nat.sub_self, List.replicate_zero, List.append_nil] at e
    have hps : OwnPs hq (xs.take xs.length) vs F := S2.get 0 rfl
    rw [List.take_length] at hps
    refine ⟨_, rfl, _, _, k1 :: F, rfl, .inr ⟨k1, vs, F, ?_, e, hps, rfl⟩, ?_⟩
    · refine Eq.trans (b := AVal.own k1 0 (((Plan.encs xs).length : Nat) : Int).toNat) (by kernel_rfl) (by rw [hlen])
    · exact (List.nodup_cons.2 ⟨fun hm => S2.apart 0 1 _ _ (by omega) rfl rfl k1 hm (by simp [Chunk.row]), (S2.get' 0 _ rfl).2⟩)
end Go.Proofs.YtbghmemejbbhfaaGreat
/- toPlan: the caller's own. -/
namespace Go.Proofs.YtbghmemejbbhfaaGreat
open Go Go.Am
variable {pr : Prims} (hp : Okp pr)
set_option maxRecDepth 100000
theorem OwnP.of {h : Heap} {kind n : Int} {test : Test} {cells : List Cell} {a b : Int} {keys : List Int} {agg col : Int} {kids : List Plan} {C K D : AVal} {Fc Fk Fd : List Nat}
    (h1 : OwnL Cell.enc 4 h cells C Fc) (h2 : OwnL i64 1 h keys K Fk) (h3 : OwnK h kids D Fd) : OwnP h (.mk kind n test cells a b keys agg col kids) (pval kind n test C a b K agg col D) (Fc ++ (Fk ++ Fd)) :=
  OwnP_mk.2 ⟨C, K, D, Fc, Fk, Fd, rfl, h1, h2, h3, rfl⟩
theorem toPlan_n' (hp : Okp pr) : ∀ (N : Nat) (p : Plan), SizeOf.sizeOf p ≤ N → p.small → RetN pr 8 [p.enc] p := by
  intro N
  induction N with
  | zero => intro p h; exfalso; cases p; simp at h
  | succ N ih =>
    intro p hs hsm
    obtain ⟨kind, n, test, cells, a, b, keys, agg, c, kids⟩ := p
    obtain ⟨hsc, hsk, hskids, hsks⟩ := small_split hsm
    have h1 := toTest_r hp test
    have h2 := toCellS_n hp cells hsc
    have h3 := toIntS_n hp keys hsk
    have h4 := toPlanS_n hp kids hskids fun q hq => ih q (by have := List.sizeOf_lt_of_mem hq; simp at hs; omega) (hsks q hq)
    refine retN_of hp rfl ?_
    have S : Sepa [] [] := Sepa.nil []
    conv => whnf
    intro k1 a1 hk_k1 hh_a1
    replace S := S.alloc hk_k1 hh_a1
    conv => whnf
    intro k2 a2 hk_k2 hh_a2
    replace S := S.alloc hk_k2 hh_a2
    conv => whnf
    intro k3 a3 hk_k3 hh_a3
    replace S := S.alloc hk_k3 hh_a3
    conv => whnf
    refine .inl ⟨_, S.row 2 rfl, rfl, ?_⟩
    conv => whnf
    refine ⟨_, rfl, rfl, rfl, .inl ⟨_, S.row 0 rfl, rfl, ?_⟩⟩
    conv => whnf
    intro a4 hh_a4
    replace S := S.set 0 rfl hh_a4
    dsimp only [List.set] at S
    conv => whnf
    refine .inl ⟨_, S.row 2 rfl, rfl, ?_⟩
    conv => whnf
    refine ⟨_, rfl, rfl, rfl, .inl ⟨_, S.row 0 rfl, rfl, ?_⟩⟩
    conv => whnf
    intro a5 hh_a5
    replace S := S.set 0 rfl hh_a5
    dsimp only [List.set] at S
    conv => whnf
    refine .inl ⟨_, S.row 2 rfl, rfl, ?_⟩
    conv => whnf
    refine ⟨_, h1 _, ?_⟩
    conv => whnf
    refine ⟨_, rfl, rfl, rfl, .inl ⟨_, S.row 0 rfl, rfl, ?_⟩⟩
    conv => whnf
    intro a6 hh_a6
    replace S := S.set 0 rfl hh_a6
    dsimp only [List.set] at S
    conv => whnf
    refine .inl ⟨_, S.row 2 rfl, rfl, ?_⟩
    conv => whnf
    obtain ⟨C, b1, Fc, hc1, hp1, g1, n1, d1⟩ := h2.at (h := a6) (args := [.sl (cells.map Cell.enc)]) rfl rfl (fun _ => rfl) (fun _ _ => rfl)
    replace S := S.more (c := .list Cell.enc 4 cells C Fc) hp1 g1 n1 d1
    refine ⟨_, hc1, ?_⟩
    refine wpC_intro ?_
    refine forceV_intro ?_
    conv => whnf
    refine ⟨[C], g1.cell.1, rfl, (all1 g1.cell.2), .inl ⟨_, S.row 1 rfl, rfl, ?_⟩⟩
    conv => whnf
    intro a7 hh_a7
    replace S := S.set 1 rfl hh_a7
    dsimp only [List.set] at S
    conv => whnf
    refine .inl ⟨_, S.row 3 rfl, rfl, ?_⟩
    conv => whnf
    refine ⟨_, rfl, rfl, rfl, .inl ⟨_, S.row 1 rfl, rfl, ?_⟩⟩
    conv => whnf
    intro a8 hh_a8
    replace S := S.set 1 rfl hh_a8
    dsimp only [List.set] at S
    conv => whnf
    refine .inl ⟨_, S.row 3 rfl, rfl, ?_⟩
    conv => whnf
    refine ⟨_, rfl, rfl, rfl, .inl ⟨_, S.row 1 rfl, rfl, ?_⟩⟩
    conv => whnf
    intro a9 hh_a9
    replace S := S.set 1 rfl hh_a9
    dsimp only [List.set] at S
    conv => whnf
    refine .inl ⟨_, S.row 3 rfl, rfl, ?_⟩
    conv => whnf
    obtain ⟨K, b2, Fk, hc2, hp2, g2, n2, d2⟩ := h3.at (h := a9) (args := [.sl (keys.map i64)]) rfl rfl (fun _ => rfl) (fun _ _ => rfl)
    replace S := S.more (c := .list i64 1 keys K Fk) hp2 g2 n2 d2
    refine ⟨_, hc2, ?_⟩
    refine wpC_intro ?_
    refine forceV_intro ?_
    conv => whnf
    refine ⟨[K], g2.cell.1, rfl, (all1 g2.cell.2), .inl ⟨_, S.row 2 rfl, rfl, ?_⟩⟩
    conv => whnf
    intro a10 hh_a10
    replace S := S.set 2 rfl hh_a10
    dsimp only [List.set] at S
    conv => whnf
    refine .inl ⟨_, S.row 4 rfl, rfl, ?_⟩
    conv => whnf
    refine ⟨_, rfl, rfl, rfl, .inl ⟨_, S.row 2 rfl, rfl, ?_⟩⟩
    conv => whnf
    intro a11 hh_a11
    replace S := S.set 2 rfl hh_a11
    dsimp only [List.set] at S
    conv => whnf
    refine .inl ⟨_, S.row 4 rfl, rfl, ?_⟩
    conv => whnf
    refine ⟨_, rfl, rfl, rfl, .inl ⟨_, S.row 2 rfl, rfl, ?_⟩⟩
    conv => whnf
    intro a12 hh_a12
    replace S := S.set 2 rfl hh_a12
    dsimp only [List.set] at S
    conv => whnf
    refine .inl ⟨_, S.row 4 rfl, rfl, ?_⟩
    conv => whnf
    obtain ⟨D, b3, Fd, hc3, hp3, g3, n3, d3⟩ := h4.at (h := a12) (args := [.sl (Plan.encs kids)]) rfl rfl
    replace S := S.more (c := .kids kids D Fd) hp3 g3 n3 d3
    refine ⟨_, hc3, ?_⟩
    refine wpC_intro ?_
    refine forceV_intro ?_
    conv => whnf
    refine ⟨[D], g3.cell.1, rfl, (all1 g3.cell.2), .inl ⟨_, S.row 3 rfl, rfl, ?_⟩⟩
    conv => whnf
    intro a13 hh_a13
    replace S := S.set 3 rfl hh_a13
    dsimp only [List.set] at S
    conv => whnf
    refine .inl ⟨_, S.row 3 rfl, rfl, ?_⟩
    conv => whnf
    refine ⟨_, rfl, rfl, (pval_all g1.cell.2 g2.cell.2 g3.cell.2), .inl ⟨_, S.row 4 rfl, rfl, ?_⟩⟩
    conv => whnf
    intro a14 hh_a14
    replace S := S.set 4 rfl hh_a14
    dsimp only [List.set] at S
    conv => whnf
    refine ⟨_, fin_cell rfl rfl (S.row 4 rfl) rfl, _, _, _, rfl, OwnP.of (S.get 2 rfl) (S.get 1 rfl) (S.get 0 rfl), ?_⟩
    exact nodup_join (S.get' 2 _ rfl).2 (nodup_join (S.get' 1 _ rfl).2 (S.get' 0 _ rfl).2 (S.apart 1 0 _ _ (by omega) rfl rfl)) fun id hid hm => by
      rcases List.mem_append.1 hm with h | h
      · exact S.apart 2 1 _ _ (by omega) rfl rfl id hid h
      · exact S.apart 2 0 _ _ (by omega) rfl rfl id hid h
theorem toPlan_n (hp : Okp pr) (p : Plan) (hsm : p.small) : RetN pr 8 [p.enc] p := toPlan_n' hp _ p (Nat.le_refl _) hsm
end Go.Proofs.YtbghmemejbbhfaaGreat
/- l4Copy: the caller's own. -/
namespace Go.Proofs.YtbghmemejbbhfaaGreat
open Go Go.Am
variable {pr : Prims} (hp : Okp pr)
set_option maxRecDepth 100000
theorem elems_row {h : Heap} {k sz : Nat} {v : AVal} (hk : h[k]? = some (.arr sz [v])) : elemsA h (.own k 0 1) = some [v] := by
  simp only [elemsA, hk]
  rfl
theorem pval_elem {kind n : Int} {test : Test} {C : AVal} {a b : Int} {K : AVal} {agg col : Int} {D : AVal} (h1 : C.isCell = true) (h2 : K.isCell = true) (h3 : D.isCell = true) : [pval kind n test C a b K agg col D].all (elemOk 19) = true := by
  simp only [List.all_cons, List.all_nil, elemOk, pval_all h1 h2 h3]
  rfl
theorem nil_map {α : Type} (f : α → AVal) (xs : List α) : (([] : List AVal) ++ xs.map f).length = xs.length := by simp
theorem l4Copy_n' (hp : Okp pr) : ∀ (N : Nat) (p : Plan), SizeOf.sizeOf p ≤ N → p.small → RetN pr 33 [p.enc] p := by
  intro N
  induction N with
  | zero => intro p h; exfalso; cases p; simp at h
  | succ N ih =>
    intro p hs hsm
    obtain ⟨kind, n, test, cells, a, b, keys, agg, c, kids⟩ := p
    obtain ⟨hsc, hsk, hskids, hsks⟩ := small_split hsm
    have ih' : ∀ q ∈ kids, RetN pr 33 [q.enc] q := fun q hq => ih q (by have := List.sizeOf_lt_of_mem hq; simp at hs; omega) (hsks q hq)
    clear ih
    refine retN_of hp rfl ?_
    have S : Sepa [] [] := Sepa.nil []
    conv => whnf
    intro k1 a1 hk_k1 hh_a1
    replace S := S.alloc hk_k1 hh_a1
    conv => whnf
    intro k2 a2 hk_k2 hh_a2
    replace S := S.alloc hk_k2 hh_a2
    conv => whnf
    refine .inl ⟨_, S.row 1 rfl, rfl, ?_⟩
    conv => whnf
    intro k3 a3 hk_k3 hh_a3
    replace S := S.alloc hk_k3 hh_a3
    conv => whnf
    refine ⟨_, rfl, rfl, rfl, .inl ⟨_, S.row 0 rfl, rfl, ?_⟩⟩
    conv => whnf
    intro a4 hh_a4
    replace S := S.set 0 rfl hh_a4
    dsimp only [List.set] at S
    conv => whnf
    intro k4 a5 hk_k4 hh_a5
    replace S := S.alloc hk_k4 hh_a5
    conv => whnf
    refine .inl ⟨_, S.row 3 rfl, rfl, ?_⟩
    conv => whnf
    refine ⟨trivial, ?_⟩
    conv => whnf
    refine ⟨_, rfl, ?_, AppR_own (es := []) S (i := 0) rfl ?_ fun k5 a6 S5 => ?_⟩
    · rw [List.all_eq_true]; intro x hx; obtain ⟨y, _, rfl⟩ := List.mem_map.1 hx; rfl
    · simp [sizeLim]; omega
    rw [nil_map]
    dsimp only [List.eraseIdx, List.nil_append] at S5
    clear S
    conv => whnf
    refine ⟨_, rfl, rfl, rfl, .inl ⟨_, S5.row 1 rfl, rfl, ?_⟩⟩
    conv => whnf
    intro a7 hh_a7
    replace S5 := S5.set 1 rfl hh_a7
    dsimp only [List.set] at S5
    conv => whnf
    intro k6 a8 hk_k6 hh_a8
    replace S5 := S5.alloc hk_k6 hh_a8
    conv => whnf
    refine .inl ⟨_, S5.row 4 rfl, rfl, ?_⟩
    conv => whnf
    refine ⟨trivial, ?_⟩
    conv => whnf
    refine ⟨_, rfl, ?_, AppR_own (es := []) S5 (i := 0) rfl ?_ fun k7 a9 S => ?_⟩
    · rw [List.all_eq_true]; intro x hx; obtain ⟨y, _, rfl⟩ := List.mem_map.1 hx; rfl
    · simp [sizeLim]; omega
    rw [nil_map]
    dsimp only [List.eraseIdx, List.nil_append] at S
    clear S5
    conv => whnf
    refine ⟨_, rfl, rfl, rfl, .inl ⟨_, S.row 2 rfl, rfl, ?_⟩⟩
    conv => whnf
    intro a10 hh_a10
    replace S := S.set 2 rfl hh_a10
    dsimp only [List.set] at S
    conv => whnf
    refine ⟨_, rfl, rfl, rfl, .inl ⟨_, S.row 2 rfl, rfl, ?_⟩⟩
    conv => whnf
    intro a11 hh_a11
    replace S := S.set 2 rfl hh_a11
    dsimp only [List.set] at S
    conv => whnf
    have hL := encs_len kids
    refine loop_ruley true (fun m st => ∃ (j : Nat) (D : AVal) (F : List Nat), j + m = kids.length ∧ st.tm 1 = .ptr k1 0 0 ∧ st.tm 2 = .ptr k2 0 0 ∧ st.tm 3 = .ptr k3 0 0 ∧ st.tm 4 = i64 (j : Nat) ∧
      Sepa st.hp [.kids (kids.take j) D F, .row k7 (.arr 1 (keys.map i64)), .row k5 (.arr 4 (cells.map Cell.enc)), .row k3 (.box (pval kind n test (.own k5 0 cells.length) a b (.own k7 0 keys.length) agg c D)), .row k2 (.box zPlan), .row k1 (.box (Plan.mk kind n test cells a b keys agg c kids).enc)]) (fun m st hI => ?_) kids.length _ ⟨0, .nil, [], by simp, rfl, rfl, rfl, rfl, ?_⟩
    rotate_left
    · exact S.more (c := .kids [] .nil []) (List.prefix_refl _) (.inl ⟨rfl, rfl, rfl⟩) (by simp [Chunk.kids]) (by simp [Chunk.kids])
    obtain ⟨j, D, F, hj, e1, e2, e3, e4, S2⟩ := hI
    obtain ⟨tm, hq⟩ := st
    simp only at e1 e2 e3 e4 S2
    rw [show tm = upd (upd (upd (upd tm 1 (.ptr k1 0 0)) 2 (.ptr k2 0 0)) 3 (.ptr k3 0 0)) 4 (i64 (j : Nat)) by rw [upd_id e1, upd_id e2, upd_id e3, upd_id e4]]
    clear e1 e2 e3 e4
    clear S
    conv => whnf
    refine .inl ⟨_, S2.row 5 rfl, rfl, ?_⟩
    conv => whnf
    refine bsel_intro (fun h1 => ?_) (fun h1 => ?_)
    · have hjl : j < kids.length := by simpa [encs_len] using h1
      have hge : (Plan.encs kids)[((j : Nat) : Int).toNat]? = some (Plan.enc kids[j]) := by rw [Int.toNat_natCast, encs_get]; simp [hjl]
      have hih := ih' kids[j] (List.getElem_mem hjl)
      have htk : kids.take (j + 1) = kids.take j ++ [kids[j]] := by rw [List.take_add_one]; simp [hjl]
      generalize kids[j] = q at hge hih htk
      obtain ⟨kind', n', test', cells', a', b', keys', agg', c', kids'⟩ := q
      conv => whnf
      refine .inl ⟨_, S2.row 3 rfl, rfl, ?_⟩
      refine LoadR_intro (v := D) rfl ?_
      refine forceV_intro ?_
      conv => whnf
      refine .inl ⟨_, S2.row 5 rfl, rfl, ?_⟩
      conv => whnf
      refine ⟨_, hge, by omega, rfl, ?_⟩
      conv => whnf
      obtain ⟨v, hh, F2, hc, hpre, ho, hn, hd⟩ := hih.at (h := hq) (args := [(Plan.mk kind' n' test' cells' a' b' keys' agg' c' kids').enc]) rfl rfl
      have S3 := S2.more (c := .plan (Plan.mk kind' n' test' cells' a' b' keys' agg' c' kids') v F2) hpre ho hn hd
      rw [OwnP_mk] at ho
      obtain ⟨C, K, D1, Fc, Fk, Fd, rfl, g1, g2, g3, rfl⟩ := ho
      refine ⟨_, hc, ?_⟩
      conv => whnf
      intro k8 b1 hk_k8 hh_b1
      replace S3 := S3.alloc hk_k8 hh_b1
      conv => whnf
      refine ⟨trivial, ?_⟩
      conv => whnf
      refine ⟨[pval kind' n' test' C a' b' K agg' c' D1], elems_row (S3.row 0 rfl), pval_elem g1.cell.2 g2.cell.2 g3.cell.2, ?_⟩
      refine appendKid (S3.drop 0) (by simp [sizeLim]; omega) fun D' F' b2 S4 => ?_
      refine forceV_intro ?_
      conv => whnf
      have hD' : OwnK b2 _ D' F' := S4.get 0 rfl
      refine ⟨[D'], hD'.cell.1, rfl, (all1 hD'.cell.2), .inl ⟨_, S4.row 3 rfl, rfl, ?_⟩⟩
      conv => whnf
      intro b3 hh_b3
      replace S4 := S4.set 3 rfl hh_b3
      dsimp only [List.set] at S4
      conv => whnf
      refine ⟨m - 1, by omega, j + 1, D', F', by omega, rfl, rfl, rfl, nat_step j (by omega), ?_⟩
      rw [htk]
      exact S4
    · have hje : j = kids.length := by
        have : ¬ j < kids.length := by simpa [encs_len] using h1
        omega
      subst hje
      conv => whnf
      refine .inl ⟨_, S2.row 3 rfl, rfl, ?_⟩
      conv => whnf
      have hD : OwnK hq (kids.take kids.length) D F := S2.get 0 rfl
      rw [List.take_length] at hD
      refine ⟨_, rfl, rfl, (pval_all rfl rfl hD.cell.2), .inl ⟨_, S2.row 4 rfl, rfl, ?_⟩⟩
      conv => whnf
      intro b3 hh_b3
      replace S2 := S2.set 4 rfl hh_b3
      dsimp only [List.set] at S2
      conv => whnf
      have hD' : OwnK b3 (kids.take kids.length) D F := S2.get 0 rfl
      rw [List.take_length] at hD'
      refine ⟨_, fin_cell rfl rfl (S2.row 4 rfl) rfl, _, _, _, rfl, OwnP.of (.inr ⟨k5, rfl, S2.row 2 rfl, rfl⟩) (.inr ⟨k7, rfl, S2.row 1 rfl, rfl⟩) hD', ?_⟩
      refine nodup_join (by simp) (nodup_join (by simp) (S2.get' 0 _ rfl).2 fun id hid => S2.apart 1 0 _ _ (by omega) rfl rfl id hid) fun id hid hm => ?_
      rcases List.mem_append.1 hm with h | h
      · exact S2.apart 2 1 _ _ (by omega) rfl rfl id hid h
      · exact S2.apart 2 0 _ _ (by omega) rfl rfl id hid h
theorem l4Copy_n (hp : Okp pr) (p : Plan) (hsm : p.small) : RetN pr 33 [p.enc] p := l4Copy_n' hp _ p (Nat.le_refl _) hsm
end Go.Proofs.YtbghmemejbbhfaaGreat

/- The kinds of parts: their kids, what is theirs, how wide. -/
import Derived.Test.YtbghmemejbbhfaaGreatGPj
import Derived.Test.YtbghmemejbbhfaaGreatGC3
set_option linter.unusedVariables false
set_option linter.unusedSimpArgs false
/- The reference's SlimOnce. -/
namespace Go.Proofs.YtbghmemejbbhfaaGreat
open Go Go.Am
variable {pr : Prims} (hp : Okp pr)
set_option maxRecDepth 100000
def fit (p : Plan) : Bool := form 6 p && decide (many 6 p ≤ 10)
theorem l4Fit_r (hp : Okp pr) (p : Plan) (hsm : p.small) : Ret pr 20 [p.enc] (.bool (fit p)) := by
  have h1 := l4Form_r hp 6 p hsm (by omega)
  have h2 := l4Many_r hp 6 p hsm (by omega)
  obtain ⟨kind, n, test, cells, a, b, keys, agg, c, kids⟩ := p
  refine ret_of hp rfl rfl ?_
  iterate 5
    all_goals (try (conv => whnf))
    all_goals (first | (refine bsel_intro (fun hb => ?_) (fun hb => ?_)) | (refine ⟨_, h1 _, ?_⟩) | (refine ⟨_, h2 _, ?_⟩) | skip)
  all_goals exact fin_bool (by clear h1 h2 hsm; first | (simp_all [fit]; done) | (simp_all [fit]; omega))
mutual
def once : Plan → Bool
  | .mk kind _ _ _ _ _ _ _ _ kids =>
    if kind = 6 ∨ kind = 7 then true
    else if kind = 2 then ((onces kids)[0]?).getD false
    else if kind = 4 then ((onces kids)[0]?).getD false && ((onces kids)[1]?).getD false
    else false
def onces : List Plan → List Bool
  | [] => []
  | p :: ps => once p :: onces ps
end
theorem onces_eq (ps : List Plan) : onces ps = ps.map once := by
  induction ps with
  | nil => rfl
  | cons p ps ih => simp [onces, ih]
theorem once2 (n : Int) (test : Test) (cells : List Cell) (a b : Int) (keys : List Int) (agg c : Int) (q : Plan) : once (.mk 2 n test cells a b keys agg c [q]) = once q := by simp [once, onces]
theorem once4 (n : Int) (test : Test) (cells : List Cell) (a b : Int) (keys : List Int) (agg c : Int) (q r : Plan) : once (.mk 4 n test cells a b keys agg c [q, r]) = (once q && once r) := by simp [once, onces]
theorem form_kids {d : Nat} {p : Plan} (h : form (d + 1) p = true) : kidsN p.kind = p.kids.length ∧ clean p = true ∧ own p = true ∧ ∀ q ∈ p.kids, form d q = true := by
  simp only [form, Bool.and_eq_true, beq_iff_eq, List.all_eq_true] at h
  exact ⟨h.1, h.2.1, h.2.2.1, h.2.2.2⟩
/-- Each part has as many kids as its kind asks. -/
def okF : Nat → Plan → Bool
  | 0, _ => false
  | d + 1, p => (kidsN p.kind == (p.kids.length : Int)) && p.kids.all (okF d)
theorem okF_kids {d : Nat} {p : Plan} (h : okF (d + 1) p = true) : kidsN p.kind = p.kids.length ∧ ∀ q ∈ p.kids, okF d q = true := by
  simp only [okF, Bool.and_eq_true, beq_iff_eq, List.all_eq_true] at h
  exact h
theorem okF_mk {d : Nat} {p : Plan} (h1 : kidsN p.kind = p.kids.length) (h2 : ∀ q ∈ p.kids, okF d q = true) : okF (d + 1) p = true := by
  simp only [okF, Bool.and_eq_true, beq_iff_eq, List.all_eq_true]
  exact ⟨h1, h2⟩
theorem okF_of_form : ∀ {d : Nat} {p : Plan}, form d p = true → okF d p = true
  | 0, _, h => by cases h
  | d + 1, p, h => by
    obtain ⟨h1, _, _, h2⟩ := form_kids h
    exact okF_mk h1 fun q hq => okF_of_form (h2 q hq)
theorem okF_up : ∀ {d : Nat} {p : Plan}, okF d p = true → okF (d + 1) p = true
  | 0, _, h => by cases h
  | d + 1, p, h => by
    obtain ⟨h1, h2⟩ := okF_kids h
    exact okF_mk h1 fun q hq => okF_up (h2 q hq)
theorem l10Once_r (hp : Okp pr) : ∀ (d : Nat) (p : Plan), okF d p = true → Ret pr 21 [p.enc] (.bool (once p)) := by
  intro d
  induction d with
  | zero => intro p h; cases h
  | succ d ih =>
    intro p hf
    obtain ⟨hk, hks⟩ := okF_kids hf
    obtain ⟨kind, n, test, cells, a, b, keys, agg, c, kids⟩ := p
    simp only [Plan.kind, Plan.kids] at hk hks
    refine ret_of hp rfl rfl ?_
    rcases kind_cases kind with rfl | rfl | rfl | rfl | rfl | rfl | rfl | ⟨h1, h2, h3, h4, h5, h6, h7⟩
    · iterate 3
        all_goals (try (conv => whnf))
        all_goals (first | (refine bsel_intro (fun hb => ?_) (fun hb => ?_)) | skip)
      all_goals exact fin_bool rfl
    · match kids, hk, hks with
      | [q], _, hks =>
        have hq := ih q (hks q (by simp))
        obtain ⟨kind', n', test', cells', a', b', keys', agg', c', kids'⟩ := q
        conv => whnf
        refine ⟨_, rfl, by omega, rfl, ?_⟩
        conv => whnf
        refine ⟨_, hq _, ?_⟩
        rw [once2]
        iterate 2
          all_goals (try (conv => whnf))
          all_goals (first | (refine bsel_intro (fun hb => ?_) (fun hb => ?_)) | skip)
        all_goals exact fin_bool hb.symm
      | [], hk, _ => simp [kidsN] at hk
      | _ :: _ :: _, hk, _ => simp [kidsN] at hk; omega
    · iterate 3
        all_goals (try (conv => whnf))
        all_goals (first | (refine bsel_intro (fun hb => ?_) (fun hb => ?_)) | skip)
      all_goals exact fin_bool rfl
    · match kids, hk, hks with
      | [q, q2], _, hks =>
        have hq := ih q (hks q (by simp))
        have hq2 := ih q2 (hks q2 (by simp))
        obtain ⟨kind', n', test', cells', a', b', keys', agg', c', kids'⟩ := q
        obtain ⟨kind2, n2, test2, cells2, a2, b2, keys2, agg2, c2, kids2⟩ := q2
        rw [once4]
        conv => whnf
        refine ⟨_, rfl, by omega, rfl, ?_⟩
        conv => whnf
        refine ⟨_, hq _, ?_⟩
        conv => whnf
        refine bsel_intro (fun g1 => ?_) (fun g1 => ?_)
        · conv => whnf
          refine ⟨_, rfl, by omega, rfl, ?_⟩
          conv => whnf
          refine ⟨_, hq2 _, ?_⟩
          iterate 2
            all_goals (try (conv => whnf))
            all_goals (first | (refine bsel_intro (fun hb => ?_) (fun hb => ?_)) | skip)
          all_goals exact fin_bool (by rw [g1, hb]; rfl)
        · conv => whnf
          exact fin_bool (by rw [g1]; rfl)
      | [], hk, _ => simp [kidsN] at hk
      | [_], hk, _ => simp [kidsN] at hk
      | _ :: _ :: _ :: _, hk, _ => simp [kidsN] at hk; omega
    iterate 3
      · iterate 3
          all_goals (try (conv => whnf))
          all_goals (first | (refine bsel_intro (fun hb => ?_) (fun hb => ?_)) | skip)
        all_goals exact fin_bool rfl
    · iterate 6
        all_goals (try (conv => whnf))
        all_goals (first | (refine bsel_false h6 ?_) | (refine bsel_false h7 ?_) | (refine bsel_false h2 ?_) | (refine bsel_false h4 ?_) | (refine bsel_intro (fun hb => ?_) (fun hb => ?_)) | skip)
      all_goals exact fin_bool (by simp_all [once])
def slimOnce (p : Plan) : Bool := fit p && once p
theorem sSlimOnce_r (hp : Okp pr) (p : Plan) (hsm : p.small) : Ret pr 7 [p.enc] (.bool (slimOnce p)) := by
  have h1 := l4Fit_r hp p hsm
  have h2 : fit p = true → Ret pr 21 [p.enc] (.bool (once p)) := fun h => l10Once_r hp 6 p (okF_of_form <| by simp only [fit, Bool.and_eq_true] at h; exact h.1)
  obtain ⟨kind, n, test, cells, a, b, keys, agg, c, kids⟩ := p
  refine ret_of hp rfl rfl ?_
  conv => whnf
  refine ⟨_, h1 _, ?_⟩
  conv => whnf
  refine bsel_intro (fun g1 => ?_) (fun g1 => ?_)
  · conv => whnf
    refine ⟨_, h2 g1 _, ?_⟩
    iterate 3
      all_goals (try (conv => whnf))
      all_goals (first | (refine bsel_intro (fun hb => ?_) (fun hb => ?_)) | skip)
    all_goals exact fin_bool (by clear h1 h2 hsm; simp_all [slimOnce])
  · conv => whnf
    exact fin_bool (by simp [slimOnce, g1])
end Go.Proofs.YtbghmemejbbhfaaGreat
/- The program's tests of cells and tests. -/
namespace Go.Proofs.YtbghmemejbbhfaaGreat
open Go Go.Am
variable {pr : Prims} (hp : Okp pr)
set_option maxRecDepth 100000
theorem zero_beq (b : Int) : ((0 : Int) == b) = (b == 0) := by rw [BEq.comm]
theorem isPlace_r (hp : Okp pr) (n wide : Int) : Ret pr 124 [i64 n, i64 wide] (.bool (col n wide)) := by
  refine ret_of hp rfl rfl ?_
  have hm : ∀ n, n < (if 6 < wide then 6 else wide) ↔ (n < wide ∧ n < 6) := fun n => by split <;> omega
  iterate 4
    all_goals (try (conv => whnf))
    all_goals (first | (refine bsel_intro (fun hb => ?_) (fun hb => ?_)) | skip)
  all_goals exact fin_bool (by simp only [ge_iff_le, decide_eq_true_eq, decide_eq_false_iff_not, hm] at *; first | (simp_all [col]; done) | (simp_all [col]; omega) | (simp_all [col]; intros; omega))
theorem isCell_r (hp : Okp pr) (n : Int) : Ret pr 152 [i64 n] (.bool (isCell n)) := by
  refine ret_of hp rfl rfl ?_
  iterate 3
    all_goals (try (conv => whnf))
    all_goals (first | (refine bsel_intro (fun hb => ?_) (fun hb => ?_)) | skip)
  all_goals exact fin_bool (by first | (simp_all [isCell]; done) | (simp_all [isCell]; omega) | (simp_all [isCell]; intros; omega))
theorem wideIf_r (hp : Okp pr) (ok : Bool) (w : Int) : Ret pr 50 [.bool ok, i64 w] (i64 (if ok then w else -1)) := by
  refine ret_of hp rfl rfl ?_
  cases ok
  · conv => whnf
    exact fin_int rfl
  · conv => whnf
    exact fin_int rfl
def tCol : TypeId := 125
def tNum : TypeId := 127
def tSum : TypeId := 129
def reck (c : Cell) : AVal :=
  if c.kind = 1 then .iface tCol (.agg [i64 c.a])
  else if c.kind = 2 then .iface tNum (.agg [i64 c.n])
  else if c.kind = 3 then .iface tSum (.agg [i64 c.a, i64 c.b])
  else .nili
theorem reckoningOf_r (hp : Okp pr) (c : Cell) : Ret pr 110 [c.enc] (reck c) := by
  obtain ⟨k, a, b, n⟩ := c
  refine ret_of hp rfl rfl ?_
  rcases kind3_cases k with rfl | rfl | rfl | ⟨h1, h2, h3⟩
  iterate 3
    · conv => whnf
      exact ⟨_, _, rfl, rfl⟩
  · iterate 4
      all_goals (try (conv => whnf))
      all_goals (first | (refine bsel_false h1 ?_) | (refine bsel_false h2 ?_) | (refine bsel_false h3 ?_) | (refine bsel_intro (fun hb => ?_) (fun hb => ?_)) | skip)
    have : reck ⟨k, a, b, n⟩ = .nili := by simp_all [reck]
    rw [this]
    exact ⟨_, _, rfl, rfl⟩
theorem colCell_r (hp : Okp pr) (a : Int) : Ret pr 144 [.agg [i64 a]] (Cell.enc ⟨1, a, 0, 0⟩) := by
  refine ret_of hp rfl rfl ?_
  conv => whnf
  exact ⟨_, _, rfl, rfl⟩
theorem numCell_r (hp : Okp pr) (n : Int) : Ret pr 148 [.agg [i64 n]] (Cell.enc ⟨2, 0, 0, n⟩) := by
  refine ret_of hp rfl rfl ?_
  conv => whnf
  exact ⟨_, _, rfl, rfl⟩
theorem sumCell_r (hp : Okp pr) (a b : Int) : Ret pr 153 [.agg [i64 a, i64 b]] (Cell.enc ⟨3, a, b, 0⟩) := by
  refine ret_of hp rfl rfl ?_
  conv => whnf
  exact ⟨_, _, rfl, rfl⟩
theorem colOk_r (hp : Okp pr) (a w : Int) : Ret pr 146 [.agg [i64 a], i64 w] (.bool (col a w)) := by
  refine ret_of hp rfl rfl ?_
  iterate 3
    all_goals (try (conv => whnf))
    all_goals (first | (refine bsel_intro (fun hb => ?_) (fun hb => ?_)) | (refine ⟨_, isPlace_r hp _ _ _, ?_⟩) | skip)
  all_goals exact fin_bool hb.symm
theorem numOk_r (hp : Okp pr) (n w : Int) : Ret pr 150 [.agg [i64 n], i64 w] (.bool (isCell n)) := by
  refine ret_of hp rfl rfl ?_
  iterate 3
    all_goals (try (conv => whnf))
    all_goals (first | (refine bsel_intro (fun hb => ?_) (fun hb => ?_)) | (refine ⟨_, isCell_r hp _ _, ?_⟩) | skip)
  all_goals exact fin_bool hb.symm
theorem sumOk_r (hp : Okp pr) (a b w : Int) : Ret pr 155 [.agg [i64 a, i64 b], i64 w] (.bool (col a w && col b w)) := by
  refine ret_of hp rfl rfl ?_
  iterate 5
    all_goals (try (conv => whnf))
    all_goals (first | (refine bsel_intro (fun hb => ?_) (fun hb => ?_)) | (refine ⟨_, isPlace_r hp _ _ _, ?_⟩) | skip)
  all_goals exact fin_bool (by simp_all)
theorem iCellOk_r (hp : Okp pr) (c : Cell) (w : Int) : Ret pr 109 [c.enc, i64 w] (.bool (cellOk c w)) := by
  have h0 := reckoningOf_r hp c
  obtain ⟨k, a, b, n⟩ := c
  refine ret_of hp rfl rfl ?_
  rcases kind3_cases k with rfl | rfl | rfl | ⟨h1, h2, h3⟩
  iterate 3
    · iterate 8
        all_goals (try (conv => whnf))
        all_goals (first | (refine bsel_intro (fun hb => ?_) (fun hb => ?_)) | (refine ⟨_, h0 _, ?_⟩) | (refine ⟨_, colCell_r hp _ _, ?_⟩) | (refine ⟨_, numCell_r hp _ _, ?_⟩) | (refine ⟨_, sumCell_r hp _ _ _, ?_⟩) | (refine ⟨_, colOk_r hp _ _ _, ?_⟩) | (refine ⟨_, numOk_r hp _ _ _, ?_⟩) | (refine ⟨_, sumOk_r hp _ _ _ _, ?_⟩) | (refine ⟨_, _, eqS_cell, rfl, ?_⟩) | skip)
      all_goals exact fin_bool (by clear h0; (try simp only [zero_beq] at *); first | (simp_all [cellOk]; done) | (simp_all [cellOk]; omega))
  · have hr : reck ⟨k, a, b, n⟩ = .nili := by simp_all [reck]
    rw [hr] at h0
    conv => whnf
    refine ⟨_, h0 _, ?_⟩
    conv => whnf
    exact fin_bool (by clear h0; simp_all [cellOk])
theorem iTestOk_r (hp : Okp pr) (t : Test) (wide : Int) : Ret pr 108 [t.enc, i64 wide] (.bool (testOk t wide)) := by
  obtain ⟨k, no, l, r⟩ := t
  refine ret_of hp rfl rfl ?_
  iterate 10
    all_goals (try (conv => whnf))
    all_goals (first | (refine bsel_intro (fun hb => ?_) (fun hb => ?_)) | (refine ⟨_, iCellOk_r hp l _ _, ?_⟩) | (refine ⟨_, iCellOk_r hp r _ _, ?_⟩) | skip)
  all_goals exact fin_bool (by first | (simp_all [testOk]; done) | (simp_all [testOk]; omega) | (simp_all [testOk]; intros; omega))
end Go.Proofs.YtbghmemejbbhfaaGreat
/- The program's looks at lists. -/
namespace Go.Am
open Go
theorem snap_scalar {h : Heap} {n : Nat} {v r : AVal} (hs : snapF h n v = some r) (hr : r.isScalar = true) : v = r := by
  cases n with
  | zero => cases hs
  | succ n =>
    cases v <;> (try simp only [snapF] at hs)
    case map id =>
      split at hs
      · split at hs
        · cases hs; cases hr
        · cases hs
      · cases hs
    case own id st len =>
      split at hs
      · split at hs
        · simp only [Option.map_eq_some_iff] at hs; obtain ⟨_, _, rfl⟩ := hs; cases hr
        · cases hs
      · cases hs
    case ptr id i off =>
      split at hs
      · split at hs
        · simp only [Option.map_eq_some_iff] at hs; obtain ⟨_, _, rfl⟩ := hs; cases hr
        · cases hs
      · simp only [Option.map_eq_some_iff] at hs; obtain ⟨_, _, rfl⟩ := hs; cases hr
      · cases hs
    case func fn a b =>
      split at hs
      · cases hs; cases hr
      · cases hs
    case agg cs => simp only [Option.map_eq_some_iff] at hs; obtain ⟨_, _, rfl⟩ := hs; cases hr
    case tup cs => simp only [Option.map_eq_some_iff] at hs; obtain ⟨_, _, rfl⟩ := hs; cases hr
    case iface t v => simp only [Option.map_eq_some_iff] at hs; obtain ⟨_, _, rfl⟩ := hs; cases hr
    all_goals (first | (cases hs; done) | (cases hs; rfl) | (cases hs; cases hr))
end Go.Am
namespace Go.Proofs.YtbghmemejbbhfaaGreat
open Go Go.Am
theorem Ret.some {pr : Prims} {f : FuncId} {args : List AVal} {res : AVal} (hr : Ret pr f args res) (hi : snapL [] args = some args) (hM : modes f = Am.Mode.P := by rfl) : ∃ v h1, call (cfp pr) f args [] = some (.ret v h1) ∧ snap h1 v = some res := by
  have h0 := hr []
  have hm : (cfp pr).M f = .P := hM
  unfold callM at h0
  simp only [hm, hi] at h0
  cases hc : call (cfp pr) f args [] with
  | none => rw [hc] at h0; cases h0
  | some q =>
    rw [hc] at h0
    cases q with
    | ret v h1 =>
      simp only [Option.map_eq_some_iff] at h0
      obtain ⟨w, hw, he⟩ := h0
      cases he
      exact ⟨v, h1, rfl, hw⟩
    | pan v h1 =>
      simp only [Option.map_eq_some_iff] at h0
      obtain ⟨w, hw, he⟩ := h0
      cases he
/-- Arguments that become closed by freezing alone. -/
theorem Ret.snapped {pr : Prims} {f : FuncId} {args args' : List AVal} {res : AVal} (hr : Ret pr f args' res) (hs : snapL [] args = Option.some args') (hi : snapL [] args' = Option.some args') (hM : modes f = Am.Mode.P := by rfl) : Ret pr f args res := by
  obtain ⟨v, h1, hc, hv⟩ := hr.some hi hM
  intro h
  have hm : (cfp pr).M f = .P := hM
  unfold callM
  simp only [hm, hs, hc, hv, Option.map_some]
/-- Arguments that lie in the caller's heap; the result is a plain one. -/
theorem Ret.frozen {pr : Prims} {f : FuncId} {args args' : List AVal} {res : AVal} {h : Heap} (hr : Ret pr f args' res) (hn : snapL [] args = Option.none) (hs : snapL h args = Option.some args') (hi : snapL [] args' = Option.some args') (hres : res.isScalar = true) (hM : modes f = Am.Mode.P := by rfl) :
    callM (cfp pr) (call (cfp pr)) f args h = Option.some (.ret res h) := by
  obtain ⟨v, h1, hc, hv⟩ := hr.some hi hM
  obtain rfl := snap_scalar hv hres
  have hm : (cfp pr).M f = .P := hM
  have hsc : v.scal = true := by cases v <;> first | exact hres | cases hres
  unfold callM
  simp only [hm, hn, hs, hc, hsc, if_true]
variable {pr : Prims} (hp : Okp pr)
set_option maxRecDepth 100000
def idxI (v : Int) (k : Int) : List Int → Int
  | [] => -1
  | x :: xs => if v == x then k else idxI v (k + 1) xs
theorem idxI_iff (v : Int) : ∀ (xs : List Int) (k : Int), 0 ≤ k → (idxI v k xs ≥ 0 ↔ xs.contains v = true)
  | [], k, _ => by simp [idxI]
  | x :: xs, k, hk => by
    have ih := idxI_iff v xs (k + 1) (by omega)
    rw [List.contains_cons]
    unfold idxI
    by_cases h : (v == x) = true
    · rw [if_pos h]; simp [h]; exact hk
    · rw [if_neg h]; simp only [Bool.eq_false_iff.2 h, Bool.false_or]; exact ih
theorem idxI_ge (v : Int) (xs : List Int) (k : Int) (hk : 0 ≤ k) : decide (idxI v k xs ≥ 0) = xs.contains v := by
  rw [Bool.eq_iff_iff, decide_eq_true_iff]
  exact idxI_iff v xs k hk
theorem index_r (hp : Okp pr) (xs : List Int) (v : Int) (hl : xs.length ≤ 1048576) : Ret pr 142 [.sl (xs.map i64), i64 v] (i64 (idxI v 0 xs)) := by
  refine ret_of hp rfl rfl ?_
  conv => whnf
  refine loop_rule (fun m st => ∃ j : Nat, j + m = xs.length ∧ st.tm 0 = .sl (xs.map i64) ∧ st.tm 1 = i64 v ∧ st.tm 7 = i64 ((xs.map i64).length : Nat) ∧ st.tm 8 = i64 (j : Nat) ∧ st.hp = [] ∧ idxI v 0 xs = idxI v (j : Nat) (xs.drop j)) (fun m st hI => ?_) (xs.length) _ ⟨0, by simp, (by first | kernel_rfl | rfl | simp), (by first | kernel_rfl | rfl | simp), (by first | kernel_rfl | rfl | simp), (by first | kernel_rfl | rfl | simp), (by first | kernel_rfl | rfl | simp), (by first | rfl | simp)⟩
  obtain ⟨j, hj, e0, e1, e7, e8, hh, hall⟩ := hI
  obtain ⟨tm, hq⟩ := st
  simp only at e0 e1 e7 e8 hh
  subst hh
  rw [show tm = upd (upd (upd (upd tm 0 (.sl (xs.map i64))) 1 (i64 v)) 7 (i64 ((xs.map i64).length : Nat))) 8 (i64 (j : Nat)) by rw [upd_id e0, upd_id e1, upd_id e7, upd_id e8]]
  clear e0 e1 e7 e8
  conv => whnf
  refine bsel_intro (fun h1 => ?_) (fun h1 => ?_)
  · have hjl : j < xs.length := by simpa using h1
    rw [List.drop_eq_getElem_cons hjl] at hall
    simp only [idxI] at hall
    conv => whnf
    refine ⟨i64 xs[j], by simp [hjl], by omega, rfl, ?_⟩
    conv => whnf
    refine bsel_intro (fun h2 => ?_) (fun h2 => ?_)
    · conv => whnf
      exact fin_int (by rw [hall, h2]; rfl)
    · conv => whnf
      exact ⟨m - 1, by omega, j + 1, by omega, rfl, rfl, rfl, nat_step j (by omega), rfl, by rw [hall, h2]; rfl⟩
  · have hjl : j = xs.length := by have : ¬ j < xs.length := by simpa using h1
                                   omega
    subst hjl
    rw [List.drop_length] at hall
    conv => whnf
    exact fin_int (by rw [hall]; rfl)
theorem contains_r (hp : Okp pr) (xs : List Int) (v : Int) (hl : xs.length ≤ 1048576) : Ret pr 141 [.sl (xs.map i64), i64 v] (.bool (xs.contains v)) := by
  refine ret_of hp rfl rfl ?_
  rw [← idxI_ge v xs 0 (Int.le_refl 0)]
  iterate 3
    all_goals (try (conv => whnf))
    all_goals (first | (refine bsel_intro (fun hb => ?_) (fun hb => ?_)) | (refine ⟨_, index_r hp xs v hl _, ?_⟩) | skip)
  all_goals exact fin_bool hb.symm
theorem iKeysOk_r (hp : Okp pr) (xs : List Int) (wide : Int) (hl : xs.length ≤ 1048576) : Ret pr 140 [.sl (xs.map i64), i64 wide] (.bool (keysOk xs wide)) := by
  refine ret_of hp rfl rfl ?_
  conv => whnf
  refine bsel_intro (fun h0 => ?_) (fun h0 => ?_)
  · have hge : ¬ xs.length < 6 := by
      have : ((xs.map i64).length : Int) ≥ 6 := by simpa using h0
      simp at this
      omega
    conv => whnf
    exact fin_bool (by simp [keysOk, hge])
  have hlt : xs.length < 6 := by
    have : ¬ ((xs.map i64).length : Int) ≥ 6 := by simpa using h0
    simp at this
    omega
  have hko : keysOk xs wide = keysGo [] wide xs := by simp [keysOk, hlt]
  rw [hko]
  conv => whnf
  refine loop_rule (fun m st => ∃ j : Nat, j + m = xs.length ∧ st.tm 0 = .sl (xs.map i64) ∧ st.tm 1 = i64 wide ∧ st.tm 10 = .sl (xs.map i64) ∧ st.tm 11 = i64 ((xs.map i64).length : Nat) ∧ st.tm 12 = i64 (j : Nat) ∧ st.hp = [] ∧ keysGo [] wide xs = keysGo (xs.take j) wide (xs.drop j)) (fun m st hI => ?_) (xs.length) _ ⟨0, by simp, (by first | kernel_rfl | rfl | simp), (by first | kernel_rfl | rfl | simp), (by first | kernel_rfl | rfl | simp), (by first | kernel_rfl | rfl | simp), (by first | kernel_rfl | rfl | simp), (by first | kernel_rfl | rfl | simp), (by first | rfl | simp)⟩
  obtain ⟨j, hj, e0, e1, e10, e11, e12, hh, hall⟩ := hI
  obtain ⟨tm, hq⟩ := st
  simp only at e0 e1 e10 e11 e12 hh
  subst hh
  rw [show tm = upd (upd (upd (upd (upd tm 0 (.sl (xs.map i64))) 1 (i64 wide)) 10 (.sl (xs.map i64))) 11 (i64 ((xs.map i64).length : Nat))) 12 (i64 (j : Nat)) by rw [upd_id e0, upd_id e1, upd_id e10, upd_id e11, upd_id e12]]
  clear e0 e1 e10 e11 e12
  conv => whnf
  refine bsel_intro (fun h1 => ?_) (fun h1 => ?_)
  · have hjl : j < xs.length := by simpa using h1
    rw [List.drop_eq_getElem_cons hjl] at hall
    simp only [keysGo] at hall
    conv => whnf
    refine ⟨i64 xs[j], by simp [hjl], by omega, rfl, ?_⟩
    conv => whnf
    refine ⟨_, isPlace_r hp xs[j] wide _, ?_⟩
    conv => whnf
    refine bsel_intro (fun h2 => ?_) (fun h2 => ?_)
    · rw [h2, Bool.true_and] at hall
      conv => whnf
      refine ⟨⟨Int.le_refl 0, by show (0 : Int) ≤ ((j : Nat) : Int); omega, by show ((j : Nat) : Int) ≤ _; simp; omega, List.all_eq_true.2 fun y hy => ?_⟩, ?_⟩
      · obtain ⟨z, _, rfl⟩ := List.mem_map.1 hy
        rfl
      have htk : (AVal.sl (((xs.map i64).drop (0 : Int).toNat).take (((j : Nat) : Int).toNat - (0 : Int).toNat))) = .sl ((xs.take j).map i64) := by
        rw [Int.toNat_natCast]
        show AVal.sl (((xs.map i64).drop 0).take (j - 0)) = _
        rw [List.drop_zero, Nat.sub_zero, List.map_take]
      have hct : Ret pr 141 [AVal.sl (((xs.map i64).drop (0 : Int).toNat).take (((j : Nat) : Int).toNat - (0 : Int).toNat)), i64 xs[j]] (.bool ((xs.take j).contains xs[j])) := by
        rw [htk]
        exact contains_r hp (xs.take j) xs[j] (by simp; omega)
      conv => whnf
      refine ⟨_, hct _, ?_⟩
      conv => whnf
      refine bsel_intro (fun h3 => ?_) (fun h3 => ?_)
      · conv => whnf
        exact fin_bool (by rw [hall, h3]; rfl)
      · conv => whnf
        refine ⟨m - 1, by omega, j + 1, by omega, rfl, rfl, rfl, rfl, nat_step j (by omega), rfl, ?_⟩
        have htk2 : xs.take (j + 1) = xs.take j ++ [xs[j]] := (List.take_append_getElem hjl).symm
        rw [hall, h3, htk2]
        rfl
    · conv => whnf
      exact fin_bool (by rw [hall, h2]; rfl)
  · have hjl : j = xs.length := by have : ¬ j < xs.length := by simpa using h1
                                   omega
    subst hjl
    rw [List.drop_length] at hall
    conv => whnf
    exact fin_bool (by rw [hall]; rfl)
/-- The closure that asks of a cell whether it is not ok. -/
def cellF (ws : List Int) : AVal := .func (.func 117) [] [.iptr [.sl (ws.map i64)] 0 0]
theorem cellF_r (hp : Okp pr) (c : Cell) (w : Int) (ws : List Int) : Ret pr 117 [c.enc, .iptr [.sl ((w :: ws).map i64)] 0 0] (.bool (!cellOk c w)) := by
  have h := iCellOk_r hp c w
  obtain ⟨k, a, b, n⟩ := c
  refine ret_of hp rfl rfl ?_
  conv => whnf
  refine ⟨i64 w, rfl, by omega, rfl, ?_⟩
  iterate 3
    all_goals (try (conv => whnf))
    all_goals (first | (refine bsel_intro (fun hb => ?_) (fun hb => ?_)) | (refine ⟨_, h _, ?_⟩) | skip)
  all_goals exact fin_bool (by rw [hb])
def idxC (w : Int) (k : Int) : List Cell → Int
  | [] => -1
  | c :: cs => if !cellOk c w then k else idxC w (k + 1) cs
theorem idxC_iff (w : Int) : ∀ (xs : List Cell) (k : Int), 0 ≤ k → (idxC w k xs ≥ 0 ↔ (!xs.all (fun c => cellOk c w)) = true)
  | [], k, _ => by simp [idxC]
  | x :: xs, k, hk => by
    have ih := idxC_iff w xs (k + 1) (by omega)
    rw [List.all_cons]
    unfold idxC
    by_cases h : cellOk x w = true
    · rw [if_neg (by simp [h])]; simp only [h, Bool.true_and]; exact ih
    · rw [if_pos (by simp [h])]; simp only [Bool.eq_false_iff.2 h, Bool.false_and, Bool.not_false, iff_true]; exact hk
theorem idxC_ge (w : Int) (xs : List Cell) (k : Int) (hk : 0 ≤ k) : decide (idxC w k xs ≥ 0) = !xs.all (fun c => cellOk c w) := by
  rw [Bool.eq_iff_iff, decide_eq_true_iff]
  exact idxC_iff w xs k hk
theorem indexFunc_r (hp : Okp pr) (xs : List Cell) (w : Int) (ws : List Int) (hl : xs.length ≤ 1048576) : Ret pr 118 [.sl (xs.map Cell.enc), cellF (w :: ws)] (i64 (idxC w 0 xs)) := by
  refine ret_of hp rfl rfl ?_
  conv => whnf
  refine loop_rule (fun m st => ∃ j : Nat, j + m = xs.length ∧ st.tm 0 = .sl (xs.map Cell.enc) ∧ st.tm 1 = cellF (w :: ws) ∧ st.tm 7 = i64 ((xs.map Cell.enc).length : Nat) ∧ st.tm 8 = i64 (j : Nat) ∧ st.hp = [] ∧ idxC w 0 xs = idxC w (j : Nat) (xs.drop j)) (fun m st hI => ?_) (xs.length) _ ⟨0, by simp, (by first | kernel_rfl | rfl | simp), (by first | kernel_rfl | rfl | simp), (by first | kernel_rfl | rfl | simp), (by first | kernel_rfl | rfl | simp), (by first | kernel_rfl | rfl | simp), (by first | rfl | simp)⟩
  obtain ⟨j, hj, e0, e1, e7, e8, hh, hall⟩ := hI
  obtain ⟨tm, hq⟩ := st
  simp only at e0 e1 e7 e8 hh
  subst hh
  rw [show tm = upd (upd (upd (upd tm 0 (.sl (xs.map Cell.enc))) 1 (cellF (w :: ws))) 7 (i64 ((xs.map Cell.enc).length : Nat))) 8 (i64 (j : Nat)) by rw [upd_id e0, upd_id e1, upd_id e7, upd_id e8]]
  clear e0 e1 e7 e8
  conv => whnf
  refine bsel_intro (fun h1 => ?_) (fun h1 => ?_)
  · have hjl : j < xs.length := by simpa using h1
    rw [List.drop_eq_getElem_cons hjl] at hall
    simp only [idxC] at hall
    conv => whnf
    refine ⟨(xs[j]).enc, by simp [hjl], by omega, rfl, ?_⟩
    conv => whnf
    refine ⟨_, cellF_r hp xs[j] w ws _, ?_⟩
    conv => whnf
    refine bsel_intro (fun h2 => ?_) (fun h2 => ?_)
    · conv => whnf
      exact fin_int (by rw [hall, h2]; rfl)
    · conv => whnf
      exact ⟨m - 1, by omega, j + 1, by omega, rfl, rfl, rfl, nat_step j (by omega), rfl, by rw [hall, h2]; rfl⟩
  · have hjl : j = xs.length := by have : ¬ j < xs.length := by simpa using h1
                                   omega
    subst hjl
    rw [List.drop_length] at hall
    conv => whnf
    exact fin_int (by rw [hall]; rfl)
theorem containsFunc_r (hp : Okp pr) (xs : List Cell) (w : Int) (ws : List Int) (hl : xs.length ≤ 1048576) : Ret pr 116 [.sl (xs.map Cell.enc), cellF (w :: ws)] (.bool (!xs.all (fun c => cellOk c w))) := by
  refine ret_of hp rfl rfl ?_
  rw [← idxC_ge w xs 0 (Int.le_refl 0)]
  iterate 3
    all_goals (try (conv => whnf))
    all_goals (first | (refine bsel_intro (fun hb => ?_) (fun hb => ?_)) | (refine ⟨_, indexFunc_r hp xs w ws hl _, ?_⟩) | skip)
  all_goals exact fin_bool hb.symm
end Go.Proofs.YtbghmemejbbhfaaGreat
/- Equality of lists and plans. -/
namespace Go.Proofs.YtbghmemejbbhfaaGreat
open Go Go.Am
def listEq {α β : Type} (f : α → β → Bool) : List α → List β → Bool
  | [], [] => true
  | a :: us, b :: vs => f a b && listEq f us vs
  | _, _ => false
theorem listEq_len {α β : Type} {f : α → β → Bool} : ∀ {us : List α} {vs : List β}, listEq f us vs = true → us.length = vs.length
  | [], [], _ => rfl
  | a :: us, b :: vs, h => by
    simp only [listEq, Bool.and_eq_true] at h
    simp [listEq_len h.2]
  | [], _ :: _, h => by cases h
  | _ :: _, [], h => by cases h
theorem listEq_ne {α β : Type} {f : α → β → Bool} {us : List α} {vs : List β} (h : us.length ≠ vs.length) : listEq f us vs = false := by
  cases hq : listEq f us vs with
  | false => rfl
  | true => exact absurd (listEq_len hq) h
theorem listEq_step {α β : Type} {f : α → β → Bool} {us : List α} {vs : List β} {j : Nat} (ha : j < us.length) (hb : j < vs.length) : listEq f (us.drop j) (vs.drop j) = (f us[j] vs[j] && listEq f (us.drop (j + 1)) (vs.drop (j + 1))) := by
  rw [List.drop_eq_getElem_cons ha, List.drop_eq_getElem_cons hb]
  rfl
theorem listEq_end {α β : Type} {f : α → β → Bool} {us : List α} {vs : List β} (h : us.length = vs.length) : listEq f (us.drop us.length) (vs.drop us.length) = true := by
  rw [List.drop_length, h, List.drop_length]
  rfl
variable {pr : Prims} (hp : Okp pr)
set_option maxRecDepth 100000
theorem eqInts_r (hp : Okp pr) (xs ys : List Int) (hl : xs.length ≤ 1048576) : Ret pr 80 [.sl (xs.map i64), .sl (ys.map i64)] (.bool (listEq (· == ·) xs ys)) := by
  refine ret_of hp rfl rfl ?_
  conv => whnf
  refine bsel_intro (fun h0 => ?_) (fun h0 => ?_)
  · conv => whnf
    exact fin_bool (listEq_ne (by simp at h0; omega)).symm
  have hlen : xs.length = ys.length := by simp at h0; omega
  conv => whnf
  refine loop_rule (fun m st => ∃ j : Nat, j + m = xs.length ∧ st.tm 0 = .sl (xs.map i64) ∧ st.tm 1 = .sl (ys.map i64) ∧ st.tm 12 = i64 ((xs.map i64).length : Nat) ∧ st.tm 13 = i64 (j : Nat) ∧ st.hp = [] ∧ listEq (· == ·) xs ys = listEq (· == ·) (xs.drop j) (ys.drop j)) (fun m st hI => ?_) (xs.length) _ ⟨0, by simp, (by first | kernel_rfl | rfl | simp), (by first | kernel_rfl | rfl | simp), (by first | kernel_rfl | rfl | simp), (by first | kernel_rfl | rfl | simp), (by first | kernel_rfl | rfl | simp), (by first | rfl | simp)⟩
  obtain ⟨j, hj, e0, e1, e12, e13, hh, hall⟩ := hI
  obtain ⟨tm, hq⟩ := st
  simp only at e0 e1 e12 e13 hh
  subst hh
  rw [show tm = upd (upd (upd (upd tm 0 (.sl (xs.map i64))) 1 (.sl (ys.map i64))) 12 (i64 ((xs.map i64).length : Nat))) 13 (i64 (j : Nat)) by rw [upd_id e0, upd_id e1, upd_id e12, upd_id e13]]
  clear e0 e1 e12 e13
  conv => whnf
  refine bsel_intro (fun h1 => ?_) (fun h1 => ?_)
  · have hjl : j < xs.length := by simpa using h1
    rw [listEq_step hjl (by omega)] at hall
    conv => whnf
    refine ⟨i64 xs[j], by simp [hjl], by omega, rfl, ?_⟩
    conv => whnf
    refine ⟨i64 ys[j], by simp [show j < ys.length by omega], by omega, rfl, ?_⟩
    conv => whnf
    refine bsel_intro (fun h2 => ?_) (fun h2 => ?_)
    · have h3 : (xs[j] == ys[j]) = false := by simpa using h2
      conv => whnf
      exact fin_bool (by rw [hall, h3]; rfl)
    · have h3 : (xs[j] == ys[j]) = true := by simpa using h2
      conv => whnf
      exact ⟨m - 1, by omega, j + 1, by omega, rfl, rfl, rfl, nat_step j (by omega), rfl, by rw [hall, h3]; rfl⟩
  · have hjl : j = xs.length := by have : ¬ j < xs.length := by simpa using h1
                                   omega
    subst hjl
    rw [listEq_end hlen] at hall
    conv => whnf
    exact fin_bool hall.symm
def cellEq (c d : Cell) : Bool := c.kind == d.kind && (c.a == d.a && (c.b == d.b && (c.n == d.n && true)))
theorem eqCells_r (hp : Okp pr) (xs ys : List Cell) (hl : xs.length ≤ 1048576) : Ret pr 79 [.sl (xs.map Cell.enc), .sl (ys.map Cell.enc)] (.bool (listEq cellEq xs ys)) := by
  refine ret_of hp rfl rfl ?_
  conv => whnf
  refine bsel_intro (fun h0 => ?_) (fun h0 => ?_)
  · conv => whnf
    exact fin_bool (listEq_ne (by simp at h0; omega)).symm
  have hlen : xs.length = ys.length := by simp at h0; omega
  conv => whnf
  refine loop_rule (fun m st => ∃ j : Nat, j + m = xs.length ∧ st.tm 0 = .sl (xs.map Cell.enc) ∧ st.tm 1 = .sl (ys.map Cell.enc) ∧ st.tm 12 = i64 ((xs.map Cell.enc).length : Nat) ∧ st.tm 13 = i64 (j : Nat) ∧ st.hp = [] ∧ listEq cellEq xs ys = listEq cellEq (xs.drop j) (ys.drop j)) (fun m st hI => ?_) (xs.length) _ ⟨0, by simp, (by first | kernel_rfl | rfl | simp), (by first | kernel_rfl | rfl | simp), (by first | kernel_rfl | rfl | simp), (by first | kernel_rfl | rfl | simp), (by first | kernel_rfl | rfl | simp), (by first | rfl | simp)⟩
  obtain ⟨j, hj, e0, e1, e12, e13, hh, hall⟩ := hI
  obtain ⟨tm, hq⟩ := st
  simp only at e0 e1 e12 e13 hh
  subst hh
  rw [show tm = upd (upd (upd (upd tm 0 (.sl (xs.map Cell.enc))) 1 (.sl (ys.map Cell.enc))) 12 (i64 ((xs.map Cell.enc).length : Nat))) 13 (i64 (j : Nat)) by rw [upd_id e0, upd_id e1, upd_id e12, upd_id e13]]
  clear e0 e1 e12 e13
  conv => whnf
  refine bsel_intro (fun h1 => ?_) (fun h1 => ?_)
  · have hjl : j < xs.length := by simpa using h1
    rw [listEq_step hjl (by omega)] at hall
    conv => whnf
    refine ⟨(xs[j]).enc, by simp [hjl], by omega, rfl, ?_⟩
    conv => whnf
    refine ⟨(ys[j]).enc, by simp [show j < ys.length by omega], by omega, rfl, ?_⟩
    conv => whnf
    refine ⟨_, cellEq xs[j] ys[j], eqS_cell, rfl, ?_⟩
    refine bsel_intro (fun h2 => ?_) (fun h2 => ?_)
    · conv => whnf
      exact ⟨m - 1, by omega, j + 1, by omega, rfl, rfl, rfl, nat_step j (by omega), rfl, by rw [hall, h2]; rfl⟩
    · conv => whnf
      exact fin_bool (by rw [hall, h2]; rfl)
  · have hjl : j = xs.length := by have : ¬ j < xs.length := by simpa using h1
                                   omega
    subst hjl
    rw [listEq_end hlen] at hall
    conv => whnf
    exact fin_bool hall.symm
def testEq (s t : Test) : Bool := s.kind == t.kind && (s.no == t.no && (s.l.kind == t.l.kind && (s.l.a == t.l.a && (s.l.b == t.l.b && (s.l.n == t.l.n && (s.r.kind == t.r.kind && (s.r.a == t.r.a && (s.r.b == t.r.b && (s.r.n == t.r.n && true)))))))))
mutual
def planEq : Plan → Plan → Bool
  | .mk kind n test cells a b keys agg c kids, q => (kind == q.kind && (n == q.n && (testEq test q.test && (a == q.a && (b == q.b && (agg == q.agg && c == q.col)))))) && (listEq cellEq cells q.cells && (listEq (· == ·) keys q.keys && planEqs kids q.kids))
def planEqs : List Plan → List Plan → Bool
  | [], [] => true
  | p :: ps, q :: qs => planEq p q && planEqs ps qs
  | _, _ => false
end
theorem planEqs_eq : ∀ (ps qs : List Plan), planEqs ps qs = listEq planEq ps qs
  | [], [] => rfl
  | p :: ps, q :: qs => by simp only [planEqs, listEq, planEqs_eq ps qs]
  | [], _ :: _ => rfl
  | _ :: _, [] => rfl
def sameF : AVal := .func (.func 73) [] []
theorem equalFunc_r (hp : Okp pr) (xs ys : List Plan) (hl : xs.length ≤ 1048576) (ih : ∀ p ∈ xs, ∀ q, Ret pr 73 [p.enc, q.enc] (.bool (planEq p q))) :
    Ret pr 81 [.sl (Plan.encs xs), .sl (Plan.encs ys), sameF] (.bool (planEqs xs ys)) := by
  rw [planEqs_eq]
  have hx := encs_len xs
  have hy := encs_len ys
  refine ret_of hp rfl rfl ?_
  conv => whnf
  refine bsel_intro (fun h0 => ?_) (fun h0 => ?_)
  · conv => whnf
    exact fin_bool (listEq_ne (by simp at h0; omega)).symm
  have hlen : xs.length = ys.length := by simp at h0; omega
  conv => whnf
  refine loop_ruley true (fun m st => ∃ j : Nat, j + m = xs.length ∧ st.tm 0 = .sl (Plan.encs xs) ∧ st.tm 1 = .sl (Plan.encs ys) ∧ st.tm 2 = sameF ∧ st.tm 15 = .sl (Plan.encs xs) ∧ st.tm 16 = i64 ((Plan.encs xs).length : Nat) ∧ st.tm 17 = i64 (j : Nat) ∧ listEq planEq xs ys = listEq planEq (xs.drop j) (ys.drop j)) (fun m st hI => ?_) xs.length _ ⟨0, by simp, rfl, rfl, rfl, rfl, rfl, rfl, rfl⟩
  obtain ⟨j, hj, e0, e1, e2, e15, e16, e17, hall⟩ := hI
  obtain ⟨tm, hq⟩ := st
  simp only at e0 e1 e2 e15 e16 e17
  rw [show tm = upd (upd (upd (upd (upd (upd tm 0 (.sl (Plan.encs xs))) 1 (.sl (Plan.encs ys))) 2 sameF) 15 (.sl (Plan.encs xs))) 16 (i64 ((Plan.encs xs).length : Nat))) 17 (i64 (j : Nat)) by rw [upd_id e0, upd_id e1, upd_id e2, upd_id e15, upd_id e16, upd_id e17]]
  clear e0 e1 e2 e15 e16 e17
  conv => whnf
  refine bsel_intro (fun h1 => ?_) (fun h1 => ?_)
  · have hjl : j < xs.length := by have : j < (Plan.encs xs).length := by simpa using h1
                                   omega
    have hjm : j < ys.length := by omega
    rw [listEq_step hjl hjm] at hall
    have hih := ih xs[j] (List.getElem_mem hjl) ys[j]
    have g1 : (Plan.encs xs)[((j : Nat) : Int).toNat]? = some xs[j].enc := by rw [Int.toNat_natCast, encs_get, List.getElem?_eq_getElem hjl]; rfl
    have g2 : (Plan.encs ys)[((j : Nat) : Int).toNat]? = some ys[j].enc := by rw [Int.toNat_natCast, encs_get, List.getElem?_eq_getElem hjm]; rfl
    generalize xs[j] = p at hih hall g1
    generalize ys[j] = q at hih hall g2
    obtain ⟨kind, n, test, cells, a, b, keys, agg, c, kids⟩ := p
    obtain ⟨kind', n', test', cells', a', b', keys', agg', c', kids'⟩ := q
    conv => whnf
    refine ⟨_, g1, by omega, rfl, ?_⟩
    conv => whnf
    intro k1 q1 hk1 hq1
    conv => whnf
    refine ⟨_, rfl, rfl, rfl, .inl ⟨_, get_new hk1 hq1, rfl, ?_⟩⟩
    conv => whnf
    intro q2 hq2
    conv => whnf
    refine ⟨_, g2, by omega, rfl, ?_⟩
    conv => whnf
    intro k3 q3 hk3 hq3
    conv => whnf
    refine ⟨_, rfl, rfl, rfl, .inl ⟨_, get_new hk3 hq3, rfl, ?_⟩⟩
    conv => whnf
    intro q4 hq4
    have n13 : k3 ≠ k1 := by
      have a1 := get_lt (get_same hq2 (get_new hk1 hq1))
      omega
    conv => whnf
    refine .inl ⟨_, get_ne hq4 (get_old hq3 (get_same hq2 (get_new hk1 hq1))) n13, rfl, ?_⟩
    conv => whnf
    refine .inl ⟨_, get_same hq4 (get_new hk3 hq3), rfl, ?_⟩
    conv => whnf
    refine ⟨_, hih _, ?_⟩
    conv => whnf
    refine bsel_intro (fun h2 => ?_) (fun h2 => ?_)
    · conv => whnf
      exact ⟨m - 1, by omega, j + 1, by omega, rfl, rfl, rfl, rfl, rfl, nat_step j (by omega), by rw [hall, h2]; rfl⟩
    · conv => whnf
      exact fin_bool (by rw [hall, h2]; rfl)
  · have hjl : j = xs.length := by have : ¬ j < (Plan.encs xs).length := by simpa using h1
                                   omega
    subst hjl
    rw [listEq_end hlen] at hall
    conv => whnf
    exact fin_bool hall.symm
theorem planSame_r' (hp : Okp pr) : ∀ (N : Nat) (p : Plan), SizeOf.sizeOf p ≤ N → p.small → ∀ q, Ret pr 73 [p.enc, q.enc] (.bool (planEq p q)) := by
  intro N
  induction N with
  | zero => intro p h; exfalso; cases p; simp at h
  | succ N ih =>
    intro p hs hsm q
    obtain ⟨kind, n, test, cells, a, b, keys, agg, c, kids⟩ := p
    obtain ⟨kind', n', test', cells', a', b', keys', agg', c', kids'⟩ := q
    obtain ⟨hsc, hsk, hskids, hsks⟩ := small_split hsm
    have hc := eqCells_r hp cells cells' hsc
    have hk := eqInts_r hp keys keys' hsk
    have hf := equalFunc_r hp kids kids' hskids fun p hpm q => ih p (by have := List.sizeOf_lt_of_mem hpm; simp at hs; omega) (hsks p hpm) q
    refine ret_of hp rfl rfl ?_
    iterate 22
      all_goals (try (conv => whnf))
      all_goals (first | (refine bsel_intro (fun hb => ?_) (fun hb => ?_)) | (refine ⟨_, testEq test test', eqS_test, rfl, ?_⟩) | (refine ⟨_, hc _, ?_⟩) | (refine ⟨_, hk _, ?_⟩) | (refine ⟨_, hf _, ?_⟩) | skip)
    all_goals exact fin_bool (by clear hc hk hf ih hs hsm hsks hsc hsk hskids; simp_all [planEq, Plan.kind, Plan.n, Plan.test, Plan.cells, Plan.a, Plan.b, Plan.keys, Plan.agg, Plan.col, Plan.kids])
theorem planSame_r (hp : Okp pr) (p q : Plan) (hsm : p.small) : Ret pr 73 [p.enc, q.enc] (.bool (planEq p q)) := planSame_r' hp _ p (Nat.le_refl _) hsm q
end Go.Proofs.YtbghmemejbbhfaaGreat
/- The kinds of parts: their kids, what is theirs, how wide. -/
namespace Go.Proofs.YtbghmemejbbhfaaGreat
open Go Go.Am
variable {pr : Prims} (hp : Okp pr)
set_option maxRecDepth 100000
def partT (k : Nat) : AVal := .iface k (.agg [])
def partsV : AVal := .cmap [i64 1, i64 2, i64 3, i64 4, i64 5, i64 6, i64 7]
  [partT 93, partT 94, partT 95, partT 96, partT 97, partT 98, partT 99]
theorem parts_r (hp : Okp pr) : Ret pr 69 [] partsV := by
  refine ret_of hp rfl rfl ?_
  conv => whnf
  exact ⟨_, _, rfl, rfl⟩
theorem tableKids_r (hp : Okp pr) : Ret pr 99 [.agg []] (i64 0) := by
  refine ret_of hp rfl rfl ?_
  conv => whnf
  exact fin_int rfl

theorem whereKids_r (hp : Okp pr) : Ret pr 104 [.agg []] (i64 1) := by
  refine ret_of hp rfl rfl ?_
  conv => whnf
  exact fin_int rfl

theorem mapKids_r (hp : Okp pr) : Ret pr 112 [.agg []] (i64 1) := by
  refine ret_of hp rfl rfl ?_
  conv => whnf
  exact fin_int rfl

theorem joinKids_r (hp : Okp pr) : Ret pr 120 [.agg []] (i64 2) := by
  refine ret_of hp rfl rfl ?_
  conv => whnf
  exact fin_int rfl

theorem bothKids_r (hp : Okp pr) : Ret pr 126 [.agg []] (i64 2) := by
  refine ret_of hp rfl rfl ?_
  conv => whnf
  exact fin_int rfl

theorem onceKids_r (hp : Okp pr) : Ret pr 131 [.agg []] (i64 1) := by
  refine ret_of hp rfl rfl ?_
  conv => whnf
  exact fin_int rfl

theorem groupKids_r (hp : Okp pr) : Ret pr 136 [.agg []] (i64 1) := by
  refine ret_of hp rfl rfl ?_
  conv => whnf
  exact fin_int rfl

def zT : Test := ⟨0, false, ⟨0, 0, 0, 0⟩, ⟨0, 0, 0, 0⟩⟩
/-- A plan with just what its kind has, but for its kids. -/
def only : Plan → Plan
  | .mk kind n test cells a b keys agg c _ =>
    .mk kind (if kind = 1 then n else 0) (if kind = 2 then test else zT) (if kind = 3 then cells else []) (if kind = 4 then a else 0) (if kind = 4 then b else 0) (if kind = 7 then keys else []) (if kind = 7 then agg else 0) (if kind = 7 then c else 0) []
theorem tableOnly_r (hp : Okp pr) (n : Int) (test : Test) (cells : List Cell) (a b : Int) (keys : List Int) (agg c : Int) (kids : List Plan) : Ret pr 100 [.agg [], (Plan.mk 1 n test cells a b keys agg c kids).enc] (only (Plan.mk 1 n test cells a b keys agg c kids)).enc := by
  refine ret_of hp rfl rfl ?_
  conv => whnf
  exact ⟨_, _, rfl, rfl⟩

theorem whereOnly_r (hp : Okp pr) (n : Int) (test : Test) (cells : List Cell) (a b : Int) (keys : List Int) (agg c : Int) (kids : List Plan) : Ret pr 105 [.agg [], (Plan.mk 2 n test cells a b keys agg c kids).enc] (only (Plan.mk 2 n test cells a b keys agg c kids)).enc := by
  refine ret_of hp rfl rfl ?_
  conv => whnf
  exact ⟨_, _, rfl, rfl⟩

theorem mapOnly_r (hp : Okp pr) (n : Int) (test : Test) (cells : List Cell) (a b : Int) (keys : List Int) (agg c : Int) (kids : List Plan) : Ret pr 113 [.agg [], (Plan.mk 3 n test cells a b keys agg c kids).enc] (only (Plan.mk 3 n test cells a b keys agg c kids)).enc := by
  refine ret_of hp rfl rfl ?_
  conv => whnf
  exact ⟨_, _, rfl, rfl⟩

theorem joinOnly_r (hp : Okp pr) (n : Int) (test : Test) (cells : List Cell) (a b : Int) (keys : List Int) (agg c : Int) (kids : List Plan) : Ret pr 121 [.agg [], (Plan.mk 4 n test cells a b keys agg c kids).enc] (only (Plan.mk 4 n test cells a b keys agg c kids)).enc := by
  refine ret_of hp rfl rfl ?_
  conv => whnf
  exact ⟨_, _, rfl, rfl⟩

theorem bothOnly_r (hp : Okp pr) (n : Int) (test : Test) (cells : List Cell) (a b : Int) (keys : List Int) (agg c : Int) (kids : List Plan) : Ret pr 127 [.agg [], (Plan.mk 5 n test cells a b keys agg c kids).enc] (only (Plan.mk 5 n test cells a b keys agg c kids)).enc := by
  refine ret_of hp rfl rfl ?_
  conv => whnf
  exact ⟨_, _, rfl, rfl⟩

theorem onceOnly_r (hp : Okp pr) (n : Int) (test : Test) (cells : List Cell) (a b : Int) (keys : List Int) (agg c : Int) (kids : List Plan) : Ret pr 132 [.agg [], (Plan.mk 6 n test cells a b keys agg c kids).enc] (only (Plan.mk 6 n test cells a b keys agg c kids)).enc := by
  refine ret_of hp rfl rfl ?_
  conv => whnf
  exact ⟨_, _, rfl, rfl⟩

theorem groupOnly_r (hp : Okp pr) (n : Int) (test : Test) (cells : List Cell) (a b : Int) (keys : List Int) (agg c : Int) (kids : List Plan) : Ret pr 137 [.agg [], (Plan.mk 7 n test cells a b keys agg c kids).enc] (only (Plan.mk 7 n test cells a b keys agg c kids)).enc := by
  refine ret_of hp rfl rfl ?_
  conv => whnf
  exact ⟨_, _, rfl, rfl⟩

end Go.Proofs.YtbghmemejbbhfaaGreat

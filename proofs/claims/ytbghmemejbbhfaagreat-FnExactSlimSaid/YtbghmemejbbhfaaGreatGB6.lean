/- What the laws' arguments are. -/
import Derived.Test.YtbghmemejbbhfaaGreatGB2
set_option linter.unusedVariables false
set_option linter.unusedSimpArgs false
/- The law's own functions: copies of plans, comparisons, sizes. -/
namespace Go.Proofs.YtbghmemejbbhfaaGreat
open Go Go.Am
variable {pr : Prims} (hp : Okp pr)
set_option maxRecDepth 100000
theorem eqCell_r (hp : Okp pr) (c : Cell) : Ret pr 52 [c.enc, c.enc] (.bool true) := by
  obtain ⟨k, a, b, n⟩ := c
  have h : ∀ x : Int, (x != x) = false := fun x => by simp
  refine ret_of hp rfl rfl ?_
  iterate 6
    all_goals (try (conv => whnf))
    all_goals (first | (refine bsel_false (h _) ?_) | (refine bsel_intro (fun hb => ?_) (fun hb => ?_)) | skip)
  exact fin_bool rfl
theorem eqTest_r (hp : Okp pr) (t : Test) : Ret pr 28 [t.enc, t.enc] (.bool true) := by
  obtain ⟨k, no, l, r⟩ := t
  have h : ∀ x : Int, (x != x) = false := fun x => by simp
  have hl := eqCell_r hp l
  have hr := eqCell_r hp r
  refine ret_of hp rfl rfl ?_
  cases no
  iterate 2
    · iterate 6
        all_goals (try (conv => whnf))
        all_goals (first | (refine bsel_false (h _) ?_) | (refine bsel_intro (fun hb => ?_) (fun hb => ?_)) | (refine ⟨_, hl _, ?_⟩) | (refine ⟨_, hr _, ?_⟩) | skip)
      exact fin_bool rfl
theorem eqCellS_r (hp : Okp pr) (xs : List Cell) (hl : xs.length ≤ 1048576) : Ret pr 29 [.sl (xs.map Cell.enc), .sl (xs.map Cell.enc)] (.bool true) := by
  have h : ∀ x : Int, (x != x) = false := fun x => by simp
  refine ret_of hp rfl rfl ?_
  conv => whnf
  refine bsel_false (h _) ?_
  conv => whnf
  refine loop_rule (fun m st => ∃ j : Nat, j + m = xs.length ∧ st.tm 0 = .sl (xs.map Cell.enc) ∧ st.tm 1 = .sl (xs.map Cell.enc) ∧ st.tm 5 = i64 (j : Nat) ∧ st.hp = []) (fun m st hI => ?_) (xs.length) _ ⟨0, by simp, (by first | kernel_rfl | rfl | simp), (by first | kernel_rfl | rfl | simp), (by first | kernel_rfl | rfl | simp), (by first | kernel_rfl | rfl | simp)⟩
  obtain ⟨j, hj, e0, e1, e5, hh⟩ := hI
  obtain ⟨tm, hq⟩ := st
  simp only at e0 e1 e5 hh
  subst hh
  rw [show tm = upd (upd (upd tm 0 (.sl (xs.map Cell.enc))) 1 (.sl (xs.map Cell.enc))) 5 (i64 (j : Nat)) by rw [upd_id e0, upd_id e1, upd_id e5]]
  clear e0 e1 e5
  conv => whnf
  refine bsel_intro (fun h1 => ?_) (fun h1 => ?_)
  · have hjl : j < xs.length := by simpa using h1
    conv => whnf
    refine ⟨(xs[j]).enc, by simp [hjl], by omega, rfl, ?_⟩
    conv => whnf
    refine ⟨(xs[j]).enc, by simp [hjl], by omega, rfl, ?_⟩
    conv => whnf
    refine ⟨_, eqCell_r hp xs[j] _, ?_⟩
    conv => whnf
    exact ⟨m - 1, by omega, j + 1, by omega, rfl, rfl, nat_step j (by omega), rfl⟩
  · conv => whnf
    exact fin_bool rfl
theorem eqIntS_r (hp : Okp pr) (xs : List Int) (hl : xs.length ≤ 1048576) : Ret pr 30 [.sl (xs.map i64), .sl (xs.map i64)] (.bool true) := by
  have h : ∀ x : Int, (x != x) = false := fun x => by simp
  refine ret_of hp rfl rfl ?_
  conv => whnf
  refine bsel_false (h _) ?_
  conv => whnf
  refine loop_rule (fun m st => ∃ j : Nat, j + m = xs.length ∧ st.tm 0 = .sl (xs.map i64) ∧ st.tm 1 = .sl (xs.map i64) ∧ st.tm 5 = i64 (j : Nat) ∧ st.hp = []) (fun m st hI => ?_) (xs.length) _ ⟨0, by simp, (by first | kernel_rfl | rfl | simp), (by first | kernel_rfl | rfl | simp), (by first | kernel_rfl | rfl | simp), (by first | kernel_rfl | rfl | simp)⟩
  obtain ⟨j, hj, e0, e1, e5, hh⟩ := hI
  obtain ⟨tm, hq⟩ := st
  simp only at e0 e1 e5 hh
  subst hh
  rw [show tm = upd (upd (upd tm 0 (.sl (xs.map i64))) 1 (.sl (xs.map i64))) 5 (i64 (j : Nat)) by rw [upd_id e0, upd_id e1, upd_id e5]]
  clear e0 e1 e5
  conv => whnf
  refine bsel_intro (fun h1 => ?_) (fun h1 => ?_)
  · have hjl : j < xs.length := by simpa using h1
    conv => whnf
    refine ⟨i64 xs[j], by simp [hjl], by omega, rfl, ?_⟩
    conv => whnf
    refine ⟨i64 xs[j], by simp [hjl], by omega, rfl, ?_⟩
    conv => whnf
    refine bsel_false (h _) ?_
    conv => whnf
    exact ⟨m - 1, by omega, j + 1, by omega, rfl, rfl, nat_step j (by omega), rfl⟩
  · conv => whnf
    exact fin_bool rfl
theorem eqPlanS_r (hp : Okp pr) (xs : List Plan) (hl : xs.length ≤ 1048576) (ih : ∀ p ∈ xs, Ret pr 10 [p.enc, p.enc] (.bool true)) : Ret pr 31 [.sl (Plan.encs xs), .sl (Plan.encs xs)] (.bool true) := by
  have h : ∀ x : Int, (x != x) = false := fun x => by simp
  refine ret_of hp rfl rfl ?_
  conv => whnf
  refine bsel_false (h _) ?_
  conv => whnf
  refine loop_rule (fun m st => ∃ j : Nat, j + m = xs.length ∧ st.tm 0 = .sl (Plan.encs xs) ∧ st.tm 1 = .sl (Plan.encs xs) ∧ st.tm 5 = i64 (j : Nat) ∧ st.hp = []) (fun m st hI => ?_) (xs.length) _ ⟨0, by simp, (by first | kernel_rfl | rfl | simp), (by first | kernel_rfl | rfl | simp), (by first | kernel_rfl | rfl | simp), (by first | kernel_rfl | rfl | simp)⟩
  obtain ⟨j, hj, e0, e1, e5, hh⟩ := hI
  obtain ⟨tm, hq⟩ := st
  simp only at e0 e1 e5 hh
  subst hh
  rw [show tm = upd (upd (upd tm 0 (.sl (Plan.encs xs))) 1 (.sl (Plan.encs xs))) 5 (i64 (j : Nat)) by rw [upd_id e0, upd_id e1, upd_id e5]]
  clear e0 e1 e5
  conv => whnf
  refine bsel_intro (fun h1 => ?_) (fun h1 => ?_)
  · have hjl : j < xs.length := by simpa [encs_len] using h1
    have hge : (Plan.encs xs)[((j : Nat) : Int).toNat]? = some xs[j].enc := by rw [Int.toNat_natCast, encs_get]; simp [hjl]
    have hih := ih xs[j] (List.getElem_mem hjl)
    generalize xs[j] = q at hge hih
    obtain ⟨kind, n, test, cells, a, b, keys, agg, c, kids⟩ := q
    conv => whnf
    refine ⟨_, hge, by omega, rfl, ?_⟩
    conv => whnf
    refine ⟨_, hge, by omega, rfl, ?_⟩
    conv => whnf
    refine ⟨_, hih _, ?_⟩
    conv => whnf
    exact ⟨m - 1, by omega, j + 1, by omega, rfl, rfl, nat_step j (by omega), rfl⟩
  · conv => whnf
    exact fin_bool rfl
theorem eqPlan_r' (hp : Okp pr) : ∀ (N : Nat) (p : Plan), SizeOf.sizeOf p ≤ N → p.small → Ret pr 10 [p.enc, p.enc] (.bool true) := by
  intro N
  induction N with
  | zero => intro p h; exfalso; cases p; simp at h
  | succ N ih =>
    intro p hs hsm
    obtain ⟨kind, n, test, cells, a, b, keys, agg, c, kids⟩ := p
    obtain ⟨hsc, hsk, hskids, hsks⟩ := small_split hsm
    have h : ∀ x : Int, (x != x) = false := fun x => by simp
    have h1 := eqTest_r hp test
    have h2 := eqCellS_r hp cells hsc
    have h3 := eqIntS_r hp keys hsk
    have h4 := eqPlanS_r hp kids hskids fun q hq => ih q (by have := List.sizeOf_lt_of_mem hq; simp at hs; omega) (hsks q hq)
    refine ret_of hp rfl rfl ?_
    iterate 12
      all_goals (try (conv => whnf))
      all_goals (first | (refine bsel_false (h _) ?_) | (refine bsel_intro (fun hb => ?_) (fun hb => ?_)) | (refine ⟨_, h1 _, ?_⟩) | (refine ⟨_, h2 _, ?_⟩) | (refine ⟨_, h3 _, ?_⟩) | (refine ⟨_, h4 _, ?_⟩) | skip)
    exact fin_bool rfl
theorem eqPlan_r (hp : Okp pr) (p : Plan) (hsm : p.small) : Ret pr 10 [p.enc, p.enc] (.bool true) := eqPlan_r' hp _ p (Nat.le_refl _) hsm
/-! ### Sizes -/
mutual
/-- No list is longer than a list can be. -/
def Plan.fits : Plan → Prop
  | .mk kind n test cells a b keys agg c kids => cells.length ≤ 9223372036854775807 ∧ keys.length ≤ 9223372036854775807 ∧ kids.length ≤ 9223372036854775807 ∧ Plan.fitss kids
def Plan.fitss : List Plan → Prop
  | [] => True
  | p :: ps => p.fits ∧ Plan.fitss ps
end
theorem fitss_iff (ps : List Plan) : Plan.fitss ps ↔ ∀ p ∈ ps, p.fits := by
  induction ps with
  | nil => simp [Plan.fitss]
  | cons p ps ih => simp [Plan.fitss, ih]
def szR (left : Int) (k : Nat) : Int := if left < k then -1 else left - k
theorem szR_wrap {left : Int} {k : Nat} (h0 : 0 ≤ left) (h1 : left ≤ 1048576) (hk : k ≤ 9223372036854775807) : IntKind.i64.wrap (left - (k : Int)) = left - k := by
  rw [IntKind.wrap_i64]; omega
theorem szCellS_r (hp : Okp pr) (xs : List Cell) (left : Int) (h0 : 0 ≤ left) (h1 : left ≤ 1048576) (hl : xs.length ≤ 9223372036854775807) : Ret pr 17 [.sl (xs.map Cell.enc), i64 left] (i64 (szR left xs.length)) := by
  have hw := szR_wrap (k := (xs.map Cell.enc).length) h0 h1 (by simpa using hl)
  refine ret_of hp rfl rfl ?_
  iterate 3
    all_goals (try (conv => whnf))
    all_goals (first | (refine bsel_intro (fun hb => ?_) (fun hb => ?_)) | skip)
  all_goals exact fin_int (by rw [hw] at *; simp [szR] at *; omega)
theorem szIntS_r (hp : Okp pr) (xs : List Int) (left : Int) (h0 : 0 ≤ left) (h1 : left ≤ 1048576) (hl : xs.length ≤ 9223372036854775807) : Ret pr 18 [.sl (xs.map i64), i64 left] (i64 (szR left xs.length)) := by
  have hw := szR_wrap (k := (xs.map i64).length) h0 h1 (by simpa using hl)
  refine ret_of hp rfl rfl ?_
  iterate 3
    all_goals (try (conv => whnf))
    all_goals (first | (refine bsel_intro (fun hb => ?_) (fun hb => ?_)) | skip)
  all_goals exact fin_int (by rw [hw] at *; simp [szR] at *; omega)
end Go.Proofs.YtbghmemejbbhfaaGreat
/- What the laws' arguments are. -/
namespace Go.Am
open Go
theorem len_succ {α : Type} {xs : List α} {n : Nat} (h : xs.length = n + 1) : ∃ x ys, xs = x :: ys ∧ ys.length = n := by
  cases xs with
  | nil => simp at h
  | cons x ys => exact ⟨x, ys, rfl, by simpa using h⟩
theorem forall_cons {α : Type} {Q : α → Prop} {a : α} {l : List α} (h : ∀ f ∈ a :: l, Q f) : Q a ∧ ∀ f ∈ l, Q f := ⟨h a (by simp), fun f hf => h f (by simp [hf])⟩
theorem slice_of {P : Program} {n : Nat} {t e : TypeId} {xs : List AVal} {α : Type} (f : α → AVal) (Q : α → Prop) (hu : P.underlying t = some (.slice e)) (he : ∀ ys, TyA P n e ys → ∃ c, ofCells P e ys = f c ∧ Q c) (h : TyA P (n + 1) t xs) :
    ∃ cs : List α, xs = [.sl (cs.map f)] ∧ cs.length ≤ maxLen ∧ ∀ c ∈ cs, Q c := by
  unfold TyA at h
  rw [hu] at h
  obtain ⟨yss, rfl, hl, hy⟩ := h
  have key : ∀ yss : List (List AVal), (∀ ys ∈ yss, TyA P n e ys) → ∃ cs : List α, yss.map (ofCells P e) = cs.map f ∧ ∀ c ∈ cs, Q c := by
    intro yss
    induction yss with
    | nil => intro _; exact ⟨[], rfl, fun c hc => by simp at hc⟩
    | cons ys yss ih =>
      intro hy
      obtain ⟨c, hc, hq⟩ := he ys (hy ys (by simp))
      obtain ⟨cs, hcs, hqs⟩ := ih fun zs hz => hy zs (by simp [hz])
      exact ⟨c :: cs, by simp [hc, hcs], fun d hd => by
        rcases List.mem_cons.1 hd with rfl | hd
        · exact hq
        · exact hqs d hd⟩
  obtain ⟨cs, hcs, hqs⟩ := key yss hy
  have hlen : cs.length = yss.length := by have := congrArg List.length hcs; simpa using this.symm
  exact ⟨cs, by rw [hcs], by omega, hqs⟩
theorem int_of {P : Program} {n : Nat} {t : TypeId} {k : IntKind} {xs : List AVal} (hu : P.underlying t = some (.int k)) (h : TyA P (n + 1) t xs) : ∃ i, xs = [.int k i] ∧ (Lit.int k i).wf = true := by
  unfold TyA at h
  rw [hu] at h
  exact h
theorem bool_of {P : Program} {n : Nat} {t : TypeId} {xs : List AVal} (hu : P.underlying t = some .bool) (h : TyA P (n + 1) t xs) : ∃ b, xs = [.bool b] := by
  unfold TyA at h
  rw [hu] at h
  exact h
theorem struct_of {P : Program} {n : Nat} {t : TypeId} {fs : Array Field} {xs : List AVal} (hu : P.underlying t = some (.struct fs)) (h : TyA P (n + 1) t xs) : xs.length = P.cellsOf t ∧ ∀ f ∈ fs.toList, TyA P n f.type ((xs.drop f.offset).take (P.cellsOf f.type)) := by
  unfold TyA at h
  rw [hu] at h
  exact h
theorem tya_pos {P : Program} {n : Nat} {t : TypeId} {xs : List AVal} (h : TyA P n t xs) : ∃ m, n = m + 1 := by
  cases n with
  | zero => exact h.elim
  | succ n => exact ⟨n, rfl⟩
end Go.Am
namespace Go.Proofs.YtbghmemejbbhfaaGreat
open Go Go.Am
set_option maxRecDepth 100000
def tInt : TypeId := 3
def tBool : TypeId := 4
def tCellL : TypeId := 23
def tTestL : TypeId := 25
def tPlanL : TypeId := 30
theorem uInt : Tryz.prog.underlying tInt = some (.int .i64) := rfl
theorem uBool : Tryz.prog.underlying tBool = some .bool := rfl
theorem int_a {n : Nat} {xs : List AVal} (h : TyA Tryz.prog n tInt xs) : ∃ i, xs = [i64 i] := by
  obtain ⟨m, rfl⟩ := tya_pos h
  obtain ⟨i, hi, _⟩ := int_of uInt h
  exact ⟨i, hi⟩
theorem bool_a {n : Nat} {xs : List AVal} (h : TyA Tryz.prog n tBool xs) : ∃ i, xs = [.bool i] := by
  obtain ⟨m, rfl⟩ := tya_pos h
  exact bool_of uBool h
theorem cell_a {n : Nat} {xs : List AVal} (h : TyA Tryz.prog n tCellL xs) : ∃ c : Cell, xs = [i64 c.kind, i64 c.a, i64 c.b, i64 c.n] := by
  obtain ⟨m, rfl⟩ := tya_pos h
  obtain ⟨hl, hf⟩ := struct_of rfl h
  have hl : xs.length = 4 := hl
  obtain ⟨x0, ys0, rfl, hl0⟩ := len_succ hl
  obtain ⟨x1, ys1, rfl, hl1⟩ := len_succ hl0
  obtain ⟨x2, ys2, rfl, hl2⟩ := len_succ hl1
  obtain ⟨x3, ys3, rfl, hl3⟩ := len_succ hl2
  have hx : ys3 = [] := List.length_eq_zero_iff.1 hl3
  subst hx
  obtain ⟨f0, hf⟩ := forall_cons hf
  have f0 : TyA Tryz.prog m tInt [x0] := f0
  obtain ⟨f1, hf⟩ := forall_cons hf
  have f1 : TyA Tryz.prog m tInt [x1] := f1
  obtain ⟨f2, hf⟩ := forall_cons hf
  have f2 : TyA Tryz.prog m tInt [x2] := f2
  obtain ⟨f3, hf⟩ := forall_cons hf
  have f3 : TyA Tryz.prog m tInt [x3] := f3
  obtain ⟨i0, e0⟩ := int_a f0
  obtain ⟨i1, e1⟩ := int_a f1
  obtain ⟨i2, e2⟩ := int_a f2
  obtain ⟨i3, e3⟩ := int_a f3
  simp only [List.cons.injEq, and_true] at e0 e1 e2 e3
  subst e0 e1 e2 e3
  exact ⟨⟨i0, i1, i2, i3⟩, rfl⟩
theorem test_a {n : Nat} {xs : List AVal} (h : TyA Tryz.prog n tTestL xs) : ∃ c : Test, xs = [i64 c.kind, .bool c.no, i64 c.l.kind, i64 c.l.a, i64 c.l.b, i64 c.l.n, i64 c.r.kind, i64 c.r.a, i64 c.r.b, i64 c.r.n] := by
  obtain ⟨m, rfl⟩ := tya_pos h
  obtain ⟨hl, hf⟩ := struct_of rfl h
  have hl : xs.length = 10 := hl
  obtain ⟨x0, ys0, rfl, hl0⟩ := len_succ hl
  obtain ⟨x1, ys1, rfl, hl1⟩ := len_succ hl0
  obtain ⟨x2, ys2, rfl, hl2⟩ := len_succ hl1
  obtain ⟨x3, ys3, rfl, hl3⟩ := len_succ hl2
  obtain ⟨x4, ys4, rfl, hl4⟩ := len_succ hl3
  obtain ⟨x5, ys5, rfl, hl5⟩ := len_succ hl4
  obtain ⟨x6, ys6, rfl, hl6⟩ := len_succ hl5
  obtain ⟨x7, ys7, rfl, hl7⟩ := len_succ hl6
  obtain ⟨x8, ys8, rfl, hl8⟩ := len_succ hl7
  obtain ⟨x9, ys9, rfl, hl9⟩ := len_succ hl8
  have hx : ys9 = [] := List.length_eq_zero_iff.1 hl9
  subst hx
  obtain ⟨f0, hf⟩ := forall_cons hf
  have f0 : TyA Tryz.prog m tInt [x0] := f0
  obtain ⟨f1, hf⟩ := forall_cons hf
  have f1 : TyA Tryz.prog m tBool [x1] := f1
  obtain ⟨f2, hf⟩ := forall_cons hf
  have f2 : TyA Tryz.prog m tCellL [x2, x3, x4, x5] := f2
  obtain ⟨f3, hf⟩ := forall_cons hf
  have f3 : TyA Tryz.prog m tCellL [x6, x7, x8, x9] := f3
  obtain ⟨i0, e0⟩ := int_a f0
  obtain ⟨b1, e1⟩ := bool_a f1
  obtain ⟨l, e2⟩ := cell_a f2
  obtain ⟨r, e3⟩ := cell_a f3
  simp only [List.cons.injEq, and_true] at e0 e1 e2 e3
  obtain ⟨rfl, rfl, rfl, rfl⟩ := e2
  obtain ⟨rfl, rfl, rfl, rfl⟩ := e3
  subst e0 e1
  exact ⟨⟨i0, b1, l, r⟩, rfl⟩
theorem plan_a : ∀ (n : Nat) (xs : List AVal), TyA Tryz.prog n tPlanL xs → ∃ p : Plan, .agg xs = p.enc ∧ p.fits := by
  intro n
  induction n using Nat.strongRecOn with
  | _ n ih =>
  intro xs h
  obtain ⟨m, rfl⟩ := tya_pos h
  obtain ⟨hl, hf⟩ := struct_of rfl h
  have hl : xs.length = 19 := hl
  obtain ⟨x0, ys0, rfl, hl0⟩ := len_succ hl
  obtain ⟨x1, ys1, rfl, hl1⟩ := len_succ hl0
  obtain ⟨x2, ys2, rfl, hl2⟩ := len_succ hl1
  obtain ⟨x3, ys3, rfl, hl3⟩ := len_succ hl2
  obtain ⟨x4, ys4, rfl, hl4⟩ := len_succ hl3
  obtain ⟨x5, ys5, rfl, hl5⟩ := len_succ hl4
  obtain ⟨x6, ys6, rfl, hl6⟩ := len_succ hl5
  obtain ⟨x7, ys7, rfl, hl7⟩ := len_succ hl6
  obtain ⟨x8, ys8, rfl, hl8⟩ := len_succ hl7
  obtain ⟨x9, ys9, rfl, hl9⟩ := len_succ hl8
  obtain ⟨x10, ys10, rfl, hl10⟩ := len_succ hl9
  obtain ⟨x11, ys11, rfl, hl11⟩ := len_succ hl10
  obtain ⟨x12, ys12, rfl, hl12⟩ := len_succ hl11
  obtain ⟨x13, ys13, rfl, hl13⟩ := len_succ hl12
  obtain ⟨x14, ys14, rfl, hl14⟩ := len_succ hl13
  obtain ⟨x15, ys15, rfl, hl15⟩ := len_succ hl14
  obtain ⟨x16, ys16, rfl, hl16⟩ := len_succ hl15
  obtain ⟨x17, ys17, rfl, hl17⟩ := len_succ hl16
  obtain ⟨x18, ys18, rfl, hl18⟩ := len_succ hl17
  have hx : ys18 = [] := List.length_eq_zero_iff.1 hl18
  subst hx
  obtain ⟨f0, hf⟩ := forall_cons hf
  have f0 : TyA Tryz.prog m tInt [x0] := f0
  obtain ⟨f1, hf⟩ := forall_cons hf
  have f1 : TyA Tryz.prog m tInt [x1] := f1
  obtain ⟨f2, hf⟩ := forall_cons hf
  have f2 : TyA Tryz.prog m tTestL [x2, x3, x4, x5, x6, x7, x8, x9, x10, x11] := f2
  obtain ⟨f3, hf⟩ := forall_cons hf
  have f3 : TyA Tryz.prog m 26 [x12] := f3
  obtain ⟨f4, hf⟩ := forall_cons hf
  have f4 : TyA Tryz.prog m tInt [x13] := f4
  obtain ⟨f5, hf⟩ := forall_cons hf
  have f5 : TyA Tryz.prog m tInt [x14] := f5
  obtain ⟨f6, hf⟩ := forall_cons hf
  have f6 : TyA Tryz.prog m 27 [x15] := f6
  obtain ⟨f7, hf⟩ := forall_cons hf
  have f7 : TyA Tryz.prog m tInt [x16] := f7
  obtain ⟨f8, hf⟩ := forall_cons hf
  have f8 : TyA Tryz.prog m tInt [x17] := f8
  obtain ⟨f9, hf⟩ := forall_cons hf
  have f9 : TyA Tryz.prog m 28 [x18] := f9
  obtain ⟨i0, e0⟩ := int_a f0
  obtain ⟨i1, e1⟩ := int_a f1
  obtain ⟨i4, e4⟩ := int_a f4
  obtain ⟨i5, e5⟩ := int_a f5
  obtain ⟨i7, e7⟩ := int_a f7
  obtain ⟨i8, e8⟩ := int_a f8
  obtain ⟨t2, e2⟩ := test_a f2
  obtain ⟨m', rfl⟩ := tya_pos f3
  obtain ⟨cells, e3, l3, _⟩ := slice_of Cell.enc (fun _ => True) rfl (fun ys hy => by
    obtain ⟨c, rfl⟩ := cell_a hy
    exact ⟨c, rfl, trivial⟩) f3
  obtain ⟨keys, e6, l6, _⟩ := slice_of i64 (fun _ => True) rfl (fun ys hy => by
    obtain ⟨c, rfl⟩ := int_a hy
    exact ⟨c, rfl, trivial⟩) f6
  obtain ⟨kids, e9, l9, q9⟩ := slice_of Plan.enc Plan.fits rfl (fun ys hy => by
    obtain ⟨p, hp, hq⟩ := ih m' (by omega) ys hy
    exact ⟨p, hp, hq⟩) f9
  simp only [List.cons.injEq, and_true] at e0 e1 e2 e3 e4 e5 e6 e7 e8 e9
  obtain ⟨rfl, rfl, rfl, rfl, rfl, rfl, rfl, rfl, rfl, rfl⟩ := e2
  subst e0 e1 e3 e4 e5 e6 e7 e8 e9
  refine ⟨.mk i0 i1 t2 cells i4 i5 keys i7 i8 kids, ?_, ?_⟩
  · rw [← encs_eq]; rfl
  · simp only [Plan.fits, fitss_iff]
    exact ⟨l3, l6, l9, q9⟩
end Go.Proofs.YtbghmemejbbhfaaGreat

/- Each operation that leaves the memory alone does on values what Am says: arithmetic, comparisons, cuts, addresses, maps read. -/
import Derived.Test.YtbghmemejbbhfaaGreatAmC
import Derived.WideLaws
import Derived.Laws.Pointers
import Derived.Laws.Small
set_option linter.unusedVariables false
set_option linter.unusedSimpArgs false
namespace Go.Am
open Go

section
variable {P : Program} {E : Env} {w : World}
/-- Cells as values, one by one. -/
def All2 (E : Env) (w : World) (cs : List AVal) (vs : Array Value) : Prop := cs.length = vs.size ∧ ∀ (i : Nat) (c : AVal) (v : Value), cs[i]? = some c → vs[i]? = some v → Rep E w c v
theorem eqCells_append : ∀ (l ks : List FK) (x1 x2 y1 y2 : List AVal), x1.length = l.length → y1.length = l.length → ∀ r, eqCells (l ++ ks) (x1 ++ x2) (y1 ++ y2) = some r →
    ∃ r1 r2, eqCells l x1 y1 = some r1 ∧ eqCells ks x2 y2 = some r2 ∧ r = (r1 && r2) := by
  intro l
  induction l with
  | nil =>
    intro ks x1 x2 y1 y2 h1 h2 r h
    simp at h1 h2
    subst h1 h2
    exact ⟨true, r, rfl, h, rfl⟩
  | cons k l ih =>
    intro ks x1 x2 y1 y2 h1 h2 r h
    cases x1 with
    | nil => simp at h1
    | cons a x1 =>
      cases y1 with
      | nil => simp at h2
      | cons b y1 =>
        have h1' : x1.length = l.length := by simpa using h1
        have h2' : y1.length = l.length := by simpa using h2
        simp only [List.cons_append] at h
        cases k <;> cases a <;> cases b <;> simp only [eqCells] at h <;> try (cases h; done)
        · rename_i ka a kb b
          split at h
          · rename_i hk
            simp only [Option.map_eq_some_iff] at h
            obtain ⟨q, hq, rfl⟩ := h
            obtain ⟨r1, r2, e1, e2, rfl⟩ := ih ks x1 x2 y1 y2 h1' h2' q hq
            exact ⟨(a == b && r1), r2, by simp only [eqCells]; rw [if_pos hk, e1]; rfl, e2, by simp [Bool.and_assoc]⟩
          · cases h
        all_goals
          rename_i a b
          simp only [Option.map_eq_some_iff] at h
          obtain ⟨q, hq, rfl⟩ := h
          obtain ⟨r1, r2, e1, e2, rfl⟩ := ih ks x1 x2 y1 y2 h1' h2' q hq
          exact ⟨(a == b && r1), r2, by simp only [eqCells]; rw [e1]; rfl, e2, by simp [Bool.and_assoc]⟩
theorem eqCells_len : ∀ (ks : List FK) (xs ys : List AVal) (r : Bool), eqCells ks xs ys = some r → xs.length = ks.length ∧ ys.length = ks.length := by
  intro ks
  induction ks with
  | nil => intro xs ys r h; cases xs <;> cases ys <;> simp [eqCells] at h ⊢
  | cons k ks ih =>
    intro xs ys r h
    cases xs with
    | nil => cases k <;> simp [eqCells] at h
    | cons x xs =>
      cases ys with
      | nil => cases k <;> cases x <;> simp [eqCells] at h
      | cons y ys =>
        cases k <;> cases x <;> cases y <;> simp only [eqCells] at h <;> try cases h
        · split at h
          · simp only [Option.map_eq_some_iff] at h; obtain ⟨q, hq, _⟩ := h; simpa using ih _ _ _ hq
          · cases h
        all_goals (simp only [Option.map_eq_some_iff] at h; obtain ⟨q, hq, _⟩ := h; simpa using ih _ _ _ hq)
theorem All2.part {xs : List AVal} {vs : Array Value} (h : All2 E w xs vs) (off n : Nat) (hle : off + n ≤ xs.length) : All2 E w ((xs.drop off).take n) (vs.extract off (off + n)) := by
  refine ⟨by simp; have := h.1; omega, fun i c v hc hv => ?_⟩
  have hi : i < n := by
    have := (List.getElem?_eq_some_iff.1 hc).1
    simp at this; omega
  rw [List.getElem?_take, if_pos hi, List.getElem?_drop] at hc
  rw [Array.getElem?_extract] at hv
  split at hv
  · exact h.2 _ c v hc hv
  · cases hv
theorem flat_equal : ∀ (n : Nat) (t : TypeId) (ks : List FK), flatK P n t = some ks → ∀ (d : Nat), n ≤ d → ∀ (x y : Value) (xs ys : List AVal) (r : Bool), eqCells ks xs ys = some r →
    (∀ ds, P.underlying t = some ds → isAggD ds = true → (∃ vx, x = .agg vx ∧ All2 E w xs vx) ∧ ∃ vy, y = .agg vy ∧ All2 E w ys vy) →
    (∀ ds, P.underlying t = some ds → isAggD ds = false → (∃ a, xs = [a] ∧ Rep E w a x) ∧ ∃ b, ys = [b] ∧ Rep E w b y) → (Op.equalIn d t x y).run P w = .ok r w := by
  intro n
  induction n with
  | zero => intro t ks h; simp [flatK] at h
  | succ n ih =>
    intro t ks h d hd x y xs ys r hr hagg hone
    obtain ⟨d, rfl⟩ : ∃ e, d = e + 1 := ⟨d - 1, by omega⟩
    simp only [flatK] at h
    cases hu : P.underlying t with
    | none => simp [hu] at h
    | some ds =>
      cases ds
      case bool =>
        simp only [hu] at h
        cases h
        obtain ⟨⟨a, rfl, ha⟩, b, rfl, hb⟩ := hone _ hu rfl
        cases a <;> cases b <;> simp [eqCells] at hr
        subst hr
        rw [ha.bool, hb.bool]
        exact run_equalIn_bool' w d t _ _ hu
      case int k =>
        simp only [hu] at h
        cases h
        obtain ⟨⟨a, rfl, ha⟩, b, rfl, hb⟩ := hone _ hu rfl
        cases a <;> cases b <;> simp [eqCells] at hr
        obtain ⟨rfl, rfl⟩ := hr
        rw [ha.int, hb.int]
        exact run_equalIn_int w d t _ k _ _ hu
      case string =>
        simp only [hu] at h
        cases h
        obtain ⟨⟨a, rfl, ha⟩, b, rfl, hb⟩ := hone _ hu rfl
        cases a <;> cases b <;> simp [eqCells] at hr
        subst hr
        rw [ha.str, hb.str, run_equalIn_string w d t _ _ hu, beq_toListBytes]
      case struct fs =>
        simp only [hu] at h
        obtain ⟨⟨vx, rfl, hx⟩, vy, rfl, hy⟩ := hagg _ hu rfl
        split at h
        · cases h
        · rename_i hst
          have hfo : P.fieldsOf t = fs := by simp [Program.fieldsOf, hu]
          rw [run_equalIn_struct w d t vx vy (by rw [hfo]; exact hu) (by simpa using hst), hfo]
          obtain ⟨hlx, hly⟩ := eqCells_len _ _ _ _ hr
          have key : ∀ (l : List Field) (off : Nat) (ks : List FK), flatFs (flatK P n) P l off = some ks → off + ks.length ≤ xs.length → off + ks.length ≤ ys.length →
              ∀ r, eqCells ks ((xs.drop off).take ks.length) ((ys.drop off).take ks.length) = some r → (Op.eqFields d vx vy l).run P w = .ok r w := by
            intro l
            induction l with
            | nil =>
              intro off ks hk h1 h2 r hr
              simp only [flatFs] at hk
              cases hk
              simp [eqCells] at hr
              subst hr
              rfl
            | cons f l ihl =>
              intro off ks hk h1 h2 r hr
              simp only [flatFs] at hk
              cases hkf : flatK P n f.type with
              | none => simp [hkf] at hk
              | some kf =>
                cases hi : P.info? f.type with
                | none => simp [hkf, hi] at hk
                | some i =>
                  simp only [hkf, hi] at hk
                  split at hk
                  · rename_i hc
                    obtain ⟨hnm, hoff, hsz⟩ := hc
                    simp only [Option.map_eq_some_iff] at hk
                    obtain ⟨k2, hk2, rfl⟩ := hk
                    simp only [List.length_append] at h1 h2 hr
                    have cut : ∀ zs : List AVal, (zs.drop off).take (kf.length + k2.length) = (zs.drop off).take kf.length ++ (zs.drop (off + kf.length)).take k2.length := by
                      intro zs
                      rw [List.take_add, List.drop_drop]
                    rw [cut, cut] at hr
                    obtain ⟨r1, r2, e1, e2, rfl⟩ := eqCells_append kf k2 _ _ _ _ (by simp; omega) (by simp; omega) r hr
                    have hrest := ihl (off + kf.length) k2 hk2 (by omega) (by omega) r2 e2
                    have hps : ∃ a b, (part f.type vx f.offset).run P w = .ok a w ∧ (part f.type vy f.offset).run P w = .ok b w ∧ (Op.equalIn d f.type a b).run P w = .ok r1 w := by
                      cases hdf : P.underlying f.type with
                      | none => cases n <;> simp [flatK, hdf] at hkf
                      | some df =>
                        cases hag : isAggD df with
                        | true =>
                          refine ⟨.agg (vx.extract off (off + kf.length)), .agg (vy.extract off (off + kf.length)), ?_, ?_, ?_⟩
                          · unfold part; rw [Sem.run_bind, run_isAgg hdf, Result.andThen_ok, hag]; simp [sizeOf, typeInfo, hi, hsz, hoff]
                          · unfold part; rw [Sem.run_bind, run_isAgg hdf, Result.andThen_ok, hag]; simp [sizeOf, typeInfo, hi, hsz, hoff]
                          · exact ih f.type kf hkf d (by omega) _ _ _ _ r1 e1 (fun ds hds _ => ⟨⟨_, rfl, hx.part off kf.length (by omega)⟩, _, rfl, hy.part off kf.length (by omega)⟩)
                              (fun ds hds hf => by rw [hdf] at hds; cases hds; rw [hag] at hf; cases hf)
                        | false =>
                          have hone : kf.length = 1 := by
                            cases n with
                            | zero => simp [flatK] at hkf
                            | succ n =>
                              simp only [flatK, hdf] at hkf
                              cases df <;> simp [isAggD] at hag <;> simp at hkf <;> subst hkf <;> rfl
                          obtain ⟨a, ha⟩ := getElem?_some_of_lt (l := xs) (i := off) (by omega)
                          obtain ⟨b, hb⟩ := getElem?_some_of_lt (l := ys) (i := off) (by omega)
                          obtain ⟨va, hva⟩ := agetElem?_some_of_lt (l := vx) (i := off) (by have := hx.1; omega)
                          obtain ⟨vb, hvb⟩ := agetElem?_some_of_lt (l := vy) (i := off) (by have := hy.1; omega)
                          refine ⟨va, vb, ?_, ?_, ?_⟩
                          · unfold part; rw [Sem.run_bind, run_isAgg hdf, Result.andThen_ok, hag]; simp [hoff, hva]
                          · unfold part; rw [Sem.run_bind, run_isAgg hdf, Result.andThen_ok, hag]; simp [hoff, hvb]
                          · have t1 : ∀ (zs : List AVal) z, zs[off]? = some z → (zs.drop off).take kf.length = [z] := by
                              intro zs z hz
                              rw [hone, List.take_one, List.head?_drop, hz]
                              rfl
                            rw [t1 xs a ha, t1 ys b hb] at e1
                            exact ih f.type kf hkf d (by omega) _ _ _ _ r1 e1 (fun ds hds hf => by rw [hdf] at hds; cases hds; rw [hag] at hf; cases hf)
                              (fun ds hds _ => ⟨⟨a, rfl, hx.2 off a va ha hva⟩, b, rfl, hy.2 off b vb hb hvb⟩)
                    obtain ⟨a, b, p1, p2, p3⟩ := hps
                    simp only [Op.eqFields, if_pos hnm, Sem.run_bind, p1, p2, p3, Result.andThen_ok, Sem.run_ite]
                    cases r1
                    · simp
                    · simpa using hrest
                  · cases hk
          refine key fs.toList 0 ks h (by omega) (by omega) r ?_
          rw [List.drop_zero, List.drop_zero, ← hlx, List.take_length, hlx, ← hly, List.take_length]
          exact hr
      all_goals (simp only [hu] at h; cases h)
theorem intA_sound {op : BinOp} {k : IntKind} {a b : Int} {r : AVal} (h : intA op k a b = some r) (t : TypeId) : ∃ v, (binOp op t (.int k a) (.int k b)).run P w = .ok v w ∧ Rep E w r v := by
  have int : ∀ n, ∃ v, (Result.ok (Value.int k n) w : Result Value) = .ok v w ∧ Rep E w (.int k n) v := fun n => ⟨_, rfl, .clo (.int k n)⟩
  have bl : ∀ n, ∃ v, (Result.ok (Value.bool n) w : Result Value) = .ok v w ∧ Rep E w (.bool n) v := fun n => ⟨_, rfl, .clo (.bool n)⟩
  have hk : ¬ k ≠ k := fun e => e rfl
  cases op <;> simp only [intA] at h <;> try (cases h; done)
  case add => cases h; simp only [binOp, Op.intArith, if_neg hk]; exact int _
  case sub => cases h; simp only [binOp, Op.intArith, if_neg hk]; exact int _
  case mul => cases h; simp only [binOp, Op.intArith, if_neg hk]; exact int _
  case quo => split at h <;> cases h; rename_i hb; simp only [binOp, Op.intDiv, if_neg hk, if_neg hb]; exact int _
  case rem => split at h <;> cases h; rename_i hb; simp only [binOp, Op.intDiv, if_neg hk, if_neg hb]; exact int _
  case and => cases h; simp only [binOp, Op.intBits, if_neg hk]; exact int _
  case or => cases h; simp only [binOp, Op.intBits, if_neg hk]; exact int _
  case xor => cases h; simp only [binOp, Op.intBits, if_neg hk]; exact int _
  case eql => cases h; simp only [binOp, Op.intCmp, if_neg hk]; exact bl _
  case neq => cases h; simp only [binOp, Op.intCmp, if_neg hk]; exact bl _
  case lss => cases h; simp only [binOp, Op.intCmp, if_neg hk]; exact bl _
  case leq => cases h; simp only [binOp, Op.intCmp, if_neg hk]; exact bl _
  case gtr => cases h; simp only [binOp, Op.intCmp, if_neg hk]; exact bl _
  case geq => cases h; simp only [binOp, Op.intCmp, if_neg hk]; exact bl _
end
end Go.Am

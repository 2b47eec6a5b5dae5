/- Frozen values; calls by mode. -/
import Derived.Test.YtbghmemejbbhfaaGreatAmL
set_option linter.unusedVariables false
set_option linter.unusedSimpArgs false
namespace Go.Am
open Go

section
variable {P : Program} {E : Env} {w : World} {h : Heap}
theorem Rep.func2 {fn : Fn} {a b : List AVal} {v : Value} (h : Rep E w (.func fn a b) v) : ∃ va vb, v = .func fn va vb ∧ a.length = va.size ∧ b.length = vb.size ∧
    (∀ (i : Nat) (c : AVal) (v : Value), a[i]? = some c → va[i]? = some v → Rep E w c v) ∧ ∀ (i : Nat) (c : AVal) (v : Value), b[i]? = some c → vb[i]? = some v → Rep E w c v := by
  cases h with
  | clo h => cases h with | func _ _ _ va vb hla hlb hra hrb => exact ⟨va, vb, rfl, hla, hlb, fun i c v h1 h2 => .clo (hra i c v h1 h2), fun i c v h1 h2 => .clo (hrb i c v h1 h2)⟩
  | func _ _ _ va vb hla hlb hra hrb => exact ⟨va, vb, rfl, hla, hlb, hra, hrb⟩
theorem snap_cells (h : Heap) : ∀ (n : Nat) (x x' : AVal), snapF h n x = some x' → x'.cells.length = x.cells.length ∧ ∀ (j : Nat) (c : AVal), x.cells[j]? = some c → ∃ c', x'.cells[j]? = some c' ∧ snapF h n c = some c' := by
  intro n x x' hx
  have one : x.cells = [x] → x'.cells = [x'] → x'.cells.length = x.cells.length ∧ ∀ (j : Nat) (c : AVal), x.cells[j]? = some c → ∃ c', x'.cells[j]? = some c' ∧ snapF h n c = some c' := by
    intro e1 e2
    rw [e1, e2]
    refine ⟨rfl, fun j c hj => ?_⟩
    cases j with
    | zero => simp at hj; subst hj; exact ⟨x', rfl, hx⟩
    | succ j => simp at hj
  cases n with
  | zero => simp [snapF] at hx
  | succ n =>
    cases x <;> simp only [snapF] at hx
    case agg cs =>
      simp only [Option.map_eq_some_iff] at hx
      obtain ⟨l, hl, rfl⟩ := hx
      obtain ⟨h1, h2⟩ := mapO_some hl
      refine ⟨h1.symm, fun j c hj => ?_⟩
      obtain ⟨c', hc'⟩ := getElem?_some_of_lt (l := l) (i := j) (by rw [← h1]; exact (List.getElem?_eq_some_iff.1 hj).1)
      exact ⟨c', hc', snapF_mono h n _ _ (h2 j c c' hj hc')⟩
    case tup cs => simp only [Option.map_eq_some_iff] at hx; obtain ⟨l, hl, rfl⟩ := hx; exact one rfl rfl
    case func fn a b =>
      split at hx
      · cases hx; exact one rfl rfl
      · cases hx
    case iface t v => simp only [Option.map_eq_some_iff] at hx; obtain ⟨l, hl, rfl⟩ := hx; exact one rfl rfl
    case own id st len =>
      split at hx
      · split at hx
        · simp only [Option.map_eq_some_iff] at hx; obtain ⟨l, hl, rfl⟩ := hx; exact one rfl rfl
        · cases hx
      · cases hx
    case map id =>
      split at hx
      · split at hx
        · cases hx; exact one rfl rfl
        · cases hx
      · cases hx
    case ptr id i off =>
      split at hx
      · split at hx
        · simp only [Option.map_eq_some_iff] at hx; obtain ⟨l, hl, rfl⟩ := hx; exact one rfl rfl
        · cases hx
      · simp only [Option.map_eq_some_iff] at hx; obtain ⟨l, hl, rfl⟩ := hx; exact one rfl rfl
      · cases hx
    all_goals first | (cases hx; exact one rfl rfl) | cases hx
theorem snap_sound (s : Sim E h w) {S' : Nat → Prop} (hS : ∀ b, E.S b → S' b) (himA : ∀ id o sl b, h[id]? = some o → E.m id = some sl → sl.blk = some b → S' b) :
    ∀ (n : Nat) (a a' : AVal) (v : Value), snapF h n a = some a' → Rep E w a v → RepC S' w a' v := by
  have him : ∀ id o b csz sz, h[id]? = some o → E.m id = some (.live b csz sz) → S' b := fun id o b csz sz h1 h2 => himA id o _ b h1 h2 rfl
  have himM : ∀ id o b, h[id]? = some o → E.m id = some (.mapS b) → S' b := fun id o b h1 h2 => himA id o _ b h1 h2 rfl
  intro n
  induction n with
  | zero => intro a a' v hh; simp [snapF] at hh
  | succ n ih =>
    intro a a' v hh hr
    have same : (∃ hc : RepC E.S w a v, True) → a' = a → RepC S' w a' v := by
      rintro ⟨hc, _⟩ rfl
      exact hc.mono hS fun _ _ => rfl
    have row : ∀ (b o sz : Nat) (es xs : List AVal), S' b → mapO (snapF h n) es = some xs → (∀ x ∈ es, x.cells.length = sz) → (∀ (i : Nat) (x : AVal), es[i]? = some x → CellsAt E w b (o + i * sz) x) →
        xs.length = es.length ∧ (∀ x ∈ xs, x.cells.length = sz) ∧ ∃ vs : Nat → Nat → Value, (∀ (i j : Nat) (x c : AVal), xs[i]? = some x → x.cells[j]? = some c → S' b ∧ w.cell? ⟨b, o + (i * sz + j), none⟩ = some (vs i j)) ∧
          ∀ (i j : Nat) (x c : AVal), xs[i]? = some x → x.cells[j]? = some c → RepC S' w c (vs i j) := by
      intro b o sz es xs hb hm hs hc
      obtain ⟨h1, h2⟩ := mapO_some hm
      have back : ∀ (i : Nat) (x' : AVal), xs[i]? = some x' → ∃ x, es[i]? = some x ∧ snapF h n x = some x' := by
        intro i x' hx'
        obtain ⟨x, hx⟩ := getElem?_some_of_lt (l := es) (i := i) (by rw [h1]; exact (List.getElem?_eq_some_iff.1 hx').1)
        exact ⟨x, hx, h2 i x x' hx hx'⟩
      have cell : ∀ (i j : Nat) (x' c' : AVal), xs[i]? = some x' → x'.cells[j]? = some c' → ∃ v, w.cell? ⟨b, o + (i * sz + j), none⟩ = some v ∧ RepC S' w c' v := by
        intro i j x' c' hx' hj
        obtain ⟨x, hx, hsx⟩ := back i x' hx'
        obtain ⟨g1, g2⟩ := snap_cells h n x x' hsx
        obtain ⟨c, hcj⟩ := getElem?_some_of_lt (l := x.cells) (i := j) (by rw [← g1]; exact (List.getElem?_eq_some_iff.1 hj).1)
        obtain ⟨c2, hc2, hsc⟩ := g2 j c hcj
        rw [hj] at hc2
        cases hc2
        obtain ⟨v, hv, hrv⟩ := hc i x hx j c hcj
        exact ⟨v, by rw [← Nat.add_assoc]; exact hv, ih c c' v hsc hrv⟩
      refine ⟨h1.symm, fun x' hx' => ?_, fun i j => (w.cell? ⟨b, o + (i * sz + j), none⟩).getD undef, fun i j x' c' hx' hj => ?_, fun i j x' c' hx' hj => ?_⟩
      · obtain ⟨i, hi⟩ := List.mem_iff_getElem?.1 hx'
        obtain ⟨x, hx, hsx⟩ := back i x' hi
        rw [(snap_cells h n x x' hsx).1]
        exact hs x (List.mem_of_getElem? hx)
      · obtain ⟨v, hv, _⟩ := cell i j x' c' hx' hj
        exact ⟨hb, by simp only [hv, Option.getD_some]⟩
      · obtain ⟨v, hv, hrv⟩ := cell i j x' c' hx' hj
        simp only [hv, Option.getD_some]
        exact hrv
    cases a <;> simp only [snapF] at hh
    case int => cases hh; cases hr with | clo hc => exact same ⟨hc, trivial⟩ rfl
    case bool => cases hh; cases hr with | clo hc => exact same ⟨hc, trivial⟩ rfl
    case str => cases hh; cases hr with | clo hc => exact same ⟨hc, trivial⟩ rfl
    case sl => cases hh; cases hr with | clo hc => exact same ⟨hc, trivial⟩ rfl
    case iptr => cases hh; cases hr with | clo hc => exact same ⟨hc, trivial⟩ rfl
    case nilp => cases hh; cases hr with | clo hc => exact same ⟨hc, trivial⟩ rfl
    case nilm => cases hh; cases hr with | clo hc => exact same ⟨hc, trivial⟩ rfl
    case nilf => cases hh; cases hr with | clo hc => exact same ⟨hc, trivial⟩ rfl
    case nili => cases hh; cases hr with | clo hc => exact same ⟨hc, trivial⟩ rfl
    case cmap => cases hh; cases hr with | clo hc => exact same ⟨hc, trivial⟩ rfl
    case map id =>
      split at hh
      · rename_i ks vs ho
        split at hh
        · rename_i ks' vs' h1 h2
          cases hh
          obtain ⟨b, rfl, hmm⟩ := hr.map'
          rcases hmm with hmm | hmm
          · have hk := s.obj id _ _ ho hmm
            simp only [ObjOk] at hk
            obtain ⟨es, clock, hb, l1, l2, r1, r2⟩ := hk
            obtain ⟨g1, g2⟩ := mapO_some h1
            obtain ⟨k1, k2⟩ := mapO_some h2
            refine .cmap ks' vs' b clock es (himM id _ b ho hmm) hb (by omega) (by omega) (fun i k e hk he => ?_) (fun i v e hv he => ?_)
            · obtain ⟨c0, hc0⟩ := getElem?_some_of_lt (l := ks) (i := i) (by rw [g1]; exact (List.getElem?_eq_some_iff.1 hk).1)
              exact ih c0 k _ (g2 i c0 k hc0 hk) (r1 i c0 e hc0 he)
            · obtain ⟨c0, hc0⟩ := getElem?_some_of_lt (l := vs) (i := i) (by rw [k1]; exact (List.getElem?_eq_some_iff.1 hv).1)
              exact ih c0 v _ (k2 i c0 v hc0 hv) (r2 i c0 e hc0 he)
          · have := s.obj id _ _ ho hmm
            simp [ObjOk] at this
        · cases hh
      · cases hh
    case it => cases hh
    case nil =>
      cases hh
      cases hr with
      | clo hc =>
        cases hc with
        | nil ad => exact .sl [] ad 0 0 0 0 (fun _ _ => undef) (fun h => absurd rfl h) (Nat.le_refl _) (fun x hx => by simp at hx) (fun i j x c hx => by simp at hx) (fun i j x c hx => by simp at hx)
    case agg cs =>
      simp only [Option.map_eq_some_iff] at hh
      obtain ⟨l, hl, rfl⟩ := hh
      obtain ⟨vs, rfl, h1, h2⟩ := hr.agg'
      obtain ⟨g1, g2⟩ := mapO_some hl
      refine .agg l vs (by omega) fun i c v hc hv => ?_
      obtain ⟨c0, hc0⟩ := getElem?_some_of_lt (l := cs) (i := i) (by rw [g1]; exact (List.getElem?_eq_some_iff.1 hc).1)
      exact ih c0 c v (g2 i c0 c hc0 hc) (h2 i c0 v hc0 hv)
    case tup cs =>
      simp only [Option.map_eq_some_iff] at hh
      obtain ⟨l, hl, rfl⟩ := hh
      obtain ⟨vs, rfl, h1, h2⟩ := hr.tup'
      obtain ⟨g1, g2⟩ := mapO_some hl
      refine .tup l vs (by omega) fun i c v hc hv => ?_
      obtain ⟨c0, hc0⟩ := getElem?_some_of_lt (l := cs) (i := i) (by rw [g1]; exact (List.getElem?_eq_some_iff.1 hc).1)
      exact ih c0 c v (g2 i c0 c hc0 hc) (h2 i c0 v hc0 hv)
    case func fn xs ys =>
      split at hh
      · rename_i as bs ha hb
        cases hh
        obtain ⟨va, vb, rfl, l1, l2, r1, r2⟩ := hr.func2
        obtain ⟨g1, g2⟩ := mapO_some ha
        obtain ⟨k1, k2⟩ := mapO_some hb
        refine .func fn as bs va vb (by omega) (by omega) (fun i c v hc hv => ?_) (fun i c v hc hv => ?_)
        · obtain ⟨c0, hc0⟩ := getElem?_some_of_lt (l := xs) (i := i) (by rw [g1]; exact (List.getElem?_eq_some_iff.1 hc).1)
          exact ih c0 c v (g2 i c0 c hc0 hc) (r1 i c0 v hc0 hv)
        · obtain ⟨c0, hc0⟩ := getElem?_some_of_lt (l := ys) (i := i) (by rw [k1]; exact (List.getElem?_eq_some_iff.1 hc).1)
          exact ih c0 c v (k2 i c0 c hc0 hc) (r2 i c0 v hc0 hv)
      · cases hh
    case iface t x =>
      simp only [Option.map_eq_some_iff] at hh
      obtain ⟨x', hx', rfl⟩ := hh
      obtain ⟨u, rfl, hu⟩ := hr.iface'
      exact .iface t x' u (ih _ _ _ hx' hu)
    case own id st len =>
      split at hh
      · rename_i sz es ho
        split at hh
        · rename_i hle
          simp only [Option.map_eq_some_iff] at hh
          obtain ⟨xs, hxs, rfl⟩ := hh
          cases hr with
          | clo hc => cases hc
          | ownD _ _ _ ad cap hm hcap =>
            have := s.obj id _ _ ho hm
            simp [ObjOk] at this
          | own _ _ _ ad cap b csz bsz hm hcap hp =>
            have hk := s.obj id _ _ ho hm
            simp only [ObjOk] at hk
            obtain ⟨rfl, hrow, hle2, hs, hcells⟩ := hk
            obtain ⟨h1, h2, vs, h3, h4⟩ := row b (st * sz) sz _ xs (him _ _ _ _ _ ho hm) hxs (fun x hx => hs x (List.mem_of_mem_drop (List.mem_of_mem_take hx))) (fun i x hx => by
              have hi : i < len := by
                have := (List.getElem?_eq_some_iff.1 hx).1
                simp at this; omega
              rw [List.getElem?_take, if_pos hi, List.getElem?_drop] at hx
              have := hcells _ x hx
              rw [Nat.add_mul] at this
              exact this)
            have hlen : xs.length = len := by rw [h1]; simp; omega
            have := RepC.sl (S := S') (w := w) xs ad cap sz b (st * sz) vs (fun hne => ?_) (by omega) h2 h3 h4
            · rw [hlen] at this; exact this
            · rcases hp with ⟨h5, _⟩ | ⟨h5, _⟩
              · exact absurd (List.eq_nil_of_length_eq_zero (by omega)) hne
              · exact h5
        · cases hh
      · cases hh
    case ptr id i off =>
      cases ho : h[id]? with
      | none => simp [ho] at hh
      | some o =>
        cases hr with
        | clo hc => cases hc
        | ptrD _ _ _ ad hm =>
          have := s.obj id _ _ ho hm
          cases o <;> simp only [ObjOk] at this <;> simp [ho] at hh
        | ptr _ _ _ b csz bsz hm =>
          have hk := s.obj id _ _ ho hm
          cases o with
          | box x =>
            simp only [ho] at hh
            simp only [ObjOk] at hk
            split at hh
            · rename_i hi
              subst hi
              simp only [Option.map_eq_some_iff] at hh
              obtain ⟨x', hx', rfl⟩ := hh
              obtain ⟨h1, h2, vs, h3, h4⟩ := row b 0 x.cells.length [x] [x'] (him _ _ _ _ _ ho hm) (by simp [mapO, hx']) (fun y hy => by simp at hy; subst hy; rfl) (fun i y hy => by
                cases i with
                | zero => simp at hy; subst hy; simpa using hk.2.2
                | succ i => simp at hy)
              have := RepC.iptr (S := S') (w := w) [x'] 0 off x.cells.length b 0 vs h2 h3 h4
              simpa using this
            · cases hh
          | arr sz es =>
            simp only [ho, Option.map_eq_some_iff] at hh
            obtain ⟨xs, hxs, rfl⟩ := hh
            simp only [ObjOk] at hk
            obtain ⟨rfl, hrow, hle2, hs, hcells⟩ := hk
            obtain ⟨h1, h2, vs, h3, h4⟩ := row b 0 sz es xs (him _ _ _ _ _ ho hm) hxs hs (fun i x hx => by rw [Nat.zero_add]; exact hcells i x hx)
            have := RepC.iptr (S := S') (w := w) xs i off sz b 0 vs h2 h3 h4
            rw [Nat.zero_add] at this
            exact this
          | amap ks vs => simp [ho] at hh
          | iter q pos => simp [ho] at hh
          | dead => simp [ho] at hh

/-! ### Calls -/
def Reps (E : Env) (w : World) (as : List AVal) (vs : Array Value) : Prop := as.length = vs.size ∧ ∀ (i : Nat) (c : AVal) (v : Value), as[i]? = some c → vs[i]? = some v → Rep E w c v
/-- What a call of the concrete program comes to when Am's is 'r'. -/
def Post (E : Env) (h : Heap) (w : World) (r : ARes) : Ending → World → Prop
  | .returned u, w' => ∃ v h' E', r = .ret v h' ∧ Sim E' h' w' ∧ Full E' h' ∧ Ext E h w E' h' w' ∧ Rep E' w' v u
  | .panicked chain, w' => ∃ v h' E' u, r = .pan v h' ∧ chain = [{ v := u, recovered := false }] ∧ Sim E' h' w' ∧ Full E' h' ∧ Ext E h w E' h' w' ∧ Rep E' w' v u
  | .outgrown, _ => False
def Sound (cf : Cfg) (C : COr) : Prop := ∀ f args h r, C f args h = some r → ∀ (E : Env) (w : World) (vs : Array Value), bodied cf.P f = true → Sim E h w → Full E h → GOk cf.G E.S w → Reps E w args vs → Calls cf.P f vs w (Post E h w r)

theorem GOk.mono {G : Nat → Option AVal} {S S' : Nat → Prop} {w w' : World} (hg : GOk G S w) (hS : ∀ b, S b → S' b) (hw : ∀ b, S b → w'.heap[b]? = w.heap[b]?) : GOk G S' w' := fun g v h => (hg g v h).mono hS hw
theorem GOk.ext {G : Nat → Option AVal} {E' : Env} {h' : Heap} {w' : World} (hg : GOk G E.S w) (s : Sim E h w) (x : Ext E h w E' h' w') : GOk G E'.S w' := hg.mono x.S fun b hb => x.Smem s hb
theorem Reps.ext {E' : Env} {h' : Heap} {w' : World} {as : List AVal} {vs : Array Value} (hr : Reps E w as vs) (s : Sim E h w) (x : Ext E h w E' h' w') : Reps E' w' as vs := ⟨hr.1, fun i c v h1 h2 => (hr.2 i c v h1 h2).ext x s⟩
/-- A world of closed values alone. -/
def Env.bare (S : Nat → Prop) : Env := ⟨fun _ => none, S⟩
theorem Env.bare_im {S : Nat → Prop} {b : Nat} : ¬ (Env.bare S).im b := by rintro ⟨id, s, h, _⟩; cases h
theorem Sim.bare {S : Nat → Prop} (h : ∀ b, S b → b < w.heap.size) : Sim (Env.bare S) [] w :=
  ⟨fun id o s ho => by simp at ho, fun i j si sj b hi => by simp [Env.bare] at hi, fun b hb => absurd hb Env.bare_im, fun b hb => absurd hb Env.bare_im, h⟩
/-- What a call that shares nothing leaves behind. -/
def Env.plus (E : Env) (w : World) (S1 : Nat → Prop) : Env := ⟨E.m, fun b => E.S b ∨ (w.heap.size ≤ b ∧ S1 b)⟩
theorem Sim.plus {w1 : World} {S1 : Nat → Prop} (s : Sim E h w) (hw : ∀ b, b < w.heap.size → w1.heap[b]? = w.heap[b]?) (hs : w.heap.size ≤ w1.heap.size) (h1 : ∀ b, S1 b → b < w1.heap.size) (hos : w1.os = w.os) (ht : w1.tape = w.tape) (ho : w1.output = w.output) :
    Sim (E.plus w S1) h w1 ∧ Ext E h w (E.plus w S1) h w1 := by
  have hx : Ext E h w (E.plus w S1) h w1 := ⟨fun b hb => .inl hb, fun b hb => hb.elim .inl fun h => .inr h.1, fun b hb _ => hw b hb, fun id sl hm => .inl hm, fun b hb => .inl hb, Nat.le_refl _, hs, hos, ht, ho⟩
  refine ⟨⟨fun id o sl hid hm => (s.obj id o sl hid hm).mono (fun a v hr => hr.ext hx s) fun b hb => hw b (s.lt b ⟨id, sl, hm, hb⟩), s.inj, fun b hb hS => ?_, fun b hb => Nat.lt_of_lt_of_le (s.lt b hb) hs, fun b hb => ?_⟩, hx⟩
  · rcases hS with h | ⟨h, _⟩
    · exact s.nS b hb h
    · have := s.lt b hb; omega
  · rcases hb with h | ⟨_, h⟩
    · exact Nat.lt_of_lt_of_le (s.Slt b h) hs
    · exact h1 b h
theorem snapL_reps (s : Sim E h w) {S' : Nat → Prop} (hS : ∀ b, E.S b → S' b) (himA : ∀ id o sl b, h[id]? = some o → E.m id = some sl → sl.blk = some b → S' b) {as as' : List AVal} {vs : Array Value} (hl : snapL h as = some as') (hr : Reps E w as vs) :
    Reps (Env.bare S') w as' vs := by
  obtain ⟨h1, h2⟩ := mapO_some hl
  refine ⟨by rw [← h1]; exact hr.1, fun i c v hc hv => ?_⟩
  obtain ⟨c0, hc0⟩ := getElem?_some_of_lt (l := as) (i := i) (by rw [h1]; exact (List.getElem?_eq_some_iff.1 hc).1)
  exact .clo (snap_sound s hS himA _ _ _ _ (h2 i c0 c hc0 hc) (hr.2 i c0 v hc0 hv))
theorem scal_rep {S : Nat → Prop} {w1 : World} {E1 : Env} {v : AVal} {u : Value} (hs : v.scal = true) (hr : Rep E1 w1 v u) : RepC S w1 v u := by
  cases v <;> simp only [AVal.scal] at hs <;> try (exact hr.closed hs S w1)
  rename_i vs
  obtain ⟨us, rfl, h1, h2⟩ := hr.tup'
  exact .tup vs us h1 fun i c v hc hv => (h2 i c v hc hv).closed (List.all_eq_true.1 hs c (List.mem_of_getElem? hc)) S w1
/-- A CALL THAT SHARES NOTHING, whatever else has got a name. -/
def PPost (E : Env) (h H : Heap) (w : World) (r : ARes) : Ending → World → Prop
  | .returned u, w1 => ∃ v S1, r = .ret v h ∧ Sim (E.plus w S1) H w1 ∧ Ext E H w (E.plus w S1) H w1 ∧ Rep (E.plus w S1) w1 v u
  | .panicked chain, w1 => ∃ v S1 u, r = .pan v h ∧ chain = [{ v := u, recovered := false }] ∧ Sim (E.plus w S1) H w1 ∧ Ext E H w (E.plus w S1) H w1 ∧ Rep (E.plus w S1) w1 v u
  | .outgrown, _ => False
theorem pcall_sound {cf : Cfg} {C : COr} {H : Heap} (hC : Sound cf C) {f : FuncId} (hm : cf.M f = .P) {args : List AVal} {r : ARes} {vs : Array Value} (hc : callM cf C f args h = some r) (hb : bodied cf.P f = true) (hp : h <+: H) (sH : Sim E H w) (hg : GOk cf.G E.S w) (hr : Reps E w args vs) :
    Calls cf.P f vs w (PPost E h H w r) := by
  have s : Sim E h w := sH.sub hp
  unfold callM at hc
  simp only [hm] at hc
  have s0 : Sim E [] w := s.sub List.nil_prefix
  cases hs : snapL [] args with
  | some as =>
    simp only [hs] at hc
    have hr0 : Reps (Env.bare E.S) w as vs := snapL_reps s0 (fun _ h => h) (fun id o sl b ho => by simp at ho) hs hr
    cases hq : C f as [] with
    | none => simp [hq] at hc
    | some q =>
      simp only [hq] at hc
      refine Calls.mono (hC f as [] q hq (Env.bare E.S) w vs hb (Sim.bare s.Slt) (fun _ _ => rfl) hg hr0) fun e w1 he => ?_
      have back : ∀ (v v' : AVal) (u : Value) (h1 : Heap) (E1 : Env), Sim E1 h1 w1 → Full E1 h1 → Ext (Env.bare E.S) [] w E1 h1 w1 → Rep E1 w1 v u → snap h1 v = some v' → ∃ S1, Sim (E.plus w S1) H w1 ∧ Ext E H w (E.plus w S1) H w1 ∧ Rep (E.plus w S1) w1 v' u := by
        intro v v' u h1 E1 s1 _ x1 r1 hsn
        have hrc := snap_sound s1 (S' := fun b => E1.S b ∨ E1.im b) (fun _ h => .inl h) (fun id o sl b _ hm hb => .inr ⟨id, _, hm, hb⟩) _ _ _ _ hsn r1
        obtain ⟨p1, p2⟩ := sH.plus (w1 := w1) (S1 := fun b => E1.S b ∨ E1.im b) (fun b hb => x1.mem b hb Env.bare_im) x1.size (fun b hb => hb.elim (s1.Slt b) (s1.lt b)) x1.os x1.tape x1.output
        refine ⟨_, p1, p2, .clo (hrc.mono (fun b hb => ?_) fun _ _ => rfl)⟩
        rcases hb with h2 | h2
        · rcases x1.SN b h2 with h3 | h3
          · exact .inl h3
          · exact .inr ⟨h3, .inl h2⟩
        · rcases x1.new b h2 with h3 | h3
          · exact absurd h3 Env.bare_im
          · exact .inr ⟨h3, .inr h2⟩
      cases e with
      | returned u =>
        obtain ⟨v, h1, E1, rfl, s1, f1, x1, r1⟩ := he
        simp only [Option.map_eq_some_iff] at hc
        obtain ⟨v', hv', rfl⟩ := hc
        obtain ⟨S1, g1, g3, g4⟩ := back v v' u h1 E1 s1 f1 x1 r1 hv'
        exact ⟨v', S1, rfl, g1, g3, g4⟩
      | panicked chain =>
        obtain ⟨v, h1, E1, u, rfl, rfl, s1, f1, x1, r1⟩ := he
        simp only [Option.map_eq_some_iff] at hc
        obtain ⟨v', hv', rfl⟩ := hc
        obtain ⟨S1, g1, g3, g4⟩ := back v v' u h1 E1 s1 f1 x1 r1 hv'
        exact ⟨v', S1, u, rfl, rfl, g1, g3, g4⟩
      | outgrown => exact he.elim
  | none =>
    simp only [hs] at hc
    cases hs2 : snapL h args with
    | none => simp [hs2] at hc
    | some as =>
      simp only [hs2] at hc
      have hr0 : Reps (Env.bare fun b => E.S b ∨ E.im b) w as vs := snapL_reps s (fun _ h => .inl h) (fun id o sl b _ hm hb => .inr ⟨id, _, hm, hb⟩) hs2 hr
      cases hq : C f as [] with
      | none => simp [hq] at hc
      | some q =>
        cases q with
        | pan v h1 => simp [hq] at hc
        | ret v h1 =>
          simp only [hq] at hc
          split at hc
          · rename_i hsc
            cases hc
            refine Calls.mono (hC f as [] _ hq (Env.bare fun b => E.S b ∨ E.im b) w vs hb (Sim.bare fun b hb => hb.elim (s.Slt b) (s.lt b)) (fun _ _ => rfl) (hg.mono (fun _ h => .inl h) fun _ _ => rfl) hr0) fun e w1 he => ?_
            cases e with
            | returned u =>
              obtain ⟨v2, h2, E1, he2, s1, f1, x1, r1⟩ := he
              cases he2
              obtain ⟨p1, p2⟩ := sH.plus (w1 := w1) (S1 := fun _ => False) (fun b hb => x1.mem b hb Env.bare_im) x1.size (fun b hb => hb.elim) x1.os x1.tape x1.output
              exact ⟨v, _, rfl, p1, p2, .clo (scal_rep hsc r1)⟩
            | panicked chain =>
              obtain ⟨v2, h2, E1, u, he2, _⟩ := he
              cases he2
            | outgrown => exact he.elim
          · cases hc
theorem callM_sound {cf : Cfg} {C : COr} (hC : Sound cf C) (hX : ∀ f, cf.M f ≠ .X) {f : FuncId} {args : List AVal} {r : ARes} {vs : Array Value} (hc : callM cf C f args h = some r) (hb : bodied cf.P f = true) (s : Sim E h w) (hf : Full E h) (hg : GOk cf.G E.S w) (hr : Reps E w args vs) :
    Calls cf.P f vs w (Post E h w r) := by
  cases hm : cf.M f with
  | X => exact absurd hm (hX f)
  | F => unfold callM at hc; simp only [hm] at hc; exact hC f args h r hc E w vs hb s hf hg hr
  | P =>
    refine Calls.mono (pcall_sound hC hm hc hb (List.prefix_refl _) s hg hr) fun e w1 he => ?_
    cases e with
    | returned u => obtain ⟨v, S1, rfl, p1, p2, p3⟩ := he; exact ⟨v, h, _, rfl, p1, hf, p2, p3⟩
    | panicked chain => obtain ⟨v, S1, u, rfl, rfl, p1, p2, p3⟩ := he; exact ⟨v, h, _, u, rfl, rfl, p1, hf, p2, p3⟩
    | outgrown => exact he.elim
end
end Go.Am

/- Am's calls on encoded values: the frame of the pure lemmas. -/
import Derived.Test.YtbghmemejbbhfaaGreatAmS
import Derived.Test.YtbghmemejbbhfaaGreatAmW
import Derived.Test.YtbghmemejbbhfaaGreatRows
set_option linter.unusedVariables false
set_option linter.unusedSimpArgs false
namespace Go.Am
open Go
/-- A call that shares nothing, on closed arguments. -/
theorem pcall_of {cf : Cfg} {f : FuncId} {args : List AVal} {res : AVal} (hm : cf.M f = .P) (hp : cf.pr f = none) (ha : snapL [] args = some args) (hw : wpF cf f args [] (fun r => ∃ v h, r = .ret v h ∧ snap h v = some res)) :
    ∀ h, callM cf (call cf) f args h = some (.ret res h) := by
  intro h
  obtain ⟨r, hr, v, h1, rfl, hs⟩ := wpF_sound hp hw
  unfold callM
  simp only [hm, ha, hr, hs, Option.map_some]
theorem fin_bool {h : Heap} {b c : Bool} (hb : b = c) : ∃ v h1, ARes.ret (.bool b) h = .ret v h1 ∧ snap h1 v = some (.bool c) := ⟨_, _, rfl, by subst hb; rfl⟩
theorem fin_int {h : Heap} {k : IntKind} {b c : Int} (hb : b = c) : ∃ v h1, ARes.ret (.int k b) h = .ret v h1 ∧ snap h1 v = some (.int k c) := ⟨_, _, rfl, by subst hb; rfl⟩
theorem upd_id {tm : Nat → AVal} {k : Nat} {v : AVal} (h : tm k = v) : upd tm k v = tm := by
  funext j
  unfold upd
  split
  · rename_i e; subst e; exact h.symm
  · rfl
theorem upd_id' {tm : Nat → AVal} {k : Nat} {v : AVal} (h : tm k = v) : tm = upd tm k v := (upd_id h).symm
theorem mapO_id {f : AVal → Option AVal} : ∀ (l : List AVal), (∀ x ∈ l, f x = some x) → mapO f l = some l
  | [], _ => rfl
  | x :: l, h => by simp only [mapO, h x (by simp), mapO_id l fun y hy => h y (by simp [hy])]
theorem snap_own0 {sz : Nat} {es : List AVal} (he : ∀ x ∈ es, snapF [.arr sz es] 4194303 x = some x) : snap [.arr sz es] (.own 0 0 es.length) = some (.sl es) := by
  show (match ([AObj.arr sz es])[0]? with
    | some (.arr _ es') => if 0 + es.length ≤ es'.length then (mapO (snapF [.arr sz es] 4194303) ((es'.drop 0).take es.length)).map AVal.sl else none
    | _ => none) = _
  simp only [List.getElem?_cons_zero, Nat.zero_add, Nat.le_refl, if_true, List.drop_zero, List.take_length]
  rw [mapO_id es he]
  rfl
theorem snap_ownk {h : Heap} {k sz : Nat} {es : List AVal} (hk : h[k]? = some (.arr sz es)) (he : ∀ x ∈ es, snapF h 4194303 x = some x) : snap h (.own k 0 es.length) = some (.sl es) := by
  show (match h[k]? with
    | some (.arr _ es') => if 0 + es.length ≤ es'.length then (mapO (snapF h 4194303) ((es'.drop 0).take es.length)).map AVal.sl else none
    | _ => none) = _
  rw [hk]
  simp only [Nat.zero_add, Nat.le_refl, if_true, List.drop_zero, List.take_length]
  rw [mapO_id es he]
  rfl
theorem get_new {h h' : Heap} {k : Nat} {o : AObj} (hk : k = h.length) (e : h' = h ++ [o]) : h'[k]? = some o := by subst hk; subst e; simp
theorem get_old {h h' : Heap} {i : Nat} {o x : AObj} (e : h' = h ++ [o]) (hi : h[i]? = some x) : h'[i]? = some x := by
  subst e
  rw [List.getElem?_append_left (List.getElem?_eq_some_iff.1 hi).1]
  exact hi
theorem get_same {h h' : Heap} {i : Nat} {o x : AObj} (e : h' = h.set i o) (hi : h[i]? = some x) : h'[i]? = some o := by
  subst e
  simp [(List.getElem?_eq_some_iff.1 hi).1]
theorem get_ne {h h' : Heap} {i j : Nat} {o x : AObj} (e : h' = h.set i o) (hj : h[j]? = some x) (hij : i ≠ j) : h'[j]? = some x := by
  subst e
  rw [List.getElem?_set_ne hij]
  exact hj
theorem get_lt {h : Heap} {i : Nat} {x : AObj} (hi : h[i]? = some x) : i < h.length := (List.getElem?_eq_some_iff.1 hi).1
theorem fill_step {α : Type} (f : α → AVal) (z : AVal) (xs : List α) (j m : Nat) (h : j < xs.length) : ((xs.take j).map f ++ List.replicate (m + 1) z).set j (f xs[j]) = (xs.take (j + 1)).map f ++ List.replicate m z := by
  have hl : ((xs.take j).map f).length = j := by simp; omega
  rw [List.set_append_right _ _ (by omega), hl, Nat.sub_self, List.replicate_succ, List.set_cons_zero, List.take_add_one, List.map_append, List.append_assoc]
  simp [h]
theorem fill_get {α : Type} (f : α → AVal) (z : AVal) (xs : List α) (j m : Nat) (h : j < xs.length) : ((xs.take j).map f ++ List.replicate (m + 1) z)[j]? = some z := by
  have hl : ((xs.take j).map f).length = j := by simp; omega
  rw [List.getElem?_append_right (by omega), hl, Nat.sub_self]
  rfl
end Go.Am
namespace Go.Proofs.YtbghmemejbbhfaaGreat
open Go Go.Am
/-- The functions that range over functions have contracts of their own. -/
def noY (f : FuncId) : Bool :=
  !(f == 47)
abbrev Prims := FuncId → Option (List AVal → Heap → Option ARes)
set_option maxRecDepth 100000 in
noncomputable def cfp (pr : Prims) : Cfg := { P := Tryz.prog, M := fun _ => .P, pr := pr, G := fun _ => none }
structure Okp (pr : Prims) : Prop where
  out : ∀ f, noY f = true → pr f = none
/-- A call comes to a value. -/
def Ret (pr : Prims) (f : FuncId) (args : List AVal) (res : AVal) : Prop := ∀ h, callM (cfp pr) (call (cfp pr)) f args h = some (.ret res h)
set_option maxRecDepth 100000 in
theorem ret_of {pr : Prims} (hp : Okp pr) {f : FuncId} {args : List AVal} {res : AVal} (hn : noY f = true) (ha : snapL [] args = some args) (hw : wpF (cfp pr) f args [] (fun r => ∃ v h, r = .ret v h ∧ snap h v = some res)) : Ret pr f args res :=
  pcall_of rfl (hp.out f hn) ha hw
set_option maxRecDepth 100000 in
theorem ret_prim {pr : Prims} {f : FuncId} {p : List AVal → Heap → Option ARes} {args : List AVal} {res : AVal} {h1 : Heap} (hp : pr f = some p) (ha : snapL [] args = some args) (hr : p args [] = some (.ret res h1)) (hs : snap h1 res = some res) : Ret pr f args res := by
  intro h
  have hc : call (cfp pr) f args [] = some (.ret res h1) := by
    rw [call_eq]
    unfold callB
    have : (cfp pr).pr f = some p := hp
    simp only [this, hr]
  have hm : (cfp pr).M f = .P := rfl
  unfold callM
  simp only [hm, ha, hc, hs, Option.map_some]
def i64 (n : Int) : AVal := .int .i64 n
theorem nat_step (j : Nat) (h : j < 4611686018427387904) : AVal.int .i64 (IntKind.i64.wrap ((j : Int) + 1)) = i64 ((j + 1 : Nat) : Int) := by
  have : IntKind.i64.wrap ((j : Int) + 1) = ((j + 1 : Nat) : Int) := by
    rw [IntKind.wrap_i64]
    omega
  rw [this]; rfl
structure Cell where
  kind : Int
  a : Int
  b : Int
  n : Int
def Cell.enc (c : Cell) : AVal := .agg [i64 c.kind, i64 c.a, i64 c.b, i64 c.n]
structure Test where
  kind : Int
  no : Bool
  l : Cell
  r : Cell
def Test.enc (t : Test) : AVal := .agg [i64 t.kind, .bool t.no, i64 t.l.kind, i64 t.l.a, i64 t.l.b, i64 t.l.n, i64 t.r.kind, i64 t.r.a, i64 t.r.b, i64 t.r.n]
inductive Plan where
  | mk (kind n : Int) (test : Test) (cells : List Cell) (a b : Int) (keys : List Int) (agg col : Int) (kids : List Plan)
def Plan.kind : Plan → Int | .mk k .. => k
def Plan.n : Plan → Int | .mk _ n .. => n
def Plan.test : Plan → Test | .mk _ _ t .. => t
def Plan.cells : Plan → List Cell | .mk _ _ _ c .. => c
def Plan.a : Plan → Int | .mk _ _ _ _ a .. => a
def Plan.b : Plan → Int | .mk _ _ _ _ _ b .. => b
def Plan.keys : Plan → List Int | .mk _ _ _ _ _ _ ks .. => ks
def Plan.agg : Plan → Int | .mk _ _ _ _ _ _ _ g .. => g
def Plan.col : Plan → Int | .mk _ _ _ _ _ _ _ _ c _ => c
def Plan.kids : Plan → List Plan | .mk _ _ _ _ _ _ _ _ _ k => k
mutual
def Plan.enc : Plan → AVal
  | .mk kind n test cells a b keys agg col kids =>
    .agg [i64 kind, i64 n, i64 test.kind, .bool test.no, i64 test.l.kind, i64 test.l.a, i64 test.l.b, i64 test.l.n, i64 test.r.kind, i64 test.r.a, i64 test.r.b, i64 test.r.n,
      .sl (cells.map Cell.enc), i64 a, i64 b, .sl (keys.map i64), i64 agg, i64 col, .sl (Plan.encs kids)]
def Plan.encs : List Plan → List AVal
  | [] => []
  | p :: ps => p.enc :: Plan.encs ps
end
theorem encs_eq (ps : List Plan) : Plan.encs ps = ps.map Plan.enc := by
  induction ps with
  | nil => rfl
  | cons p ps ih => simp [Plan.encs, ih]
theorem encs_get (ps : List Plan) (j : Nat) : (Plan.encs ps)[j]? = (ps[j]?).map Plan.enc := by rw [encs_eq, List.getElem?_map]
theorem encs_len (ps : List Plan) : (Plan.encs ps).length = ps.length := by rw [encs_eq, List.length_map]
mutual
/-- How many elements a plan has. -/
def Plan.sz : Plan → Nat
  | .mk kind n test cells a b keys agg col kids => cells.length + keys.length + kids.length + Plan.szs kids
def Plan.szs : List Plan → Nat
  | [] => 0
  | p :: ps => p.sz + Plan.szs ps
end
def Plan.small (p : Plan) : Prop := p.sz ≤ 1048576
theorem szs_mem {q : Plan} : ∀ {ps : List Plan}, q ∈ ps → q.sz ≤ Plan.szs ps
  | p :: ps, h => by
    simp only [Plan.szs]
    rcases List.mem_cons.1 h with rfl | h
    · omega
    · have := szs_mem h; omega
theorem small_split {kind n : Int} {test : Test} {cells : List Cell} {a b : Int} {keys : List Int} {agg col : Int} {kids : List Plan} (h : (Plan.mk kind n test cells a b keys agg col kids).small) :
    cells.length ≤ 1048576 ∧ keys.length ≤ 1048576 ∧ kids.length ≤ 1048576 ∧ ∀ q ∈ kids, q.small := by
  simp only [Plan.small, Plan.sz] at h
  exact ⟨by omega, by omega, by omega, fun q hq => by have := szs_mem hq; simp only [Plan.small]; omega⟩
end Go.Proofs.YtbghmemejbbhfaaGreat

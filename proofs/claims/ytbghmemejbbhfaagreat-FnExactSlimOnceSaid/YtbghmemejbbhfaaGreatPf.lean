/- sizeOk among the prims. -/
import Derived.Test.YtbghmemejbbhfaaGreatPe
set_option linter.unusedVariables false
set_option linter.unusedSimpArgs false
namespace Go.Proofs.YtbghmemejbbhfaaGreat
open Go Go.Am
theorem i64_inj {a b : Int} (h : i64 a = i64 b) : a = b := by cases h; rfl
theorem cell_inj {a b : Cell} (h : a.enc = b.enc) : a = b := by
  obtain ⟨k, x, y, z⟩ := a
  obtain ⟨k', x', y', z'⟩ := b
  simp only [Cell.enc, i64, AVal.agg.injEq, List.cons.injEq, AVal.int.injEq, true_and, and_true] at h
  obtain ⟨rfl, rfl, rfl, rfl⟩ := h
  rfl
theorem map_inj {α : Type} {f : α → AVal} (hf : ∀ a b, f a = f b → a = b) : ∀ (l l' : List α), l.map f = l'.map f → l = l'
  | [], [], _ => rfl
  | [], _ :: _, h => by simp at h
  | _ :: _, [], h => by simp at h
  | a :: l, b :: l', h => by
    simp only [List.map_cons, List.cons.injEq] at h
    rw [hf _ _ h.1, map_inj hf l l' h.2]
theorem encs_inj {N : Nat} (ih : ∀ t t' : Plan, SizeOf.sizeOf t ≤ N → t.enc = t'.enc → t = t') : ∀ (l l' : List Plan), SizeOf.sizeOf l ≤ N + 1 → Plan.encs l = Plan.encs l' → l = l'
  | [], [], _, _ => rfl
  | [], _ :: _, _, h => by simp [Plan.encs] at h
  | _ :: _, [], _, h => by simp [Plan.encs] at h
  | a :: l, b :: l', hs, h => by
    simp only [Plan.encs, List.cons.injEq] at h
    simp at hs
    rw [ih a b (by omega) h.1, encs_inj ih l l' (by omega) h.2]
theorem enc_inj' : ∀ (N : Nat) (t t' : Plan), SizeOf.sizeOf t ≤ N → t.enc = t'.enc → t = t' := by
  intro N
  induction N with
  | zero => intro t t' h; cases t; simp at h
  | succ N ih =>
    intro t t' hs h
    obtain ⟨kind, n, ⟨tk, tn, ⟨a1, a2, a3, a4⟩, ⟨b1, b2, b3, b4⟩⟩, cells, a, b, keys, agg, col, kids⟩ := t
    obtain ⟨kind', n', ⟨tk', tn', ⟨a1', a2', a3', a4'⟩, ⟨b1', b2', b3', b4'⟩⟩, cells', a', b', keys', agg', col', kids'⟩ := t'
    simp only [Plan.enc, i64, AVal.agg.injEq, List.cons.injEq, AVal.int.injEq, AVal.bool.injEq, AVal.sl.injEq, true_and, and_true] at h
    obtain ⟨rfl, rfl, rfl, rfl, rfl, rfl, rfl, rfl, rfl, rfl, rfl, rfl, hc, rfl, rfl, hk, rfl, rfl, hks⟩ := h
    rw [map_inj (fun _ _ => cell_inj) _ _ hc, map_inj (fun _ _ => i64_inj) _ _ hk, encs_inj ih kids kids' (by simp at hs; omega) hks]
theorem enc_inj {t t' : Plan} (h : t.enc = t'.enc) : t = t' := enc_inj' _ t t' (Nat.le_refl _) h
open Classical in
noncomputable def sizeOkPr (args : List AVal) (h : Heap) : Option ARes :=
  if hx : ∃ t : Plan, t.small ∧ args = [t.enc] ∧ h = [] then some (.ret (.bool (sizeOkP hx.choose)) []) else none
theorem sizeOkPr_some {t : Plan} (ht : t.small) : sizeOkPr [t.enc] [] = some (.ret (.bool (sizeOkP t)) []) := by
  have hx : ∃ t' : Plan, t'.small ∧ [t.enc] = [t'.enc] ∧ ([] : Heap) = [] := ⟨t, ht, rfl, rfl⟩
  unfold sizeOkPr
  rw [dif_pos hx]
  have : hx.choose = t := (enc_inj (by simpa using hx.choose_spec.2.1)).symm
  rw [this]
noncomputable def pr1 : Prims := fun f => if f == 47 then some sizeOkPr else none
theorem ok1 : Okp pr1 := ⟨fun f h => by
  unfold pr1
  split
  · rename_i e
    have : f = 47 := by simpa using e
    subst this
    simp [noY] at h
  · rfl⟩
/-- A contract with yields, as a prim: what it made is forgotten. -/
theorem prim_of {f : FuncId} {args : List AVal} {r : AVal} (hs : r.isScalar = true) (hc : CallsY cf none f args [] rdy fun v _ _ => v = r) {E : Env} {w : World} {vs : Array Value} (s : Sim E [] w) (hf : Full E []) (hg : GOk (fun _ => none) E.S w) (hr : Reps E w args vs) :
    Calls Tryz.prog f vs w (Post E [] w (.ret r [])) := by
  refine Calls.mono (hc E w vs s hf hg hr trivial) fun e w' he => ?_
  cases e with
  | panicked ch => exact he.elim
  | outgrown => exact he.elim
  | returned u =>
    obtain ⟨v, h', g', E', rfl, s', f', x', r', _⟩ := he
    have him : ∀ b, ¬ E.im b := fun b ⟨id, sl, h1, _⟩ => by rw [hf id (Nat.zero_le _)] at h1; cases h1
    obtain ⟨s2, x2⟩ := s.grow (w' := w') (fun b hb => x'.mem b hb (him b) id) x'.size x'.os x'.tape x'.output
    exact ⟨v, [], E, rfl, s2, hf, x2, .clo (r'.closed hs _ _)⟩
theorem cfOk1 : CfgOk (cfp pr1) := cfOk_of fun f p args h r hp hr E w vs hb s hf hg hreps => by
  unfold pr1 at hp
  split at hp
  · rename_i e
    have : f = 47 := by simpa using e
    subst this
    cases hp
    unfold sizeOkPr at hr
    split at hr
    · rename_i hx
      cases hr
      obtain ⟨h1, h2, rfl⟩ := hx.choose_spec
      have key : ∀ xs, xs = [hx.choose.enc] → CallsY cf none 47 xs [] rdy fun v _ _ => v = .bool (sizeOkP hx.choose) := fun xs e => by rw [e]; exact sizeOk_y _ h1
      exact prim_of rfl (key args h2) s hf hg hreps
    · cases hr
  · cases hp
set_option maxRecDepth 100000 in
theorem sizeOk_r (t : Plan) (ht : t.small) : Ret pr1 47 [t.enc] (.bool (sizeOkP t)) := by
  refine ret_prim (p := sizeOkPr) rfl ?_ (sizeOkPr_some ht) rfl
  obtain ⟨kind, n, test, cells, a, b, keys, agg, col, kids⟩ := t
  rfl
end Go.Proofs.YtbghmemejbbhfaaGreat

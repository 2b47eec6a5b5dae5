/- The walk over a plan's parts. -/
import Derived.Test.YtebciagembenjaaDoorGH24
import Derived.Test.YtebciagembenjaaDoorGH26
set_option linter.unusedVariables false
set_option linter.unusedSimpArgs false
/- The walk over a plan's parts. -/
set_option maxHeartbeats 4000000
namespace Go.Proofs.YtebciagembenjaaDoor
open Go Go.Am
inductive WR (σ : Type) where
 | go (m : Nat) (s : σ)
 | lim (s : σ)
 | stop (s : σ)
mutual
def wk {σ : Type} (step : σ → Nat → Plan → σ × Bool) (deep : Nat) : Plan → Nat → σ → WR σ
 | .mk kind n test cells a b keys agg col kids,m,s=>match step s deep (.mk kind n test cells a b keys agg col kids) with
  | (s,false)=>.stop s
  | (s,true)=>if 10 < m + 1 ∨ 6 ≤ deep then .lim s else wks step (deep + 1) kids (m + 1) s
def wks {σ : Type} (step : σ → Nat → Plan → σ × Bool) (deep : Nat) : List Plan → Nat → σ → WR σ
 | [],m,s=>.go m s
 | p :: ps,m,s=>match wk step deep p m s with
  | .go m s=>wks step deep ps m s
  | r=>r
end
def rdy : LS:=⟨.ready,none⟩
def Fr (C : List Nat) (h : Heap) (C' : List Nat) (h' : Heap) : Prop:=h.length ≤ h'.length ∧ (∀ id,id < h.length → id ∉ C → h'[id]? = h[id]?) ∧ ∀ id ∈ C',id ∈ C ∨ h.length ≤ id
def FrK (km : Nat) (C : List Nat) (h : Heap) (C' : List Nat) (h' : Heap) : Prop:=h.length ≤ h'.length ∧ (∀ id,id < h.length → id ∉ C → id ≠ km → h'[id]? = h[id]?) ∧ ∀ id ∈ C',id ∈ C ∨ h.length ≤ id
theorem FrK.trans {km : Nat} {C C1 C2 : List Nat} {h h1 h2 : Heap} (a : FrK km C h C1 h1) (b : FrK km C1 h1 C2 h2) : FrK km C h C2 h2:=by
 refine ⟨Nat.le_trans a.1 b.1,fun id hid hn hk=>?_,fun id hid=>?_⟩
 ·refine (b.2.1 id (Nat.lt_of_lt_of_le hid a.1) (fun hc=>?_) hk).trans (a.2.1 id hid hn hk)
  rcases a.2.2 id hc with h | h
  ·exact hn h
  ·omega
 ·rcases b.2.2 id hid with h | h
  ·exact a.2.2 id h
  ·exact .inr (Nat.le_trans a.1 h)
structure Consumer (c : Lp) (σ : Type) where
 J : σ → List Nat → Heap → Prop
 Jx : σ → Heap → LS → Prop
 step : σ → Nat → Plan → σ × Bool
 lt : ∀ s C h,J s C h → ∀ id ∈ C,id < h.length
 stab : ∀ s C h h',J s C h → h.length ≤ h'.length → (∀ id ∈ C,h'[id]? = h[id]?) → J s C h'
 yields : ∀ s C h (deep : Nat) p,J s C h → YieldsTo cf c [i64 deep,p.enc] h rdy fun v h' g'=>
  (∃ s',step s deep p = (s',true) ∧ v = .bool true ∧ g' = rdy ∧ ∃ C',J s' C' h' ∧ Fr C h C' h') ∨ (∃ s',step s deep p = (s',false) ∧ v = .bool false ∧ Jx s' h' g')
def isYf (f : FuncId) : Bool:=false
theorem FrK.alloc {km : Nat} {C : List Nat} {h h' : Heap} {o : AObj} (e : h' = h ++ [o]) : FrK km C h C h':=by
 subst e
 exact ⟨by simp,fun id hid _ _=>List.getElem?_append_left hid,fun id hid=>.inl hid⟩
theorem FrK.refl (km : Nat) (C : List Nat) (h : Heap) : FrK km C h C h:=⟨Nat.le_refl _,fun _ _ _ _=>rfl,fun _ h=>.inl h⟩
theorem FrK.get {km : Nat} {C C' : List Nat} {h h' : Heap} (f : FrK km C h C' h') {i : Nat} {x : AObj} (hi : h[i]? = some x) (hn : i ∉ C) (hk : i ≠ km) : h'[i]? = some x:=(f.2.1 i (get_lt hi) hn hk).trans hi
end Go.Proofs.YtebciagembenjaaDoor

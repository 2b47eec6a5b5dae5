/- The iterator over a plan's parts; sizeOk. -/
import Derived.Test.YtncgofhhnhebjaaGreatGSPd
set_option linter.unusedVariables false
set_option linter.unusedSimpArgs false
/- The iterator over a plan's parts; sizeOk. -/
set_option maxHeartbeats 4000000
namespace Go.Proofs.YtncgofhhnhebjaaGreat
open Go Go.Am
set_option maxRecDepth 100000 in
theorem all_c (t : Plan) : Ret pr0 85 [t.enc] (.func (.func 130) [] [.iptr [t.enc] 0 0]):=by
 obtain ⟨kind,n,test,cells,a,b,keys,agg,col,kids⟩:=t
 refine ret_of ok0 rfl rfl ?_
 conv=>whnf
 refine ⟨_,_,rfl,?_⟩
 kernel_rfl
def WAll {c : Lp} {σ : Type} (k : Consumer c σ) (r : WR σ) (h' : Heap) (g' : LS) : Prop:=match r with
 | .go _ s'=>g' = rdy ∧ ∃ C',k.J s' C' h'
 | .lim s'=>g' = rdy ∧ ∃ C',k.J s' C' h'
 | .stop s'=>k.Jx s' h' g'
set_option maxRecDepth 100000 in
theorem all1_c {c : Lp} {σ : Type} (k : Consumer c σ) (t : Plan) (hsm : t.small) (s : σ) (C : List Nat) (h : Heap) (hJ : k.J s C h) :
  CallsY cf (some c) 130 [.func (.yield c.l) [] [],.iptr [t.enc] 0 0] h rdy fun v h' g'=>WAll k (wk k.step 0 t 0 s) h' g':=by
   refine callsY_of (isY:=isYf) (callsOk cfOk) (by kernel_rfl) fun B=>?_
   have hw0:=walk_c k _ t (Nat.le_refl _) 0 0 s
   have hlt:=k.lt s C h hJ
   obtain ⟨kind,n,test,cells,a,b,keys,agg,col,kids⟩:=t
   conv=>whnf
   intro ky h1 hky hh1
   conv=>whnf
   intro km h2 hkm hh2
   conv=>whnf
   refine ⟨_,get_new hkm hh2,rfl,?_⟩
   conv=>whnf
   intro h3 hh3
   conv=>whnf
   intro kw h4 hkw hh4
   conv=>whnf
   refine ⟨_,get_new hkw hh4,rfl,?_⟩
   conv=>whnf
   intro h5 hh5
   conv=>whnf
   have l1 : h1.length = h.length + 1:=by rw [hh1]; simp
   have l2 : h2.length = h1.length + 1:=by rw [hh2]; simp
   have l3 : h3.length = h2.length:=by rw [hh3]; simp
   have l4 : h4.length = h3.length + 1:=by rw [hh4]; simp
   have l5 : h5.length = h4.length:=by rw [hh5]; simp
   have old : ∀ i x,h[i]? = some x → h5[i]? = some x:=fun i x hx=>by
    have:=get_lt hx
    exact get_ne hh5 (get_old hh4 (get_ne hh3 (get_old hh2 (get_old hh1 hx)) (by omega))) (by omega)
   have ey : h5[ky]? = some (.box (.func (.yield c.l) [] [])):=get_ne hh5 (get_old hh4 (get_ne hh3 (get_old hh2 (get_new hky hh1)) (by omega))) (by omega)
   have em : h5[km]? = some (.box (i64 (0 : Nat))):=get_ne hh5 (get_old hh4 (get_same hh3 (get_new hkm hh2))) (by omega)
   have ew:=get_same hh5 (get_new hkw hh4)
   refine ⟨_,ew,rfl,?_⟩
   conv=>whnf
   have hJ5 : k.J s C h5:=k.stab s C h h5 hJ (by omega) fun id hid=>by
    have hx:=List.getElem?_eq_getElem (hlt id hid)
    rw [hx]
    exact old id _ hx
   refine CallsY.mono (hw0 C h5 km ky kw hJ5 em ey ew (fun hc=>by have:=hlt _ hc; omega) (fun hc=>by have:=hlt _ hc; omega) (fun hc=>by have:=hlt _ hc; omega) (by omega) (by omega) (by omega) (by omega) hsm) fun v h6 g6 hv=>?_
   have key : WAll k (wk k.step 0 (Plan.mk kind n test cells a b keys agg col kids) 0 s) h6 g6 ∧ ∃ b,v = .bool b:=by
    unfold WAll
    unfold WPost at hv
    split at hv
    ·rename_i he; rw [he]; obtain ⟨rfl,rfl,_,C',hJ',_⟩:=hv; exact ⟨⟨rfl,C',hJ'⟩,_,rfl⟩
    ·rename_i he; rw [he]; obtain ⟨rfl,rfl,C',hJ'⟩:=hv; exact ⟨⟨rfl,C',hJ'⟩,_,rfl⟩
    ·rename_i he; rw [he]; obtain ⟨rfl,hx⟩:=hv; exact ⟨hx,_,rfl⟩
   obtain ⟨hW,bb,rfl⟩:=key
   conv=>whnf
   refine bsel_intro (fun hb=>?_) (fun hb=>?_)
   ·conv=>whnf
    exact ⟨_,rfl,hW⟩
   ·conv=>whnf
    exact ⟨_,rfl,hW⟩
def stepS (s : Nat) (deep : Nat) (p : Plan) : Nat × Bool:=(s + 1,!decide (10 < s + 1 ∨ 6 ≤ deep))
def sizeOkP (t : Plan) : Bool:=match wk stepS 0 t 0 0 with
 | .stop _=>false
 | _=>true
theorem res_bool {tm : Nat → AVal} {h : Heap} {k : Nat} {b : Bool} (ht : tm 2 = .ptr k 0 0) (hk : h[k]? = some (.box (.bool b))) : mapO (resA cf.P ⟨tm,h⟩) [ResultVar.cell 2 4] = some [.bool b]:=by
 have : resA cf.P ⟨tm,h⟩ (.cell 2 4) = some (.bool b):=by
  show loadA cf.P 4 (tm 2) h = _
  rw [ht]
  show (match h[k]? with
   | some (.box x)=>if 0 = 0 then partA cf.P 4 x 0 else none
   | some (.arr _ es)=>(match es[0]? with
    | some x=>partA cf.P 4 x 0
    | none=>none)
   | _=>none) = _
  rw [hk]
  kernel_rfl
 simp only [mapO,this]
set_option maxRecDepth 100000 in
theorem sizeOk_y (t : Plan) (hsm : t.small) : CallsY cf none 37 [t.enc] [] rdy fun v h' g'=>v = .bool (sizeOkP t):=by
 refine callsY_of (isY:=fun _=>false) (callsOk cfOk) (by kernel_rfl) fun B=>?_
 have ha:=all_c t
 have hw0:=fun (c : Lp) (k : Consumer c Nat) C h=>all1_c k t hsm 0 C h
 unfold sizeOkP
 obtain ⟨kind,n,test,cells,a,b,keys,agg,col,kids⟩:=t
 conv=>whnf
 intro k0 h0 hk0 hh0
 conv=>whnf
 intro k1 h1 hk1 hh1
 conv=>whnf
 intro k2 h2 hk2 hh2
 conv=>whnf
 refine ⟨_,get_new hk2 hh2,rfl,?_⟩
 conv=>whnf
 intro h3 hh3
 conv=>whnf
 have hk02 : k2 ≠ k0:=by
  have a1 : h1.length = h0.length + 1:=by rw [hh1]; simp
  have b1 : k0 = 0:=hk0
  omega
 refine ⟨_,get_ne hh3 (get_old hh2 (get_old hh1 (get_new hk0 hh0))) hk02,rfl,?_⟩
 conv=>whnf
 refine ⟨_,ha _,?_⟩
 conv=>whnf
 refine ⟨rfl,fun c e1 e2 e3 e4 e5=>?_⟩
 have l0 : h0.length = 1:=by rw [hh0]; rfl
 have l1 : h1.length = h0.length + 1:=by rw [hh1]; simp
 have l2 : h2.length = h1.length + 1:=by rw [hh2]; simp
 have l3 : h3.length = h2.length:=by rw [hh3]; simp
 have k00 : k0 = 0:=hk0
 have hk12 : k1 ≠ k2:=by omega
 let K : Consumer c Nat:=
  { J := fun s C h => C = [k1, k2] ∧ h[k1]? = some (.box (.bool false)) ∧ h[k2]? = some (.box (i64 (s : Nat))) ∧ s ≤ 10
    Jx:=fun _ h g=>h[k1]? = some (.box (.bool false)) ∧ g = ⟨.done,some .ret⟩
    step:=stepS
    lt:=fun s C h hJ id hid=>by
     obtain ⟨rfl,h1,h2,_⟩:=hJ
     rcases List.mem_cons.1 hid with rfl | hid
     ·exact get_lt h1
     ·rcases List.mem_cons.1 hid with rfl | hid
      ·exact get_lt h2
      ·simp at hid
    stab:=fun s C h h' hJ _ hs=>by
     obtain ⟨rfl,h1,h2,h3⟩:=hJ
     exact ⟨rfl,(hs k1 (by simp)).trans h1,(hs k2 (by simp)).trans h2,h3⟩
    yields:=fun s C h deep p hJ=>by
     obtain ⟨rfl,j1,j2,j3⟩:=hJ
     refine yields_of_wp (N:=17) (callsOk cfOk) rfl (by rw [e1]; rfl) e5 (by rw [e1]; decide) (by rw [e2]; kernel_rfl) (by rw [e3]; kernel_rfl) fun B'=>?_
     rw [e1,e2,e3,e4]
     conv=>whnf
     refine ⟨rfl,?_⟩
     conv=>whnf
     refine ⟨_,j2,rfl,?_⟩
     conv=>whnf
     refine ⟨_,j2,rfl,?_⟩
     conv=>whnf
     intro h4 hh4
     have m4 : h4[k2]? = some (.box (i64 ((s + 1 : Nat) : Int))):=by
      rw [get_same hh4 j2]
      exact congrArg (fun x=>some (AObj.box x)) (i64_step (by omega))
     have r4 : h4[k1]? = some (.box (.bool false)):=get_ne hh4 j1 (Ne.symm hk12)
     have F4 : Fr [k1,k2] h [k1,k2] h4:=by
      refine ⟨by rw [hh4]; simp,fun id _ hn=>?_,fun id hid=>.inl hid⟩
      rw [hh4]
      exact List.getElem?_set_ne (fun e=>hn (by simp [← e]))
     conv=>whnf
     refine ⟨_,m4,rfl,?_⟩
     conv=>whnf
     have stop : (10 < s + 1 ∨ 6 ≤ deep) → ∀ h5,h5 = h4.set k1 (.box (.bool false)) → (∃ s',stepS s deep p = (s',true) ∧ AVal.bool false = .bool true ∧ (⟨.done,some .ret⟩ : LS) = rdy ∧ ∃ C',(C' = [k1,k2] ∧ h5[k1]? = some (.box (.bool false)) ∧ h5[k2]? = some (.box (i64 (s' : Nat))) ∧ s' ≤ 10) ∧ Fr [k1,k2] h C' h5) ∨
       (∃ s',stepS s deep p = (s',false) ∧ AVal.bool false = .bool false ∧ h5[k1]? = some (.box (.bool false)) ∧ (⟨.done,some .ret⟩ : LS) = ⟨.done,some .ret⟩):=by
        intro hc h5 hh5
        exact .inr ⟨s + 1,by simp [stepS,hc],rfl,get_same hh5 r4,rfl⟩
     refine bsel_intro (fun b1=>?_) (fun b1=>?_)
     ·have g1 : 10 < s + 1 := by have : ((s + 1 : Nat) : Int) > 10 := by simpa using b1
                                 omega
      conv=>whnf
      refine ⟨_,r4,rfl,?_⟩
      conv=>whnf
      intro h5 hh5
      conv=>whnf
      exact stop (.inl g1) h5 hh5
     ·have g1 : ¬ 10 < s + 1 := by have : ¬ ((s + 1 : Nat) : Int) > 10 := by simpa using b1
                                   omega
      conv=>whnf
      refine bsel_intro (fun b2=>?_) (fun b2=>?_)
      ·have g2 : 6 ≤ deep := by have : ((deep : Nat) : Int) ≥ 6 := by simpa using b2
                                omega
       conv=>whnf
       refine ⟨_,r4,rfl,?_⟩
       conv=>whnf
       intro h5 hh5
       conv=>whnf
       exact stop (.inr g2) h5 hh5
      ·have g2 : ¬ 6 ≤ deep := by have : ¬ ((deep : Nat) : Int) ≥ 6 := by simpa using b2
                                  omega
       conv=>whnf
       exact .inl ⟨s + 1,by simp [stepS,g2]; omega,rfl,rfl,[k1,k2],⟨rfl,r4,m4,by omega⟩,F4⟩ }
 have hb3 : h3[k1]? = some (.box (.bool false)):=get_ne hh3 (get_old hh2 (get_new hk1 hh1)) (by omega)
 have hm3 : h3[k2]? = some (.box (i64 ((0 : Nat) : Int))):=get_same hh3 (get_new hk2 hh2)
 refine CallsY.mono (hw0 c K [k1,k2] h3 ⟨rfl,hb3,hm3,by omega⟩) fun v h4 g4 hv=>?_
 unfold WAll at hv
 split at hv
 ·rename_i s' he
  obtain ⟨rfl,C',⟨rfl,r1,r2,_⟩⟩:=hv
  have he' : wk stepS 0 (Plan.mk kind n test cells a b keys agg col kids) 0 0 = .go _ s':=he
  rw [he']
  refine ⟨(fun e=>by cases e),?_⟩
  conv=>whnf
  refine ⟨_,r1,rfl,?_⟩
  conv=>whnf
  intro h5 hh5
  conv=>whnf
  exact ⟨[.bool true],res_bool rfl (get_same hh5 r1),rfl⟩
 ·rename_i s' he
  obtain ⟨rfl,C',⟨rfl,r1,r2,_⟩⟩:=hv
  have he' : wk stepS 0 (Plan.mk kind n test cells a b keys agg col kids) 0 0 = .lim s':=he
  rw [he']
  refine ⟨(fun e=>by cases e),?_⟩
  conv=>whnf
  refine ⟨_,r1,rfl,?_⟩
  conv=>whnf
  intro h5 hh5
  conv=>whnf
  exact ⟨[.bool true],res_bool rfl (get_same hh5 r1),rfl⟩
 ·rename_i s' he
  obtain ⟨r1,rfl⟩:=hv
  have he' : wk stepS 0 (Plan.mk kind n test cells a b keys agg col kids) 0 0 = .stop s':=he
  rw [he']
  refine ⟨(fun e=>by cases e),?_⟩
  conv=>whnf
  exact ⟨[.bool false],res_bool rfl r1,rfl⟩
end Go.Proofs.YtncgofhhnhebjaaGreat

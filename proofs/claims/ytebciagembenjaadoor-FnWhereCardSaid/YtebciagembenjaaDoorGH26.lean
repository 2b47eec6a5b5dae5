/- Ranges over functions: rounds and calls. -/
import Derived.Test.YtebciagembenjaaDoorGSBmY
set_option linter.unusedVariables false
set_option linter.unusedSimpArgs false
/- Ranges over functions: code, rounds, the statement itself, calls. -/
set_option maxHeartbeats 4000000
namespace Go.Am
open Go
def codeY (N : Nat) : Code → Bool
 | .region _ ops _=>ops.toList.all fun o=>match o.dst with | some d=>decide (d < N) | none=>true
 | .seq a b=>codeY N a && codeY N b
 | .cond _ a b=>codeY N a && codeY N b
 | .block _ c=>codeY N c
 | .loop c=>codeY N c
 | _=>true
theorem codeY_mono {N N' : Nat} (hN : N ≤ N') : ∀ c : Code,codeY N c = true → codeY N' c = true:=by
 intro c
 induction c with
 | region id ops d=>
  intro h
  simp only [codeY] at h ⊢
  refine List.all_eq_true.2 fun o ho=>?_
  have:=List.all_eq_true.1 h o ho
  cases hd : o.dst with
  | none=>rfl
  | some d=>simp only [hd,decide_eq_true_eq] at this ⊢; exact Nat.lt_of_lt_of_le this hN
 | seq a b iha ihb=>intro h; simp only [codeY,Bool.and_eq_true] at h ⊢; exact ⟨iha h.1,ihb h.2⟩
 | cond c a b iha ihb=>intro h; simp only [codeY,Bool.and_eq_true] at h ⊢; exact ⟨iha h.1,ihb h.2⟩
 | block id c ih=>intro h; simp only [codeY] at h ⊢; exact ih h
 | loop c ih=>intro h; simp only [codeY] at h ⊢; exact ih h
 | _=>intro _; rfl
theorem wpIn_loop_ind {F : Fence} {n : Nat} {P : Program} {Q : Exit → Act → World → Prop} {c : Code} (hF : FOk F) (J : Nat → Act → World → Prop) (round : ∀ m a w,J m a w → c.wpIn F n P (Exit.then (fun a' w'=>∃ k,k < m ∧ J k a' w') Q) a w) : ∀ m a w,J m a w → (Code.loop c).wpIn F n P Q a w:=by
 intro m a w h0 b k cs hro hb hr
 have key : ∀ m a w,J m a w → ∃ e a' w',Q e a' w' ∧ ArrivesIn (Machine.fenced P F) P (lone (b.atR a (.code c :: .inLoop c :: k)) cs w) b k cs e a' w':=by
  intro m
  induction m using Nat.strongRecOn with
  | _ m ih=>
   intro a w hJ
   obtain ⟨e,a₁,w₁,hq,harr⟩:=round m a w hJ b (.inLoop c :: k) cs hro hb hr
   cases e with
   | normal=>
    obtain ⟨k',hk,hJ₁⟩:=hq
    obtain ⟨e₂,a₂,w₂,hq₂,harr₂⟩:=ih k' hk a₁ w₁ hJ₁
    exact ⟨e₂,a₂,w₂,hq₂,.of_steps (StepsIn.trans harr (.one (fenced_calm hb hr rfl) stepR_inLoop)) harr₂⟩
   | exit id=>exact ⟨_,a₁,w₁,hq,.pass (x:=.inLoop c) rfl (fun _ _=>.inl (by simp)) harr⟩
   | goto l=>exact ⟨_,a₁,w₁,hq,.pass (x:=.inLoop c) rfl (fun _ _=>.inl (by simp)) harr⟩
   | ret=>exact ⟨_,a₁,w₁,hq,.pass (x:=.inLoop c) rfl (fun _ _=>.inl (by simp)) harr⟩
   | panic ch=>exact ⟨_,a₁,w₁,hq,.pass (x:=.inLoop c) rfl (fun _ _=>.inl (by simp)) harr⟩
   | outgrown=>exact ⟨_,a₁,w₁,hq,.pass (x:=.inLoop c) rfl (fun _ _=>.inl (by simp)) harr⟩
 obtain ⟨e,a',w',hq,harr⟩:=key m a w h0
 exact ⟨e,a',w',hq,.of_steps (.one (fenced_calm hb hr rfl) stepR_loop) harr⟩
theorem Sim.grow {E : Env} {h : Heap} {w w' : World} (s : Sim E h w) (hw : ∀ b,b < w.heap.size → w'.heap[b]? = w.heap[b]?) (hs : w.heap.size ≤ w'.heap.size) (hos : w'.os = w.os) (ht : w'.tape = w.tape) (ho : w'.output = w.output) :
  Sim E h w' ∧ Ext E h w E h w':=by
   have hx : Ext E h w E h w':=⟨⟨fun _ h=>h,fun _ h=>.inl h,fun b hb _=>hw b hb,fun _ _ h=>.inl h,fun _ h=>.inl h,Nat.le_refl _,hs,hos,ht,ho⟩,fun _ _ h=>h⟩
   exact ⟨⟨fun id o sl hid hm=>(s.obj id o sl hid hm).mono (fun a v hr=>hr.ext hx s) fun b hb=>hw b (s.lt b ⟨id,sl,hm,hb⟩),s.inj,s.nS,fun b hb=>Nat.lt_of_lt_of_le (s.lt b hb) hs,fun b hb=>Nat.lt_of_lt_of_le (s.Slt b hb) hs⟩,hx⟩
theorem Sim.turn {E : Env} {h : Heap} {w : World} (s : Sim E h w) {l : Nat} (o : Obj) (h1 : ¬ E.S l) (h2 : ¬ E.im l) : Sim E h (w.putObj l o) ∧ (∀ a v,Rep E w a v → Rep E (w.putObj l o) a v):=by
 have hw : ∀ b,b ≠ l → (w.putObj l o).heap[b]? = w.heap[b]?:=fun b hb=>World.putObj_heap_other hb
 have hr : ∀ a v,Rep E w a v → Rep E (w.putObj l o) a v:=fun a v hr=>hr.mono (fun _ h=>h) (fun b hb=>hw b fun e=>h1 (e ▸ hb)) fun _ _ h=>.inl h
 refine ⟨⟨fun id ob sl hid hm=>(s.obj id ob sl hid hm).mono hr fun b hb=>hw b fun e=>h2 (e ▸ ⟨id,sl,hm,hb⟩),s.inj,s.nS,fun b hb=>?_,fun b hb=>?_⟩,hr⟩
 ·rw [World.putObj_size]; exact s.lt b hb
 ·rw [World.putObj_size]; exact s.Slt b hb
theorem ExtY.turn {c : Lp} {E : Env} {h : Heap} {w : World} (o : Obj) : ExtY (some c) E h w E h (w.putObj c.l o):=
 ⟨fun _ h=>h,fun _ h=>.inl h,fun b _ _ hb=>World.putObj_heap_other hb,fun _ _ h=>.inl h,fun _ h=>.inl h,Nat.le_refl _,by rw [World.putObj_size]; exact Nat.le_refl _,rfl,rfl,rfl,fun _ _ h=>h⟩
theorem LInv.turn {c : Lp} {g g' : LS} {E : Env} {h : Heap} {w : World} (s : Sim E h w) (hl : LInv (some c) g E w) : LInv (some c) g' E (w.putObj c.l (.loop { c.rc with state:=g'.st,pending:=g'.pend })):=by
 have hlt:=hl.lt
 obtain ⟨h1,h2,h3,h4⟩:=hl
 exact ⟨World.putObj_heap_same hlt,h2,h3,fun k=>(s.turn _ h2 h3).2 _ _ (h4 k)⟩
section
variable {y : YEnv} {F : Fence}
theorem wpCY_sound (hF : FOk F) (hro : y.Γ = none → F.round = none) (hC : CallsOk y.cf (call y.cf)) {N : Nat} (hN0 : y.N ≤ N) : ∀ (c : Code) (Q : YOut → Prop) (tm : Nat → AVal) (hp : Heap) (g : LS),wpCY y c Q tm hp g → codeY N c = true → ∀ (E : Env) (w : World) (a : Act),RelY y E w tm hp g a → a.tmps.size = N →
  c.wpIn F 0 y.cf.P (QRelY y E hp w N Q) a w:=by
   intro c
   induction c with
   | skip=>intro Q tm hp g h hok E w a rel hN; exact wpIn_skip ⟨tm,hp,g,E,h,rel,ExtY.refl _ _ _ _,hN⟩
   | label l=>intro Q tm hp g h hok E w a rel hN; exact wpIn_label ⟨tm,hp,g,E,h,rel,ExtY.refl _ _ _ _,hN⟩
   | exit id=>intro Q tm hp g h hok E w a rel hN; exact wpIn_exit ⟨tm,hp,g,E,h,rel,ExtY.refl _ _ _ _,hN⟩
   | ret=>intro Q tm hp g h hok E w a rel hN; exact wpIn_ret ⟨tm,hp,g,E,h,rel,ExtY.refl _ _ _ _,hN⟩
   | region id ops d=>
    intro Q tm hp g h hok E w a rel hN
    cases d with
    | true=>exact h.elim
    | false=>
     simp only [codeY] at hok
     refine regY_sound hF hC (fun o ho d hd=>?_) h rel hN
     have:=List.all_eq_true.1 hok o ho
     simpa [hd] using this
   | seq x z ihx ihz=>
    intro Q tm hp g h hok E w a rel hN
    simp only [codeY,Bool.and_eq_true] at hok
    refine wpIn_seq (wpIn_mono (ihx _ tm hp g h hok.1 E w a rel hN) fun e a' w' he=>?_)
    cases e with
    | normal=>
     obtain ⟨tm',hp',g',E',hq,rel',x',hN'⟩:=he
     exact wpIn_mono (ihz Q tm' hp' g' hq hok.2 E' w' a' rel' hN') (QRelY.from x')
    | exit id=>exact he
    | ret=>exact he
    | panic ch=>exact he
    | goto l=>exact he
    | outgrown=>exact he
   | cond c x z ihx ihz=>
    intro Q tm hp g h hok E w a rel hN
    simp only [codeY,Bool.and_eq_true] at hok
    simp only [wpCY] at h
    split at h
    ·rename_i t ht
     have hc : a.eval c = .bool t:=(ev_rep rel.gok rel.tm ht).bool
     refine wpIn_cond hc ?_
     rcases bsel_elim h with ⟨rfl,h⟩ | ⟨rfl,h⟩
     ·exact ihx Q tm hp g h hok.1 E w a rel hN
     ·exact ihz Q tm hp g h hok.2 E w a rel hN
    ·exact h.elim
   | block id x ih=>
    intro Q tm hp g h hok E w a rel hN
    simp only [codeY] at hok
    refine wpIn_block (wpIn_mono (ih _ tm hp g h hok E w a rel hN) fun e a' w' he=>?_)
    cases e with
    | normal=>exact he
    | exit j=>
     obtain ⟨tm',hp',g',E',hq,rel',x',hN'⟩:=he
     simp only [Exit.inBlock]
     by_cases hj : j = id
     ·rw [if_pos hj]
      refine ⟨tm',hp',g',E',?_,rel',x',hN'⟩
      simp only at hq
      cases hd : Nat.decEq j id with
      | isTrue _=>simpa only [hd] using hq
      | isFalse n=>exact (n hj).elim
     ·rw [if_neg hj]
      refine ⟨tm',hp',g',E',?_,rel',x',hN'⟩
      simp only at hq
      cases hd : Nat.decEq j id with
      | isTrue n=>exact (hj n).elim
      | isFalse n=>simpa only [hd] using hq
    | ret=>exact he
    | panic ch=>exact he
    | goto l=>exact he
    | outgrown=>exact he
   | loop x ih=>
    intro Q tm hp g h hok E w a rel hN
    simp only [codeY] at hok
    obtain ⟨I,n,hI,hr⟩:=h
    refine wpIn_loop_ind hF (fun m a' w'=>∃ tm' hp' g' E',I m tm' hp' g' ∧ RelY y E' w' tm' hp' g' a' ∧ ExtY y.Γ E hp w E' hp' w' ∧ a'.tmps.size = N) (fun m a' w' hJ=>?_) n a w ⟨tm,hp,g,E,hI,rel,ExtY.refl _ _ _ _,hN⟩
    obtain ⟨tm',hp',g',E',hI',rel',x',hN'⟩:=hJ
    refine wpIn_mono (ih _ tm' hp' g' (hr m tm' hp' g' hI') hok E' w' a' rel' hN') fun e a2 w2 he=>?_
    cases e with
    | normal=>
     obtain ⟨tm2,hp2,g2,E2,⟨k,hk,hIk⟩,rel2,x2,hN2⟩:=he
     exact ⟨k,hk,tm2,hp2,g2,E2,hIk,rel2,x'.trans x2,hN2⟩
    | exit id=>exact QRelY.from x' (.exit id) a2 w2 he
    | ret=>exact QRelY.from x' .ret a2 w2 he
    | panic ch=>exact he
    | goto l=>exact he
    | outgrown=>exact he
   | scope x ih=>intro Q tm hp g h; exact h.elim
   | goto l=>intro Q tm hp g h; exact h.elim
   | refuse wy=>intro Q tm hp g h; exact h.elim
   | rangeFunc f params assign body _ _=>
    intro Q tm hp g h hok E w a rel hN
    simp only [wpCY] at h
    split at h
    ·exact h.elim
    ·rename_i hΓ
     split at h
     ·rename_i gf cap hf
      obtain ⟨hbod,h⟩:=h
      refine wpIn_rangeFunc fun fn hfn=>?_
      rw [hro hΓ]
      obtain ⟨va,vb,hfv,l1,l2,r1,r2⟩:=(ev_rep rel.gok rel.tm hf).func2
      have hva : va = #[]:=by simpa using l1.symm
      subst hva
      let c : Lp:={ l:=w.heap.size + 1,rc:={ state:=.ready,pending:=none,fn,tmps:=a.tmps,params,assign,body,defers:=w.heap.size },tm0:=tm }
      let w1 : World:=(w.alloc (.deferred (some []))).alloc (.loop c.rc)
      have hlt1 : ∀ b,b < w.heap.size → w1.heap[b]? = w.heap[b]?:=fun b hb=>(heap_alloc_lt _ _ (by rw [World.size_alloc]; omega)).trans (heap_alloc_lt _ _ hb)
      have hsz1 : w1.heap.size = w.heap.size + 2:=by show ((w.alloc _).alloc _).heap.size = _; rw [World.size_alloc,World.size_alloc]
      obtain ⟨s1,x1⟩:=rel.sim.grow (w':=w1) hlt1 (by omega) rfl rfl rfl
      have hL1 : w1.heap[w.heap.size + 1]? = some (.loop c.rc):=by
       have:=World.alloc_heap_new (w.alloc (.deferred (some []))) (.loop c.rc)
       rwa [World.size_alloc] at this
      have hD1 : w1.heap[w.heap.size]? = some (.deferred (some [])):=(heap_alloc_lt _ _ (by rw [World.size_alloc]; omega)).trans (World.alloc_heap_new w _)
      have nS : ∀ b,w.heap.size ≤ b → ¬ E.S b:=fun b hb hS=>by have:=rel.sim.Slt b hS; omega
      have nI : ∀ b,w.heap.size ≤ b → ¬ E.im b:=fun b hb hS=>by have:=rel.sim.lt b hS; omega
      have hl1 : LInv (some c) ⟨.ready,none⟩ E w1:=⟨hL1,nS _ (by show _ ≤ w.heap.size + 1; omega),nI _ (by show _ ≤ w.heap.size + 1; omega),fun k=>(rel.tm k).ext x1 rel.sim⟩
      refine ⟨w.heap.size + 1,[{ target:=.collected w.heap.size,args:=#[] }],w1,{ target:=.fn (.func gf) vb,args:=#[.func (.yield (w.heap.size + 1)) #[] #[]] },w1,gf,#[.func (.yield (w.heap.size + 1)) #[] #[]] ++ vb,w1,?_,?_,fun f' _=>hF.fn f',?_,hF.depth,?_⟩
      ·exact run_enterLoop_outer _ _ _ _ _
      ·have hfv' : a.eval f = Value.func (.func gf) #[] vb:=hfv
       simp only [resolve,hfv',Deferred.ofValue,Sem.run_bind,Sem.run_pure,Result.andThen_ok,List.map_toArray,List.map_cons,List.map_nil]
       simp
       rfl
      ·simp only [invoke]
       exact run_callFunc hbod _
      ·have hreps : Reps E w1 (.func (.yield (w.heap.size + 1)) [] [] :: cap) (#[.func (.yield (w.heap.size + 1)) #[] #[]] ++ vb):=by
        refine Reps.cons (.func _ [] [] #[] #[] rfl rfl (fun i c v hc=>by simp at hc) (fun i c v hc=>by simp at hc)) ⟨l2,fun i c v hc hv=>(r2 i c v hc hv).ext x1 rel.sim⟩
       have hcall:=h c rfl rfl rfl rfl (by show y.N ≤ a.tmps.size; omega) E w1 _ s1 rel.full (rel.gok.ext rel.sim x1) hreps hl1
       refine CallsIn.mono (hF.calls hcall) fun e w3 he=>?_
       cases e with
       | panicked chain=>exact he.elim
       | outgrown=>exact he.elim
       | returned u=>
        obtain ⟨v,h',g',E',⟨hbusy,hq⟩,s',f',x',r',l'⟩:=he
        have hl3 : w3.heap[c.l]? = some (.loop { c.rc with state:=g'.st,pending:=g'.pend }):=l'.1
        refine ⟨g'.pend,_,run_endLoop hl3 (by exact hbusy),?_⟩
        obtain ⟨s4,r4⟩:=s'.turn (.loop { c.rc with state:=.exhausted,pending:=g'.pend }) l'.2.1 l'.2.2.1
        have hD3 : w3.heap[w.heap.size]? = some (.deferred (some [])):=(x'.mem _ (by omega) (nI _ (Nat.le_refl _)) (by show ¬ w.heap.size = w.heap.size + 1; omega)).trans hD1
        have x4 : ExtY y.Γ E hp w E' h' (w3.putObj c.l (.loop { c.rc with state:=.exhausted,pending:=g'.pend })):=by
         rw [hΓ]
         refine ⟨x'.S,fun b hb=>?_,fun b hb hi _=>?_,x'.m,fun b hb=>?_,x'.len,?_,x'.os,x'.tape,x'.output,x'.fresh⟩
         ·rcases x'.SN b hb with h | h | h
          ·exact .inl h
          ·exact .inr (.inl h)
          ·exact .inr (.inr (by omega))
         ·have hne : b ≠ c.l:=by show b ≠ w.heap.size + 1; omega
          exact (World.putObj_heap_other hne).trans ((x'.mem b (by omega) hi (fun e=>hne e)).trans (hlt1 b hb))
         ·rcases x'.new b hb with h | h
          ·exact .inl h
          ·exact .inr (by omega)
         ·rw [World.putObj_size]; have:=x'.size; omega
        have hDne : ∀ d ∈ a.defers,d.target ≠ .collected w.heap.size:=by
         have : ∀ ds,DefsOk E w ds → ∀ d ∈ ds,d.target ≠ .collected w.heap.size:=by
          intro ds
          induction ds with
          | nil=>intro _ d hd; simp at hd
          | cons d0 ds ih=>
           intro hok d hd he
           obtain ⟨⟨D,h1,h2,_⟩,hrest⟩:=hok
           rcases List.mem_cons.1 hd with rfl | hd
           ·rw [h1] at he
            cases he
            have:=(Array.getElem?_eq_some_iff.1 h2).1
            omega
           ·exact ih hrest d hd he
         exact this _ rel.df
        have hnl0 : ∀ (D : Nat),¬ Ld y.Γ D:=fun D=>by rw [hΓ]; exact id
        have rel4 : RelY y E' (w3.putObj c.l (.loop { c.rc with state:=.exhausted,pending:=g'.pend })) tm h' g { a with defers:=[{ target:=.collected w.heap.size,args:=#[] }] ++ a.defers }:=by
         refine ⟨s4,f',rel.gok.extY rel.sim rel.ln x4,rel.tm.extY rel.sim rel.ln x4,⟨⟨w.heap.size,rfl,?_,fun hS=>?_,fun hi=>?_,hDne⟩,?_⟩,by rw [hΓ]; trivial,fun d _ D _=>hnl0 D,Nat.le_trans rel.bl.1 x4.size,fun d hd D hD=>?_⟩
         ·exact (World.putObj_heap_other (by show w.heap.size ≠ w.heap.size + 1; omega)).trans hD3
         ·rcases x'.SN _ hS with h | h | h
          ·exact nS _ (Nat.le_refl _) h
          ·exact nI _ (Nat.le_refl _) h
          ·omega
         ·rcases x'.new _ hi with h | h
          ·exact nI _ (Nat.le_refl _) h
          ·omega
         ·exact rel.df.ext x4 fun d hd D hD=>hnl0 D
         ·rcases List.mem_cons.1 hd with rfl | hd
          ·cases hD; exact rel.bl.1
          ·exact rel.bl.2 d hd D hD
        cases hp' : g'.pend with
        | none=>
         rw [hp'] at hq rel4 x4
         exact ⟨tm,h',g,E',hq,rel4,x4,hN⟩
        | some j=>
         rw [hp'] at hq rel4 x4
         cases j <;> first
          | exact hq.elim
          | exact wpIn_ret ⟨tm,h',g,E',hq,rel4,x4,hN⟩
          | exact wpIn_exit ⟨tm,h',g,E',hq,rel4,x4,hN⟩
     ·exact h.elim
end
end Go.Am
/- Ranges over functions: rounds and calls. -/
set_option maxHeartbeats 4000000
namespace Go.Am
open Go
theorem leaves_marks {P : Program} {fn : Func} {tmps : Array Value} {R : Ending → World → Prop} {Γ : Option Lp} {E0 E : Env} {h0 h : Heap} {w0 : World} : ∀ (ds : List Deferred) (w : World),DefsOk E w ds → (∀ d ∈ ds,∀ D,d.target = .collected D → w0.heap.size ≤ D) → (∀ d ∈ ds,∀ D,d.target = .collected D → ¬ Ld Γ D) → Sim E h w → ExtY Γ E0 h0 w0 E h w →
  (∀ w',Sim E h w' → ExtY Γ E0 h0 w0 E h w' → (∀ a v,Rep E w a v → Rep E w' a v) → (∀ b,Ld Γ b → w'.heap[b]? = w.heap[b]?) → ∃ v,(results fn tmps).run P w' = .ok v w' ∧ R (.returned v) w') → LeavesInM Fence.wide 0 P fn tmps R ds .returning w:=by
   intro ds
   induction ds with
   | nil=>intro w _ _ _ s x hk; exact hk w s x (fun _ _ h=>h) fun _ _=>rfl
   | cons d ds ih=>
    intro w hd hb hn s x hk
    obtain ⟨⟨D,h1,h2,h3,h4,h5⟩,hr⟩:=hd
    have hD0:=hb d (by simp) D h1
    refine ⟨(fun e=>by cases e),.inl ⟨D,_,h1,run_takeDeferred h2,?_⟩⟩
    obtain ⟨s',r'⟩:=s.turn (.deferred none) h3 h4
    have keep : ∀ ds,DefsOk E w ds → (∀ d' ∈ ds,d'.target ≠ .collected D) → DefsOk E (w.putObj D (.deferred none)) ds:=by
     intro ds
     induction ds with
     | nil=>intro _ _; trivial
     | cons d' ds ih'=>
      rintro ⟨⟨D',g1,g2,g3,g4,g5⟩,gr⟩ hne
      exact ⟨⟨D',g1,(World.putObj_heap_other (fun e=>hne d' (by simp) (by rw [g1,e]))).trans g2,g3,g4,g5⟩,ih' gr fun d'' hd''=>hne d'' (by simp [hd''])⟩
    refine ih _ (keep ds hr h5) (fun d' hd'=>hb d' (by simp [hd'])) (fun d' hd'=>hn d' (by simp [hd'])) s' ⟨x.S,x.SN,fun b hbb hi hl=>?_,x.m,x.new,x.len,by rw [World.putObj_size]; exact x.size,x.os,x.tape,x.output,x.fresh⟩ fun w' s2 x2 r2 l2=>hk w' s2 x2 (fun a v h=>r2 a v (r' a v h)) fun b hl=>(l2 b hl).trans (World.putObj_heap_other fun e=>hn d (by simp) D h1 (e ▸ hl))
    exact (World.putObj_heap_other (by omega)).trans (x.mem b hbb hi hl)
theorem callsY_of_wp {cf : Cfg} (hC : CallsOk cf (call cf)) {isY : FuncId → Bool} {Γ : Option Lp} {f : FuncId} {fn : Func} {c : Code} (hfn : cf.P.funcs[f]? = some fn) (hbd : fn.body = some c) (hok : codeY fn.ntmps c = true) {args : List AVal} {h : Heap} {g : LS} {Q : AVal → Heap → LS → Prop}
  (hw : ∀ B,wpCY ⟨cf,isY,Γ,fn.ntmps,B⟩ c (fun o=>match o with
   | .norm tm h g=>∃ vs,mapO (resA cf.P ⟨tm,h⟩) fn.results.toList = some vs ∧ Q (oneA vs) h g
   | .ret tm h g=>∃ vs,mapO (resA cf.P ⟨tm,h⟩) fn.results.toList = some vs ∧ Q (oneA vs) h g
   | _=>False) (initA args) h g) : CallsY cf Γ f args h g Q:=by
    intro E w vs s hf hg hr hl
    refine (callsIn_wide (n:=0)).1 (callsIn_of_wp_marks hfn hbd trivial ?_)
    have hsz : fn.ntmps ≤ (vs ++ Array.replicate (fn.ntmps - vs.size) undef).size:=by simp; omega
    have ht : TmRep E w (initA args) { tmps:=vs ++ Array.replicate (fn.ntmps - vs.size) undef,defers:=[] }:=by
     intro k
     show Rep E w (initA args k) _
     unfold initA
     by_cases hk : k < args.length
     ·obtain ⟨c,hc⟩:=getElem?_some_of_lt hk
      have hk' : k < vs.size:=by rw [← hr.1]; exact hk
      obtain ⟨u,hu⟩:=agetElem?_some_of_lt hk'
      rw [hc]
      have : (vs ++ Array.replicate (fn.ntmps - vs.size) undef).getD k undef = u:=by
       rw [Array.getD_eq_getD_getElem?,Array.getElem?_append_left hk',hu]; rfl
      rw [this]
      exact hr.2 k c u hc hu
     ·rw [List.getElem?_eq_none (by omega)]
      have : (vs ++ Array.replicate (fn.ntmps - vs.size) undef).getD k undef = undef:=by
       rw [Array.getD_eq_getD_getElem?,Array.getElem?_append_right (by rw [← hr.1]; omega),Array.getElem?_replicate]
       split <;> rfl
      rw [this]
      exact undef_rep
    have fin : ∀ (tm : Nat → AVal) (h' : Heap) (g' : LS) (E' : Env) (a : Act) (w' : World),RelY ⟨cf,isY,Γ,fn.ntmps,w.heap.size⟩ E' w' tm h' g' a → ExtY Γ E h w E' h' w' → (∃ vs,mapO (resA cf.P ⟨tm,h'⟩) fn.results.toList = some vs ∧ Q (oneA vs) h' g') →
      LeavesInM Fence.wide 0 cf.P fn a.tmps (PostY Γ E h w Q) a.defers .returning w':=by
       rintro tm h' g' E' a w' rel x ⟨vs,hvs,hq⟩
       refine leaves_marks a.defers w' rel.df rel.bl.2 rel.nl rel.sim x fun w2 s2 x2 r2 l2=>?_
       have tm2 : TmRep E' w2 tm a:=fun k=>r2 _ _ (rel.tm k)
       have hgS : ∀ b v,cf.G b = some v → RepC E'.S w2 (.iptr [v] 0 0) (.pointer (some ⟨b,0,none⟩)):=fun b v hb=>by
        have:=hg b v hb
        exact this.mono x2.S fun b hb=>x2.mem b (s.Slt b hb) (fun hi=>s.nS b hi hb) (hl.notS hb)
       obtain ⟨u,hu,hru⟩:=results_sound (cf:=cf) (E:=E') (w:=w2) (st:=⟨tm,h'⟩) (a:=⟨a.tmps,[]⟩) ⟨s2,rel.full,hgS,fun k=>tm2 k,rfl⟩ hvs
       refine ⟨u,hu,oneA vs,h',g',E',hq,s2,rel.full,x2,hru,?_⟩
       have ln:=rel.ln
       cases Γ with
       | none=>trivial
       | some c=>
        exact ⟨(l2 c.l rfl).trans ln.1,ln.2.1,ln.2.2.1,fun k=>r2 _ _ (ln.2.2.2 k)⟩
    refine wpIn_mono (wpCY_sound (y:=⟨cf,isY,Γ,fn.ntmps,w.heap.size⟩) ⟨none,rfl⟩ (fun _=>rfl) hC hsz c _ _ h g (hw w.heap.size) (codeY_mono hsz c hok) E w _ ⟨s,hf,hg,ht,trivial,hl,fun d hd=>by simp at hd,Nat.le_refl _,fun d hd=>by simp at hd⟩ rfl) fun e a w' he=>?_
    cases e with
    | normal=>obtain ⟨tm,h',g',E',hq,rel,x,_⟩:=he; exact fin tm h' g' E' a w' rel x hq
    | ret=>obtain ⟨tm,h',g',E',hq,rel,x,_⟩:=he; exact fin tm h' g' E' a w' rel x hq
    | exit id=>obtain ⟨tm,h',g',E',hq,rel,x,_⟩:=he; exact hq.elim
    | panic ch=>exact he.elim
    | goto l=>exact he.elim
    | outgrown=>exact he.elim
def wpFY (cf : Cfg) (isY : FuncId → Bool) (Γ : Option Lp) (B : Nat) (f : FuncId) (args : List AVal) (h : Heap) (g : LS) (Q : AVal → Heap → LS → Prop) : Prop:=
 match cf.P.funcs[f]? with
 | some fn=>match fn.body with
  | some c=>wpCY ⟨cf,isY,Γ,fn.ntmps,B⟩ c (fun o=>match o with
   | .norm tm h g=>∃ vs,mapO (resA cf.P ⟨tm,h⟩) fn.results.toList = some vs ∧ Q (oneA vs) h g
   | .ret tm h g=>∃ vs,mapO (resA cf.P ⟨tm,h⟩) fn.results.toList = some vs ∧ Q (oneA vs) h g
   | _=>False) (initA args) h g
  | none=>False
 | none=>False
def codeOf (cf : Cfg) (f : FuncId) : Bool:=match cf.P.funcs[f]? with
 | some fn=>match fn.body with
  | some c=>codeY fn.ntmps c
  | none=>false
 | none=>false
theorem callsY_of {cf : Cfg} (hC : CallsOk cf (call cf)) {isY : FuncId → Bool} {Γ : Option Lp} {f : FuncId} (hok : codeOf cf f = true) {args : List AVal} {h : Heap} {g : LS} {Q : AVal → Heap → LS → Prop} (hw : ∀ B,wpFY cf isY Γ B f args h g Q) : CallsY cf Γ f args h g Q:=by
 unfold codeOf at hok
 split at hok
 ·rename_i fn hfn
  split at hok
  ·rename_i c hc
   refine callsY_of_wp (isY:=isY) hC hfn hc hok fun B=>?_
   have:=hw B
   unfold wpFY at this
   simp only [hfn,hc] at this
   exact this
  ·cases hok
 ·cases hok
end Go.Am

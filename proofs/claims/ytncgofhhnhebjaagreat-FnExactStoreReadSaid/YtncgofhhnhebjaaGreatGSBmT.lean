/- Ranges over functions: rounds and calls. -/
import Derived.Test.YtncgofhhnhebjaaGreatGH28
set_option linter.unusedVariables false
set_option linter.unusedSimpArgs false
/- Ranges over functions: rounds and calls. -/
set_option maxHeartbeats 4000000
namespace Go.Am
open Go
theorem zip_put {N : Nat} {E : Env} {w : World} : ∀ (ps : List Tmp) (as : List AVal) (vs : List Value) (tm : Nat → AVal) (t : Array Value),as.length = vs.length → (∀ (i : Nat) (c : AVal) (v : Value),as[i]? = some c → vs[i]? = some v → Rep E w c v) →
  TmRep E w tm { tmps:=t,defers:=[] } → t.size = N → (∀ p ∈ ps,p < N) →
  TmRep E w ((ps.zip as).foldl (fun tm pa=>upd tm pa.1 pa.2) tm) { tmps:=(ps.zip vs).foldl (fun t (p,v)=>t.setIfInBounds p v) t,defers:=[] } ∧ ((ps.zip vs).foldl (fun t (p,v)=>t.setIfInBounds p v) t).size = N:=by
   intro ps
   induction ps with
   | nil=>intro as vs tm t _ _ ht hN _; exact ⟨by simpa using ht,by simpa using hN⟩
   | cons p ps ih=>
    intro as vs tm t hl hr ht hN hp
    cases as with
    | nil=>cases vs with
     | nil=>exact ⟨by simpa using ht,by simpa using hN⟩
     | cons v vs=>simp at hl
    | cons a as=>cases vs with
     | nil=>simp at hl
     | cons v vs=>
      have h0:=hr 0 a v rfl rfl
      have:=ih as vs (upd tm p a) (t.setIfInBounds p v) (by simpa using hl) (fun i c u h1 h2=>hr (i + 1) c u (by simpa using h1) (by simpa using h2)) (TmRep.put (dst:=some p) ht h0 fun d hd=>by cases hd; rw [hN]; exact hp p (by simp)) (by simpa using hN) fun q hq=>hp q (by simp [hq])
      simpa using this
theorem yields_of_wp {cf : Cfg} (hC : CallsOk cf (call cf)) {c : Lp} {args : List AVal} {h : Heap} {g : LS} {Q : AVal → Heap → LS → Prop} {N : Nat} (hg : g.st = .ready) (hl : args.length = c.rc.params.size) (hN : N ≤ c.rc.tmps.size) (hp : ∀ p ∈ c.rc.params.toList,p < N) (h1 : codeY N c.rc.assign = true) (h2 : codeY N c.rc.body = true)
  (hw : ∀ B,wpCY ⟨cf,fun _=>false,some c,N,B⟩ c.rc.assign (fun o=>match o with
   | .norm tm h g1=>g1.st = .ready ∧ wpCY ⟨cf,fun _=>false,some c,N,B⟩ c.rc.body (fun o=>match o with
    | .norm _ h _=>Q (.bool true) h ⟨.ready,none⟩
    | .ret _ h _=>Q (.bool false) h ⟨.done,some .ret⟩
    | .exit id _ h _=>Q (.bool false) h ⟨.done,some (.exit id)⟩) tm h ⟨.busy,g1.pend⟩
   | _=>False) ((c.rc.params.toList.zip args).foldl (fun tm pa=>upd tm pa.1 pa.2) c.tm0) h g) : YieldsTo cf c args h g Q:=by
    refine ⟨hl,fun E w vs s f hgk hr hln=>?_⟩
    have hF : FOk (Fence.wide.inRound c.l):=⟨some c.l,rfl⟩
    obtain ⟨t1,t2⟩:=zip_put (N:=c.rc.tmps.size) c.rc.params.toList args vs.toList c.tm0 c.rc.tmps (by simpa using hr.1) (fun i a v h1 h2=>hr.2 i a v h1 (by simpa using h2)) hln.2.2.2 rfl (fun p hpp=>Nat.lt_of_lt_of_le (hp p hpp) hN)
    have hz : (c.rc.params.zip vs).foldl (fun t (p,v)=>t.setIfInBounds p v) c.rc.tmps = (c.rc.params.toList.zip vs.toList).foldl (fun t (p,v)=>t.setIfInBounds p v) c.rc.tmps:=by
     rw [← Array.foldl_toList,Array.toList_zip]
    rw [hz]
    refine roundIn_of_wpIn trivial ?_
    refine wpIn_mono (wpCY_sound (y:=⟨cf,fun _=>false,some c,N,w.heap.size⟩) hF (fun h=>by cases h) hC (N:=c.rc.tmps.size) hN c.rc.assign _ _ h g (hw w.heap.size) (codeY_mono hN _ h1) E w _ ⟨s,f,hgk,t1,trivial,hln,fun d hd=>by simp at hd,Nat.le_refl _,fun d hd=>by simp at hd⟩ t2) fun e a1 w1 he=>?_
    cases e with
    | exit id=>obtain ⟨_,_,_,_,hq,_⟩:=he; exact hq.elim
    | ret=>obtain ⟨_,_,_,_,hq,_⟩:=he; exact hq.elim
    | panic ch=>exact he.elim
    | goto l=>exact he.elim
    | outgrown=>exact he.elim
    | normal=>
     obtain ⟨tm1,hp1,g1,E1,⟨hst,hq⟩,rel1,x1,hN1⟩:=he
     have hl1 : w1.heap[c.l]? = some (.loop { c.rc with state:=g1.st,pending:=g1.pend }):=rel1.ln.1
     refine ⟨_,run_beginRound hl1 hst,?_⟩
     obtain ⟨s2,r2⟩:=rel1.sim.turn (.loop { c.rc with state:=.busy,pending:=g1.pend }) rel1.ln.2.1 rel1.ln.2.2.1
     have x2 : ExtY (some c) E1 hp1 w1 E1 hp1 (w1.putObj c.l (.loop { c.rc with state:=.busy,pending:=g1.pend })):=ExtY.turn _
     have rel2 : RelY ⟨cf,fun _=>false,some c,N,w.heap.size⟩ E1 (w1.putObj c.l (.loop { c.rc with state:=.busy,pending:=g1.pend })) tm1 hp1 ⟨.busy,g1.pend⟩ a1:=
      ⟨s2,rel1.full,rel1.gok.extY rel1.sim rel1.ln x2,rel1.tm.extY rel1.sim rel1.ln x2,rel1.df.ext x2 rel1.nl,rel1.ln.turn rel1.sim,rel1.nl,Nat.le_trans rel1.bl.1 x2.size,rel1.bl.2⟩
     refine wpIn_mono (wpCY_sound (y:=⟨cf,fun _=>false,some c,N,w.heap.size⟩) hF (fun h=>by cases h) hC (N:=c.rc.tmps.size) hN c.rc.body _ _ hp1 _ hq (codeY_mono hN _ h2) E1 _ _ rel2 hN1) fun e a3 w3 he=>?_
     have fin : ∀ (jump : Option Code) (tm3 : Nat → AVal) (hp3 : Heap) (g3 : LS) (E3 : Env),RelY ⟨cf,fun _=>false,some c,N,w.heap.size⟩ E3 w3 tm3 hp3 g3 a3 → ExtY (some c) E1 hp1 (w1.putObj c.l (.loop { c.rc with state:=.busy,pending:=g1.pend })) E3 hp3 w3 → Q (.bool jump.isNone) hp3 ⟨if jump.isNone then .ready else .done,jump⟩ →
       ∃ v w',(Instr.endRound c.l jump).run cf.P w3 = .ok v w' ∧ PostY (some c) E h w Q (.returned v) w':=by
        intro jump tm3 hp3 g3 E3 rel3 x3 hq3
        have hl3 : w3.heap[c.l]? = some (.loop { c.rc with state:=g3.st,pending:=g3.pend }):=rel3.ln.1
        refine ⟨_,_,run_endRound jump hl3,.bool jump.isNone,hp3,⟨if jump.isNone then .ready else .done,jump⟩,E3,hq3,(rel3.sim.turn _ rel3.ln.2.1 rel3.ln.2.2.1).1,rel3.full,?_,.clo (.bool _),rel3.ln.turn (g':=⟨if jump.isNone then .ready else .done,jump⟩) rel3.sim⟩
        exact ((x1.trans x2).trans x3).trans (ExtY.turn _)
     cases e with
     | normal=>obtain ⟨tm3,hp3,g3,E3,hq3,rel3,x3,hN3⟩:=he; exact fin none tm3 hp3 g3 E3 rel3 x3 hq3
     | ret=>obtain ⟨tm3,hp3,g3,E3,hq3,rel3,x3,hN3⟩:=he; exact fin (some .ret) tm3 hp3 g3 E3 rel3 x3 hq3
     | exit id=>obtain ⟨tm3,hp3,g3,E3,hq3,rel3,x3,hN3⟩:=he; exact fin (some (.exit id)) tm3 hp3 g3 E3 rel3 x3 hq3
     | panic ch=>exact he.elim
     | goto l=>exact he.elim
     | outgrown=>exact he.elim
theorem leaves_marks {P : Program} {fn : Func} {tmps : Array Value} {R : Ending → World → Prop} {Γ : Option Lp} {E0 E : Env} {h0 h : Heap} {w0 : World} : ∀ (ds : List Deferred) (w : World),DefsOk E w ds → (∀ d ∈ ds,∀ D,d.target = .collected D → w0.heap.size ≤ D) → (∀ d ∈ ds,∀ D,d.target = .collected D → ¬ Ld Γ D) → Sim E h w → ExtY Γ E0 h0 w0 E h w →
  (∀ w',Sim E h w' → ExtY Γ E0 h0 w0 E h w' → (∀ a v,Rep E w a v → Rep E w' a v) → (∀ b,Ld Γ b → w'.heap[b]? = w.heap[b]?) → ∃ v,(results fn tmps).run P w' = .ok v w' ∧ R (.returned v) w') → LeavesInM Fence.wide 0 P fn tmps R ds .returning w:=by
   intro ds
   induction ds with
   | nil=>intro w _ _ _ s x hk; exact hk w s x (fun _ _ h=>h) fun _ _=>rfl
   | cons d ds ih=>
    intro w hd hb hn s x hk
    obtain ⟨⟨D,h1,h2,h3,h4,h5⟩,hr⟩:=hd
    have hD0:=hb d (by simp) D h1
    refine ⟨(fun e=>by cases e),.inl ⟨D,_,h1,run_takeDeferred h2,?_⟩⟩
    obtain ⟨s',r'⟩:=s.turn (.deferred none) h3 h4
    have keep : ∀ ds,DefsOk E w ds → (∀ d' ∈ ds,d'.target ≠ .collected D) → DefsOk E (w.putObj D (.deferred none)) ds:=by
     intro ds
     induction ds with
     | nil=>intro _ _; trivial
     | cons d' ds ih'=>
      rintro ⟨⟨D',g1,g2,g3,g4,g5⟩,gr⟩ hne
      exact ⟨⟨D',g1,(World.putObj_heap_other (fun e=>hne d' (by simp) (by rw [g1,e]))).trans g2,g3,g4,g5⟩,ih' gr fun d'' hd''=>hne d'' (by simp [hd''])⟩
    refine ih _ (keep ds hr h5) (fun d' hd'=>hb d' (by simp [hd'])) (fun d' hd'=>hn d' (by simp [hd'])) s' ⟨x.S,x.SN,fun b hbb hi hl=>?_,x.m,x.new,x.len,by rw [World.putObj_size]; exact x.size,x.os,x.tape,x.output⟩ fun w' s2 x2 r2 l2=>hk w' s2 x2 (fun a v h=>r2 a v (r' a v h)) fun b hl=>(l2 b hl).trans (World.putObj_heap_other fun e=>hn d (by simp) D h1 (e ▸ hl))
    exact (World.putObj_heap_other (by omega)).trans (x.mem b hbb hi hl)
theorem callsY_of_wp {cf : Cfg} (hC : CallsOk cf (call cf)) {isY : FuncId → Bool} {Γ : Option Lp} {f : FuncId} {fn : Func} {c : Code} (hfn : cf.P.funcs[f]? = some fn) (hbd : fn.body = some c) (hok : codeY fn.ntmps c = true) {args : List AVal} {h : Heap} {g : LS} {Q : AVal → Heap → LS → Prop}
  (hw : ∀ B,wpCY ⟨cf,isY,Γ,fn.ntmps,B⟩ c (fun o=>match o with
   | .norm tm h g=>∃ vs,mapO (resA cf.P ⟨tm,h⟩) fn.results.toList = some vs ∧ Q (oneA vs) h g
   | .ret tm h g=>∃ vs,mapO (resA cf.P ⟨tm,h⟩) fn.results.toList = some vs ∧ Q (oneA vs) h g
   | _=>False) (initA args) h g) : CallsY cf Γ f args h g Q:=by
    intro E w vs s hf hg hr hl
    refine (callsIn_wide (n:=0)).1 (callsIn_of_wp_marks hfn hbd trivial ?_)
    have hsz : fn.ntmps ≤ (vs ++ Array.replicate (fn.ntmps - vs.size) undef).size:=by simp; omega
    have ht : TmRep E w (initA args) { tmps:=vs ++ Array.replicate (fn.ntmps - vs.size) undef,defers:=[] }:=by
     intro k
     show Rep E w (initA args k) _
     unfold initA
     by_cases hk : k < args.length
     ·obtain ⟨c,hc⟩:=getElem?_some_of_lt hk
      have hk' : k < vs.size:=by rw [← hr.1]; exact hk
      obtain ⟨u,hu⟩:=agetElem?_some_of_lt hk'
      rw [hc]
      have : (vs ++ Array.replicate (fn.ntmps - vs.size) undef).getD k undef = u:=by
       rw [Array.getD_eq_getD_getElem?,Array.getElem?_append_left hk',hu]; rfl
      rw [this]
      exact hr.2 k c u hc hu
     ·rw [List.getElem?_eq_none (by omega)]
      have : (vs ++ Array.replicate (fn.ntmps - vs.size) undef).getD k undef = undef:=by
       rw [Array.getD_eq_getD_getElem?,Array.getElem?_append_right (by rw [← hr.1]; omega),Array.getElem?_replicate]
       split <;> rfl
      rw [this]
      exact undef_rep
    have fin : ∀ (tm : Nat → AVal) (h' : Heap) (g' : LS) (E' : Env) (a : Act) (w' : World),RelY ⟨cf,isY,Γ,fn.ntmps,w.heap.size⟩ E' w' tm h' g' a → ExtY Γ E h w E' h' w' → (∃ vs,mapO (resA cf.P ⟨tm,h'⟩) fn.results.toList = some vs ∧ Q (oneA vs) h' g') →
      LeavesInM Fence.wide 0 cf.P fn a.tmps (PostY Γ E h w Q) a.defers .returning w':=by
       rintro tm h' g' E' a w' rel x ⟨vs,hvs,hq⟩
       refine leaves_marks a.defers w' rel.df rel.bl.2 rel.nl rel.sim x fun w2 s2 x2 r2 l2=>?_
       have tm2 : TmRep E' w2 tm a:=fun k=>r2 _ _ (rel.tm k)
       have hgS : ∀ b v,cf.G b = some v → RepC E'.S w2 (.iptr [v] 0 0) (.pointer (some ⟨b,0,none⟩)):=fun b v hb=>by
        have:=hg b v hb
        exact this.mono x2.S fun b hb=>x2.mem b (s.Slt b hb) (fun hi=>s.nS b hi hb) (hl.notS hb)
       obtain ⟨u,hu,hru⟩:=results_sound (cf:=cf) (E:=E') (w:=w2) (st:=⟨tm,h'⟩) (a:=⟨a.tmps,[]⟩) ⟨s2,rel.full,hgS,fun k=>tm2 k,rfl⟩ hvs
       refine ⟨u,hu,oneA vs,h',g',E',hq,s2,rel.full,x2,hru,?_⟩
       have ln:=rel.ln
       cases Γ with
       | none=>trivial
       | some c=>
        exact ⟨(l2 c.l rfl).trans ln.1,ln.2.1,ln.2.2.1,fun k=>r2 _ _ (ln.2.2.2 k)⟩
    refine wpIn_mono (wpCY_sound (y:=⟨cf,isY,Γ,fn.ntmps,w.heap.size⟩) ⟨none,rfl⟩ (fun _=>rfl) hC hsz c _ _ h g (hw w.heap.size) (codeY_mono hsz c hok) E w _ ⟨s,hf,hg,ht,trivial,hl,fun d hd=>by simp at hd,Nat.le_refl _,fun d hd=>by simp at hd⟩ rfl) fun e a w' he=>?_
    cases e with
    | normal=>obtain ⟨tm,h',g',E',hq,rel,x,_⟩:=he; exact fin tm h' g' E' a w' rel x hq
    | ret=>obtain ⟨tm,h',g',E',hq,rel,x,_⟩:=he; exact fin tm h' g' E' a w' rel x hq
    | exit id=>obtain ⟨tm,h',g',E',hq,rel,x,_⟩:=he; exact hq.elim
    | panic ch=>exact he.elim
    | goto l=>exact he.elim
    | outgrown=>exact he.elim
def wpFY (cf : Cfg) (isY : FuncId → Bool) (Γ : Option Lp) (B : Nat) (f : FuncId) (args : List AVal) (h : Heap) (g : LS) (Q : AVal → Heap → LS → Prop) : Prop:=
 match cf.P.funcs[f]? with
 | some fn=>match fn.body with
  | some c=>wpCY ⟨cf,isY,Γ,fn.ntmps,B⟩ c (fun o=>match o with
   | .norm tm h g=>∃ vs,mapO (resA cf.P ⟨tm,h⟩) fn.results.toList = some vs ∧ Q (oneA vs) h g
   | .ret tm h g=>∃ vs,mapO (resA cf.P ⟨tm,h⟩) fn.results.toList = some vs ∧ Q (oneA vs) h g
   | _=>False) (initA args) h g
  | none=>False
 | none=>False
def codeOf (cf : Cfg) (f : FuncId) : Bool:=match cf.P.funcs[f]? with
 | some fn=>match fn.body with
  | some c=>codeY fn.ntmps c
  | none=>false
 | none=>false
theorem callsY_of {cf : Cfg} (hC : CallsOk cf (call cf)) {isY : FuncId → Bool} {Γ : Option Lp} {f : FuncId} (hok : codeOf cf f = true) {args : List AVal} {h : Heap} {g : LS} {Q : AVal → Heap → LS → Prop} (hw : ∀ B,wpFY cf isY Γ B f args h g Q) : CallsY cf Γ f args h g Q:=by
 unfold codeOf at hok
 split at hok
 ·rename_i fn hfn
  split at hok
  ·rename_i c hc
   refine callsY_of_wp (isY:=isY) hC hfn hc hok fun B=>?_
   have:=hw B
   unfold wpFY at this
   simp only [hfn,hc] at this
   exact this
  ·cases hok
 ·cases hok
end Go.Am

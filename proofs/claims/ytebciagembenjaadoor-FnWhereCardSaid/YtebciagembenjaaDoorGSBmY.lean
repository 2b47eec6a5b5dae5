/- Ranges over functions: a plain logic of calls, yields and rounds over Am's states. -/
import Derived.Test.YtebciagembenjaaDoorGSBmQ
import Derived.Test.YtebciagembenjaaDoorGSBmW
import Derived.RangeFuncRecord
set_option linter.unusedVariables false
set_option linter.unusedSimpArgs false
/- Ranges over functions: a plain logic of calls, yields and rounds over Am's states. -/
set_option maxHeartbeats 4000000
namespace Go.Am
open Go
structure Lp where
 l : Nat
 rc : Loop
 tm0 : Nat → AVal
structure LS where
 st : LoopState
 pend : Option Code
def LInv (Γ : Option Lp) (g : LS) (E : Env) (w : World) : Prop:=match Γ with
 | none=>True
 | some c=>w.heap[c.l]? = some (.loop { c.rc with state:=g.st,pending:=g.pend }) ∧ ¬ E.S c.l ∧ ¬ E.im c.l ∧ TmRep E w c.tm0 { tmps:=c.rc.tmps,defers:=[] }
def Ld (Γ : Option Lp) (b : Nat) : Prop:=match Γ with
 | none=>False
 | some c=>b = c.l
structure ExtY (Γ : Option Lp) (E : Env) (h : Heap) (w : World) (E' : Env) (h' : Heap) (w' : World) : Prop where
 S : ∀ b,E.S b → E'.S b
 SN : ∀ b,E'.S b → E.S b ∨ E.im b ∨ w.heap.size ≤ b
 mem : ∀ b,b < w.heap.size → ¬ E.im b → ¬ Ld Γ b → w'.heap[b]? = w.heap[b]?
 m : ∀ id s,E.m id = some s → E'.m id = some s ∨ E'.m id = some .dead
 new : ∀ b,E'.im b → E.im b ∨ w.heap.size ≤ b
 len : h.length ≤ h'.length
 size : w.heap.size ≤ w'.heap.size
 os : w'.os = w.os
 tape : w'.tape = w.tape
 output : w'.output = w.output
 fresh : ∀ id,id < h.length → E.m id = none → E'.m id = none
theorem Ext.toY {Γ : Option Lp} {E E' : Env} {h h' : Heap} {w w' : World} (x : Ext E h w E' h' w') : ExtY Γ E h w E' h' w':=
 ⟨x.S,x.SN,fun b h1 h2 _=>x.mem b h1 h2,x.m,x.new,x.len,x.size,x.os,x.tape,x.output,x.fresh⟩
theorem ExtY.refl (Γ : Option Lp) (E : Env) (h : Heap) (w : World) : ExtY Γ E h w E h w:=(Ext.refl E h w).toY
theorem ExtY.trans {Γ : Option Lp} {E E1 E2 : Env} {h h1 h2 : Heap} {w w1 w2 : World} (a : ExtY Γ E h w E1 h1 w1) (b : ExtY Γ E1 h1 w1 E2 h2 w2) : ExtY Γ E h w E2 h2 w2 where
 S:=fun x hx=>b.S x (a.S x hx)
 SN:=fun x hx=>by
  rcases b.SN x hx with h | h | h
  ·exact a.SN x h
  ·exact .inr (a.new x h)
  ·exact .inr (.inr (Nat.le_trans a.size h))
 mem:=fun x hx hn hd=>by
  have h1 : ¬ E1.im x:=fun hi=>by
   rcases a.new x hi with h | h
   ·exact hn h
   ·omega
  exact (b.mem x (Nat.lt_of_lt_of_le hx a.size) h1 hd).trans (a.mem x hx hn hd)
 m:=fun id s hs=>by
  rcases a.m id s hs with h | h
  ·exact b.m id s h
  ·rcases b.m id _ h with h | h <;> exact .inr h
 new:=fun x hx=>by
  rcases b.new x hx with h | h
  ·exact a.new x h
  ·exact .inr (Nat.le_trans a.size h)
 len:=Nat.le_trans a.len b.len
 size:=Nat.le_trans a.size b.size
 os:=b.os.trans a.os
 tape:=b.tape.trans a.tape
 output:=b.output.trans a.output
 fresh:=fun id h1 h2=>b.fresh id (Nat.lt_of_lt_of_le h1 a.len) (a.fresh id h1 h2)
section
variable {cf : Cfg} {Γ : Option Lp} {g : LS} {E E' : Env} {h h' : Heap} {w w' : World}
theorem LInv.notS (hl : LInv Γ g E w) {b : Nat} (hb : E.S b) : ¬ Ld Γ b:=by
 cases Γ with
 | none=>exact id
 | some c=>intro e; simp only [Ld] at e; subst e; exact hl.2.1 hb
theorem Rep.extY (x : ExtY Γ E h w E' h' w') (s : Sim E h w) (hl : LInv Γ g E w) {a : AVal} {v : Value} (hr : Rep E w a v) : Rep E' w' a v:=
 hr.mono x.S (fun b hb=>x.mem b (s.Slt b hb) (fun hi=>s.nS b hi hb) (hl.notS hb)) x.m
theorem GOk.extY {G : Nat → Option AVal} (hg : GOk G E.S w) (s : Sim E h w) (hl : LInv Γ g E w) (x : ExtY Γ E h w E' h' w') : GOk G E'.S w':=
 hg.mono x.S fun b hb=>x.mem b (s.Slt b hb) (fun hi=>s.nS b hi hb) (hl.notS hb)
theorem TmRep.extY {tm : Nat → AVal} {a : Act} (ht : TmRep E w tm a) (s : Sim E h w) (hl : LInv Γ g E w) (x : ExtY Γ E h w E' h' w') : TmRep E' w' tm a:=fun k=>(ht k).extY x s hl
theorem LInv.lt {c : Lp} (hl : LInv (some c) g E w) : c.l < w.heap.size:=by
 have h : w.heap[c.l]? = some (.loop { c.rc with state:=g.st,pending:=g.pend }):=hl.1
 exact (Array.getElem?_eq_some_iff.1 h).1
theorem LInv.ext (hl : LInv Γ g E w) (s : Sim E h w) (x : Ext E h w E' h' w') : LInv Γ g E' w':=by
 cases Γ with
 | none=>trivial
 | some c=>
  have hlt:=hl.lt
  obtain ⟨h1,h2,h3,h4⟩:=hl
  refine ⟨(x.mem _ hlt h3).trans h1,fun hS=>?_,fun hi=>?_,h4.ext s x⟩
  ·rcases x.SN _ hS with h | h | h
   ·exact h2 h
   ·exact h3 h
   ·omega
  ·rcases x.new _ hi with h | h
   ·exact h3 h
   ·omega
end
def DefsOk (E : Env) (w : World) : List Deferred → Prop
 | []=>True
 | d :: ds=>(∃ D,d.target = .collected D ∧ w.heap[D]? = some (.deferred (some [])) ∧ ¬ E.S D ∧ ¬ E.im D ∧ ∀ d' ∈ ds,d'.target ≠ .collected D) ∧ DefsOk E w ds
theorem DefsOk.ext {Γ : Option Lp} {E E' : Env} {h h' : Heap} {w w' : World} (x : ExtY Γ E h w E' h' w') : ∀ {ds : List Deferred},(∀ d ∈ ds,∀ D,d.target = .collected D → ¬ Ld Γ D) → DefsOk E w ds → DefsOk E' w' ds
 | [],_,_=>trivial
 | d :: ds,hn,⟨⟨D,h1,h2,h3,h4,h5⟩,hr⟩=>by
  have hlt : D < w.heap.size:=(Array.getElem?_eq_some_iff.1 h2).1
  refine ⟨⟨D,h1,(x.mem D hlt h4 (hn d (by simp) D h1)).trans h2,fun hS=>?_,fun hi=>?_,h5⟩,DefsOk.ext x (fun d' hd'=>hn d' (by simp [hd'])) hr⟩
  ·rcases x.SN _ hS with h | h | h
   ·exact h3 h
   ·exact h4 h
   ·omega
  ·rcases x.new _ hi with h | h
   ·exact h4 h
   ·omega
def PostY (Γ : Option Lp) (E : Env) (h : Heap) (w : World) (Q : AVal → Heap → LS → Prop) : Ending → World → Prop
 | .returned u,w'=>∃ v h' g' E',Q v h' g' ∧ Sim E' h' w' ∧ Full E' h' ∧ ExtY Γ E h w E' h' w' ∧ Rep E' w' v u ∧ LInv Γ g' E' w'
 | _,_=>False
theorem PostY.mono {Γ : Option Lp} {E : Env} {h : Heap} {w : World} {Q Q' : AVal → Heap → LS → Prop} (hq : ∀ v h g,Q v h g → Q' v h g) : ∀ e w',PostY Γ E h w Q e w' → PostY Γ E h w Q' e w'
 | .returned u,w',⟨v,h',g',E',h1,h2⟩=>⟨v,h',g',E',hq _ _ _ h1,h2⟩
 | .panicked _,_,h=>h.elim
 | .outgrown,_,h=>h.elim
def CallsY (cf : Cfg) (Γ : Option Lp) (f : FuncId) (args : List AVal) (h : Heap) (g : LS) (Q : AVal → Heap → LS → Prop) : Prop:=
 ∀ (E : Env) (w : World) (vs : Array Value),Sim E h w → Full E h → GOk cf.G E.S w → Reps E w args vs → LInv Γ g E w → Calls cf.P f vs w (PostY Γ E h w Q)
theorem CallsY.mono {cf : Cfg} {Γ : Option Lp} {f : FuncId} {args : List AVal} {h : Heap} {g : LS} {Q Q' : AVal → Heap → LS → Prop} (hc : CallsY cf Γ f args h g Q) (hq : ∀ v h g,Q v h g → Q' v h g) : CallsY cf Γ f args h g Q':=
 fun E w vs h1 h2 h3 h4 h5=>Calls.mono (hc E w vs h1 h2 h3 h4 h5) (PostY.mono hq)
def YieldsTo (cf : Cfg) (c : Lp) (args : List AVal) (h : Heap) (g : LS) (Q : AVal → Heap → LS → Prop) : Prop:=
 args.length = c.rc.params.size ∧ ∀ (E : Env) (w : World) (vs : Array Value),Sim E h w → Full E h → GOk cf.G E.S w → Reps E w args vs → LInv (some c) g E w →
  RoundIn Fence.wide 0 cf.P c.l c.rc.fn ((c.rc.params.zip vs).foldl (fun t (p,v)=>t.setIfInBounds p v) c.rc.tmps) c.rc.assign c.rc.body w (PostY (some c) E h w Q)
theorem YieldsTo.mono {cf : Cfg} {c : Lp} {args : List AVal} {h : Heap} {g : LS} {Q Q' : AVal → Heap → LS → Prop} (hc : YieldsTo cf c args h g Q) (hq : ∀ v h g,Q v h g → Q' v h g) : YieldsTo cf c args h g Q':=
 ⟨hc.1,fun E w vs h1 h2 h3 h4 h5=>RoundIn.mono (hc.2 E w vs h1 h2 h3 h4 h5) (PostY.mono hq)⟩
structure YEnv where
 cf : Cfg
 isY : FuncId → Bool
 Γ : Option Lp
 N : Nat
 B : Nat
def yieldOp (G : Nat → Option AVal) (tm : Nat → AVal) : Op → Option (Nat × List AVal)
 | .call { callee:=.value fo,args,.. }=>match ev G tm fo,mapO (ev G tm) args.toList with
  | some (.func (.yield l) [] []),some as=>some (l,as)
  | _,_=>none
 | _=>none
def handOn (o : Oper) (tm : Nat → AVal) (K : (Nat → AVal) → Heap → LS → Prop) (v : AVal) (h : Heap) (g : LS) : Prop:=wpB v fun v=>forceV v fun v=>putK tm o.dst v fun tm=>K tm h g
theorem handOn_elim {o : Oper} {tm : Nat → AVal} {K : (Nat → AVal) → Heap → LS → Prop} {v : AVal} {h : Heap} {g : LS} (hh : handOn o tm K v h g) : K (putA tm o.dst v) h g:=by
 have h1:=wpB_elim (K:=fun v=>forceV v fun v=>putK tm o.dst v fun tm=>K tm h g) hh
 exact putK_elim (K:=fun tm=>K tm h g) (forceV_elim (K:=fun v=>putK tm o.dst v fun tm=>K tm h g) h1)
def unkNil (cf : Cfg) (tm : Nat → AVal) : Op → Bool
 | .binOp .eql t x y _=>match nilLit y,ev cf.G tm x,cf.P.underlying t with
  | true,some (.sl []),some (.slice _)=>true
  | _,_,_=>false
 | _=>false
def wpSY (y : YEnv) (o : Oper) (tm : Nat → AVal) (hp : Heap) (g : LS) (K : (Nat → AVal) → Heap → LS → Prop) : Prop:=
 match isCallOp o.op with
 | true=>match yieldOp y.cf.G tm o.op with
  | some (l,as)=>match y.Γ with
   | some c=>forceVs as fun as=>l = c.l ∧ YieldsTo y.cf c as hp g (handOn o tm K)
   | none=>False
  | none=>match opEval y.cf tm hp o.op with
   | some (.call f args)=>match y.isY f with
    | true=>forceVs args fun args=>CallsY y.cf y.Γ f args hp g (handOn o tm K)
    | false=>forceVs args fun args=>∃ r,callM y.cf (call y.cf) f args hp = some r ∧ match r with
     | .ret v h=>handOn o tm K v h g
     | .pan _ _=>False
   | _=>False
 | false=>match unkNil y.cf tm o.op with
  | true=>∀ b : Bool,putK tm o.dst (.bool b) fun tm=>K tm hp g
  | false=>wpVY y.cf tm hp o.op fun v h=>forceV v fun v=>putK tm o.dst v fun tm=>K tm h g
def wpRY (y : YEnv) (ops : Array Oper) (Q : (Nat → AVal) → Heap → LS → Prop) : List Oper → (Nat → AVal) → Heap → LS → Prop
 | [],tm,hp,g=>Q tm hp g
 | o :: rest,tm,hp,g=>match guardA ops o tm with
  | none=>wpSY y o tm hp g (wpRY y ops Q rest)
  | some t=>bsel t (wpSY y o tm hp g (wpRY y ops Q rest)) (putK tm o.dst (.tup []) fun tm=>wpRY y ops Q rest tm hp g)
inductive YOut where
 | norm (tm : Nat → AVal) (hp : Heap) (g : LS)
 | exit (id : Nat) (tm : Nat → AVal) (hp : Heap) (g : LS)
 | ret (tm : Nat → AVal) (hp : Heap) (g : LS)
def wpCY (y : YEnv) : Code → (YOut → Prop) → (Nat → AVal) → Heap → LS → Prop
 | .skip,Q,tm,hp,g=>Q (.norm tm hp g)
 | .label _,Q,tm,hp,g=>Q (.norm tm hp g)
 | .region _ ops false,Q,tm,hp,g=>wpRY y ops (fun tm hp g=>Q (.norm tm hp g)) ops.toList tm hp g
 | .seq a b,Q,tm,hp,g=>wpCY y a (fun o=>match o with
  | .norm tm hp g=>wpCY y b Q tm hp g
  | o=>Q o) tm hp g
 | .cond c a b,Q,tm,hp,g=>match ev y.cf.G tm c with
  | some (.bool t)=>bsel t (wpCY y a Q tm hp g) (wpCY y b Q tm hp g)
  | _=>False
 | .block id c,Q,tm,hp,g=>wpCY y c (fun o=>match o with
  | .exit j tm hp g=>match Nat.decEq j id with
   | isTrue _=>Q (.norm tm hp g)
   | isFalse _=>Q (.exit j tm hp g)
  | o=>Q o) tm hp g
 | .loop c,Q,tm,hp,g=>∃ (I : Nat → (Nat → AVal) → Heap → LS → Prop) (n : Nat),I n tm hp g ∧ ∀ n tm hp g,I n tm hp g → wpCY y c (fun o=>match o with
  | .norm tm hp g=>∃ m,m < n ∧ I m tm hp g
  | o=>Q o) tm hp g
 | .exit id,Q,tm,hp,g=>Q (.exit id tm hp g)
 | .ret,Q,tm,hp,g=>Q (.ret tm hp g)
 | .rangeFunc f params assign body,Q,tm,hp,g=>match y.Γ with
  | some _=>False
  | none=>match ev y.cf.G tm f with
   | some (.func (.func gf) [] cap)=>bodied y.cf.P gf = true ∧ ∀ c : Lp,c.rc.params = params → c.rc.assign = assign → c.rc.body = body → c.tm0 = tm → y.N ≤ c.rc.tmps.size →
    CallsY y.cf (some c) gf (.func (.yield c.l) [] [] :: cap) hp ⟨.ready,none⟩ fun _ h g'=>g'.st ≠ .busy ∧ match g'.pend with
     | none=>Q (.norm tm h g)
     | some .ret=>Q (.ret tm h g)
     | some (.exit id)=>Q (.exit id tm h g)
     | _=>False
   | _=>False
 | _,_,_,_,_=>False
structure RelY (y : YEnv) (E : Env) (w : World) (tm : Nat → AVal) (hp : Heap) (g : LS) (a : Act) : Prop where
 sim : Sim E hp w
 full : Full E hp
 gok : GOk y.cf.G E.S w
 tm : TmRep E w tm a
 df : DefsOk E w a.defers
 ln : LInv y.Γ g E w
 nl : ∀ d ∈ a.defers,∀ D,d.target = .collected D → ¬ Ld y.Γ D
 bl : y.B ≤ w.heap.size ∧ ∀ d ∈ a.defers,∀ D,d.target = .collected D → y.B ≤ D
def QRelY (y : YEnv) (E : Env) (h : Heap) (w : World) (N : Nat) (Q : YOut → Prop) : Exit → Act → World → Prop
 | .normal,a,w'=>∃ tm hp g E',Q (.norm tm hp g) ∧ RelY y E' w' tm hp g a ∧ ExtY y.Γ E h w E' hp w' ∧ a.tmps.size = N
 | .exit id,a,w'=>∃ tm hp g E',Q (.exit id tm hp g) ∧ RelY y E' w' tm hp g a ∧ ExtY y.Γ E h w E' hp w' ∧ a.tmps.size = N
 | .ret,a,w'=>∃ tm hp g E',Q (.ret tm hp g) ∧ RelY y E' w' tm hp g a ∧ ExtY y.Γ E h w E' hp w' ∧ a.tmps.size = N
 | _,_,_=>False
theorem QRelY.from {y : YEnv} {E E1 : Env} {h h1 : Heap} {w w1 : World} {N : Nat} {Q : YOut → Prop} (x : ExtY y.Γ E h w E1 h1 w1) : ∀ (e : Exit) (a : Act) (w' : World),QRelY y E1 h1 w1 N Q e a w' → QRelY y E h w N Q e a w':=by
 intro e a w' hq
 cases e with
 | normal=>obtain ⟨tm,hp,g,E',g1,g2,g3,g4⟩:=hq; exact ⟨tm,hp,g,E',g1,g2,x.trans g3,g4⟩
 | exit id=>obtain ⟨tm,hp,g,E',g1,g2,g3,g4⟩:=hq; exact ⟨tm,hp,g,E',g1,g2,x.trans g3,g4⟩
 | ret=>obtain ⟨tm,hp,g,E',g1,g2,g3,g4⟩:=hq; exact ⟨tm,hp,g,E',g1,g2,x.trans g3,g4⟩
 | panic chain=>exact hq
 | goto l=>exact hq
 | outgrown=>exact hq
theorem RelY.skip {y : YEnv} {E : Env} {w : World} {tm : Nat → AVal} {hp : Heap} {g : LS} {a : Act} {dst : Option Tmp} (rel : RelY y E w tm hp g a) (hd : ∀ d,dst = some d → d < a.tmps.size) : RelY y E w (putA tm dst (.tup [])) hp g (a.put dst undef):=
 ⟨rel.sim,rel.full,rel.gok,rel.tm.put undef_rep hd,by rw [put_defers]; exact rel.df,rel.ln,by rw [put_defers]; exact rel.nl,rel.bl.1,by rw [put_defers]; exact rel.bl.2⟩
def FOk (F : Fence) : Prop:=∃ ro,F = { Fence.wide with round:=ro }
theorem FOk.fn {F : Fence} (h : FOk F) (f : FuncId) : F.fn f:=by obtain ⟨ro,rfl⟩:=h; trivial
theorem FOk.depth {F : Fence} (h : FOk F) {n : Nat} : F.depth.isSome = true → 1 ≤ n:=by obtain ⟨ro,rfl⟩:=h; intro h; cases h
theorem FOk.calls {F : Fence} (h : FOk F) {P : Program} {f : FuncId} {args : Array Value} {w : World} {R : Ending → World → Prop} (hc : Calls P f args w R) : CallsIn F 0 P f args w R:=by
 obtain ⟨ro,rfl⟩:=h
 exact callsIn_wide.2 hc
theorem FOk.round {F : Fence} (h : FOk F) {P : Program} {l : Nat} {f : FuncId} {tmps : Array Value} {assign body : Code} {w : World} {R : Ending → World → Prop} (hc : RoundIn Fence.wide 0 P l f tmps assign body w R) : RoundIn F 0 P l f tmps assign body w R:=by
 obtain ⟨ro,rfl⟩:=h
 exact hc
theorem opEval_defer {cf : Cfg} {tm : Nat → AVal} {h : Heap} {c : Call} : opEval cf tm h (.defer c) = none:=by simp [opEval]
theorem yieldOp_some {G : Nat → Option AVal} {tm : Nat → AVal} {o : Op} {l : Nat} {as : List AVal} (h : yieldOp G tm o = some (l,as)) :
  ∃ fo args tys,o = .call ⟨.value fo,args,tys⟩ ∧ ev G tm fo = some (.func (.yield l) [] []) ∧ mapO (ev G tm) args.toList = some as:=by
   unfold yieldOp at h
   split at h
   ·rename_i fo args tys
    split at h
    ·rename_i l' as' h1 h2
     cases h
     exact ⟨fo,args,tys,rfl,h1,h2⟩
    ·cases h
   ·cases h
section
variable {y : YEnv} {F : Fence} {N : Nat} {E : Env} {w : World}
theorem stepY_sound (hF : FOk F) (hC : CallsOk y.cf (call y.cf)) {o : Oper} {tm : Nat → AVal} {hp : Heap} {g : LS} {K : (Nat → AVal) → Heap → LS → Prop} {a : Act} {next : Act → World → Prop} {Q : YOut → Prop} (hs : wpSY y o tm hp g K) (rel : RelY y E w tm hp g a) (hN : a.tmps.size = N)
  (hd : ∀ d,o.dst = some d → d < N)
  (hK : ∀ (tm' : Nat → AVal) (hp' : Heap) (g' : LS) (E' : Env) (w' : World) (a' : Act),K tm' hp' g' → RelY y E' w' tm' hp' g' a' → ExtY y.Γ E hp w E' hp' w' → a'.tmps.size = N → next a' w') : o.wpIn F 0 y.cf.P a w next (QRelY y E hp w N Q):=by
   refine ⟨fun f _=>hF.fn f,?_⟩
   have fin : ∀ (v : AVal) (h' : Heap) (g' : LS) (u : Value) (w' : World) (E' : Env),K (putA tm o.dst v) h' g' → Sim E' h' w' → Full E' h' → ExtY y.Γ E hp w E' h' w' → Rep E' w' v u → LInv y.Γ g' E' w' → next (a.put o.dst u) w':=by
    intro v h' g' u w' E' hk s' f' x' r' l'
    exact hK _ _ g' E' w' _ hk ⟨s',f',rel.gok.extY rel.sim rel.ln x',(rel.tm.extY rel.sim rel.ln x').put r' (by rw [hN]; exact hd),by rw [put_defers]; exact rel.df.ext x' rel.nl,l',by rw [put_defers]; exact rel.nl,Nat.le_trans rel.bl.1 x'.size,by rw [put_defers]; exact rel.bl.2⟩ x' (by rw [put_size]; exact hN)
   have ops : ∀ xs,OpsRep y.cf.G E w tm a.eval xs:=fun xs=>⟨fun x _ v hv=>ev_rep rel.gok rel.tm hv,fun _=>rfl⟩
   unfold wpSY at hs
   split at hs
   ·rename_i hcall
    have hnd : ∀ c,o.op ≠ .defer c:=fun c e=>by rw [e] at hcall; cases hcall
    rw [Oper.semAt_eq _ _ _ hnd]
    split at hs
    ·rename_i l as hy
     obtain ⟨fo,args,tys,ho,hfo,has⟩:=yieldOp_some hy
     split at hs
     ·rename_i c hc
      obtain ⟨rfl,hyt⟩:=forceVs_elim hs
      obtain ⟨dst,op,ty,pos,after,guard⟩:=o
      simp only at ho
      subst ho
      have hl:=rel.ln
      rw [hc] at hl
      have hras : Reps E w as (args.map a.eval):=OpsRep.list (ops (Op.call ⟨.value fo,args,tys⟩).operands) (ys:=args) (fun y hy=>by simp [Op.operands,Call.operands,hy]) has
      obtain ⟨va,vb,hfv,l1,l2,r1,r2⟩:=(ops (Op.call ⟨.value fo,args,tys⟩).operands fo (by simp [Op.operands,Call.operands]) _ hfo).func2
      have hva : va = #[]:=by simpa using l1.symm
      have hvb : vb = #[]:=by simpa using l2.symm
      subst hva hvb
      have hsz : (args.map a.eval).size = c.rc.params.size:=by rw [← hyt.1]; exact hras.1.symm
      have hrun : (execOp a.eval { dst,op:=.call ⟨.value fo,args,tys⟩,type:=ty,pos,after,guard }).run y.cf.P w = .ok (.round c.l c.rc.fn ((c.rc.params.zip (args.map a.eval)).foldl (fun t (p,v)=>t.setIfInBounds p v) c.rc.tmps) c.rc.assign c.rc.body) w:=by
       have:=run_yield (P:=y.cf.P) (args:=args.map a.eval) hl.1 hsz
       simp only [execOp,resolve,hfv,Deferred.ofValue,Sem.run_bind,Sem.run_pure,Result.andThen_ok,invoke]
       simpa using this
      rw [hrun]
      refine ⟨hF.depth,?_⟩
      refine RoundIn.mono (hF.round (hyt.2 E w _ rel.sim rel.full rel.gok hras hl)) fun e w' he=>?_
      cases e with
      | returned u=>
       obtain ⟨v,h',g',E',hq,s',f',x',r',l'⟩:=he
       exact fin v h' g' u w' E' (handOn_elim hq) s' f' (by rw [hc]; exact x') r' (by rw [hc]; exact l')
      | panicked chain=>exact he.elim
      | outgrown=>exact he.elim
     ·exact hs.elim
    ·split at hs
     ·rename_i f args hv
      obtain ⟨vs,hrun,hreps,hb⟩:=callop_sound (ops _) hv
      rw [hrun]
      refine ⟨hF.depth,?_⟩
      split at hs
      ·have hcy:=forceVs_elim hs
       refine CallsIn.mono (hF.calls (hcy E w vs rel.sim rel.full rel.gok hreps rel.ln)) fun e w' he=>?_
       cases e with
       | returned u=>
        obtain ⟨v,h',g',E',hq,s',f',x',r',l'⟩:=he
        exact fin v h' g' u w' E' (handOn_elim hq) s' f' x' r' l'
       | panicked chain=>exact he.elim
       | outgrown=>exact he.elim
      ·obtain ⟨r,hr,hq⟩:=forceVs_elim hs
       refine CallsIn.mono (hF.calls (hC f args hp r hr E w vs hb rel.sim rel.full rel.gok hreps)) fun e w' he=>?_
       cases e with
       | returned u=>
        obtain ⟨v,h',E',rfl,s',f',x',r'⟩:=he
        exact fin v h' g u w' E' (handOn_elim hq) s' f' x'.toY r' (rel.ln.ext rel.sim x')
       | panicked chain=>
        obtain ⟨v,h',E',u,rfl,_⟩:=he
        exact hq.elim
       | outgrown=>exact he.elim
     ·exact hs.elim
   ·split at hs
    ·rename_i hu
     obtain ⟨dst,op,ty,pos,after,guard⟩:=o
     simp only at hu hs
     unfold unkNil at hu
     split at hu
     ·rename_i t x yo t2 _
      split at hu
      ·rename_i e hn hx ht
       have hva:=(ops (Op.binOp .eql t x yo t2).operands) x (by simp [Op.operands]) _ hx
       have hvb : a.eval yo = .slice none 0 0:=by rw [nilLit_eq hn]; rfl
       have hnd : ∀ c,(Op.binOp BinOp.eql t x yo t2) ≠ .defer c:=fun c e=>by cases e
       rw [Oper.semAt_eq _ _ _ hnd]
       cases hva with
       | clo hc=>
        generalize hgx : a.eval x = vx at hc
        cases hc with
        | sl _ ad cap s b o' vs h1 h2 h3 h4 h5=>
         have hrun : (execOp a.eval { dst,op:=.binOp .eql t x yo t2,type:=ty,pos,after,guard }).run y.cf.P w = .ok (.value (.bool ad.isNone)) w:=by
          simp only [execOp,hgx,hvb,Sem.run_bind]
          rw [show (eqGuard .eql t x yo (.slice ad ([] : List AVal).length cap) (.slice none 0 0)).run y.cf.P w = .ok () w from rfl]
          simp only [Result.andThen_ok]
          rw [run_eql_nilS t e ad _ cap ht]
          rfl
         rw [hrun]
         exact fin (.bool ad.isNone) hp g _ w E (putK_elim (K:=fun tm=>K tm hp g) (hs ad.isNone)) rel.sim rel.full (ExtY.refl _ _ _ _) (.clo (.bool _)) rel.ln
      ·cases hu
     ·cases hu
    obtain ⟨v,h',hv,hk⟩:=wpVY_sound hs
    have hk' : K (putA tm o.dst v) h' g:=putK_elim (K:=fun tm=>K tm h' g) (forceV_elim (K:=fun v=>putK tm o.dst v fun tm=>K tm h' g) hk)
    have hnd : ∀ c,o.op ≠ .defer c:=fun c e=>by rw [e,opEval_defer] at hv; cases hv
    rw [Oper.semAt_eq _ _ _ hnd]
    obtain ⟨u,w',E',hrun,s',f',x',r'⟩:=op_sound rel.sim rel.full (ops _) hv
    rcases hrun with hrun | ⟨hrun,rfl⟩
    ·rw [hrun]; exact fin v h' g u w' E' hk' s' f' x'.toY r' (rel.ln.ext rel.sim x')
    ·rw [hrun]; exact fin v h' g undef w' E' hk' s' f' x'.toY r' (rel.ln.ext rel.sim x')
theorem wpIn_region_list {P : Program} {id : Nat} {ops : Array Oper} {Q : Exit → Act → World → Prop} {n : Nat} (R : List Oper → Act → World → Prop) (hnil : ∀ a w,R [] a w → Q .normal a w)
  (hcons : ∀ o rest a w,R (o :: rest) a w → (Region.wanted o (yielded ops a.tmps) = true ∧ o.wpIn F n P a w (R rest) Q) ∨ (Region.wanted o (yielded ops a.tmps) = false ∧ R rest (a.put o.dst undef) w)) (hF : FOk F)
  {a : Act} {w : World} (h : R ops.toList a w) : (Code.region id ops false).wpIn F n P Q a w:=by
   refine wpIn_region ?_
   have key : ∀ (m i : Nat) (a : Act) (w : World),i + m = ops.size → R (ops.toList.drop i) a w → wpOpsIn F n P ops Q (List.range' i m) a w:=by
    intro m
    induction m with
    | zero=>
     intro i a w hi hr
     rw [List.drop_of_length_le (by simp; omega)] at hr
     exact hnil a w hr
    | succ m ih=>
     intro i a w hi hr
     have hlt : i < ops.size:=by omega
     have hd : ops.toList.drop i = ops[i] :: ops.toList.drop (i + 1):=by
      rw [List.drop_eq_getElem_cons (by simpa using hlt)]
      simp
     rw [hd] at hr
     simp only [List.range'_succ,wpOpsIn,Array.getElem?_eq_getElem hlt]
     rcases hcons _ _ a w hr with ⟨hw,h1⟩ | ⟨hw,h1⟩
     ·rw [if_pos hw]
      refine ⟨h1.1,?_⟩
      have h2:=h1.2
      generalize (Oper.semAt F.round a.eval ops[i]).run P w = q at h2 ⊢
      cases q with
      | ok x w'=>
       cases x <;> simp only [Oper.uponIn] at h2 ⊢ <;> first
        | exact ih _ _ _ (by omega) h2
        | exact ⟨h2.1,CallsIn.mono h2.2 (fun e w'' he=>by cases e with
          | returned v=>exact ih _ _ _ (by omega) he
          | panicked c=>exact he
          | outgrown=>exact he)⟩
        | exact ⟨h2.1,RowsIn.mono h2.2 (fun _ _ he=>ih _ _ _ (by omega) he)⟩
        | exact ⟨h2.1,RoundIn.mono h2.2 (fun e w'' he=>by cases e with
          | returned v=>exact ih _ _ _ (by omega) he
          | panicked c=>exact he
          | outgrown=>exact he)⟩
      | halt x w'=>cases x <;> simp only [Oper.uponIn] at h2 ⊢ <;> exact h2
     ·rw [if_neg (by rw [hw]; exact Bool.false_ne_true)]
      exact ⟨fun f _=>hF.fn f,ih _ _ _ (by omega) h1⟩
   have:=key ops.size 0 a w (by omega) (by simpa using h)
   rw [List.range_eq_range']
   exact this
theorem regY_sound (hF : FOk F) (hC : CallsOk y.cf (call y.cf)) {id : Nat} {ops : Array Oper} (hd : ∀ o ∈ ops.toList,∀ d,o.dst = some d → d < N) {Q : YOut → Prop} {tm : Nat → AVal} {hp : Heap} {g : LS} {a : Act} (h : wpRY y ops (fun tm hp g=>Q (.norm tm hp g)) ops.toList tm hp g) (rel : RelY y E w tm hp g a) (hN : a.tmps.size = N) :
  (Code.region id ops false).wpIn F 0 y.cf.P (QRelY y E hp w N Q) a w:=by
   refine wpIn_region_list (fun l a' w'=>(∀ o ∈ l,∀ d,o.dst = some d → d < N) ∧ ∃ tm' hp' g' E',wpRY y ops (fun tm hp g=>Q (.norm tm hp g)) l tm' hp' g' ∧ RelY y E' w' tm' hp' g' a' ∧ ExtY y.Γ E hp w E' hp' w' ∧ a'.tmps.size = N) (fun a' w'=>?_) (fun o rest a' w'=>?_) hF ⟨hd,tm,hp,g,E,h,rel,ExtY.refl _ _ _ _,hN⟩
   ·rintro ⟨_,tm',hp',g',E',h1,h2,h3,h4⟩
    exact ⟨tm',hp',g',E',h1,h2,h3,h4⟩
   ·rintro ⟨hd',tm',hp',g',E',h1,h2,h3,h4⟩
    have hdo:=hd' o (by simp)
    have hdr : ∀ o ∈ rest,∀ d,o.dst = some d → d < N:=fun o' ho'=>hd' o' (by simp [ho'])
    obtain ⟨gw1,gw2⟩:=guard_wanted (ops:=ops) (o:=o) h2.tm
    have go : wpSY y o tm' hp' g' (wpRY y ops (fun tm hp g=>Q (.norm tm hp g)) rest) → o.wpIn F 0 y.cf.P a' w' (fun a' w'=>(∀ o ∈ rest,∀ d,o.dst = some d → d < N) ∧ ∃ tm' hp' g' E',wpRY y ops (fun tm hp g=>Q (.norm tm hp g)) rest tm' hp' g' ∧ RelY y E' w' tm' hp' g' a' ∧ ExtY y.Γ E hp w E' hp' w' ∧ a'.tmps.size = N) (QRelY y E hp w N Q):=by
     intro hs
     have:=stepY_sound (Q:=Q) hF hC (next:=fun a' w'=>(∀ o ∈ rest,∀ d,o.dst = some d → d < N) ∧ ∃ tm' hp' g' E',wpRY y ops (fun tm hp g=>Q (.norm tm hp g)) rest tm' hp' g' ∧ RelY y E' w' tm' hp' g' a' ∧ ExtY y.Γ E hp w E' hp' w' ∧ a'.tmps.size = N) hs h2 h4 hdo fun tm2 hp2 g2 E2 w2 a2 k1 k2 k3 k4=>⟨hdr,tm2,hp2,g2,E2,k1,k2,h3.trans k3,k4⟩
     refine ⟨this.1,?_⟩
     have h5:=this.2
     generalize (Oper.semAt F.round a'.eval o).run y.cf.P w' = q at h5 ⊢
     cases q with
     | ok x w2=>
      cases x <;> simp only [Oper.uponIn] at h5 ⊢ <;> first
       | exact h5
       | exact ⟨h5.1,CallsIn.mono h5.2 (fun e w'' he=>by cases e with
         | returned v=>exact he
         | panicked c=>exact he.elim
         | outgrown=>obtain ⟨_,_,h⟩:=he; exact h.elim)⟩
       | exact ⟨h5.1,RoundIn.mono h5.2 (fun e w'' he=>by cases e with
         | returned v=>exact he
         | panicked c=>exact he.elim
         | outgrown=>obtain ⟨_,_,h⟩:=he; exact h.elim)⟩
     | halt x w2=>cases x <;> simp only [Oper.uponIn] at h5 ⊢ <;> first | exact h5 | exact h5.elim
    simp only [wpRY] at h1
    cases hg : guardA ops o tm' with
    | none=>
     rw [hg] at h1
     exact .inl ⟨gw1 hg,go h1⟩
    | some t=>
     rw [hg] at h1
     rcases bsel_elim h1 with ⟨rfl,h1⟩ | ⟨rfl,h1⟩
     ·exact .inl ⟨gw2 true hg,go h1⟩
     ·exact .inr ⟨gw2 false hg,hdr,_,hp',g',E',putK_elim (K:=fun tm=>wpRY y ops (fun tm hp g=>Q (.norm tm hp g)) rest tm hp' g') h1,h2.skip (by rw [h4]; exact hdo),h3,by rw [put_size]; exact h4⟩
end
end Go.Am

/- Regions whose order is drawn: the run in any order. -/
import Derived.Test.YtebciagembenjaaDoorGSBmO
set_option linter.unusedVariables false
set_option linter.unusedSimpArgs false
/- Regions whose order is drawn: the run in any order. -/
set_option maxHeartbeats 4000000
namespace Go.Am
open Go
section
variable {cf : Cfg} {C : COr} {ops : Array Oper} {tr : Nat → St}
theorem xop_sound (hC : Sound cf C) {E : Env} {w : World} {H : Heap} {st st' : St} {o : Oper} {a : Act} {next : Act → World → Prop} {Q : Exit → Act → World → Prop} (hst : StepAt cf C ops st o st') (hx : opX cf.M o.op = true)
  (hp : st'.hp <+: H ∨ isFree cf.P o.op = true ∨ (isLoadO o = true ∧ ∀ v,opEval cf st.tm st.hp o.op = some (.val v st.hp) → opEval cf st.tm H o.op = some (.val v H)) ∨ (isMkO o = true ∧ ∀ v ob,opEval cf st.tm st.hp o.op = some (.val v (st.hp ++ [ob])) → H[st.hp.length]? = some ob)) (s : Sim E H w) (hg : GOk cf.G E.S w) (hn : ∀ k,st.hp.length ≤ k → k < st'.hp.length → E.m k = none) (hr : OpsRep cf.G E w st.tm a.eval o.op.operands)
  (hw : ∀ j want d,o.guard = some (j,want) → (ops[j]?).bind (·.dst) = some d → Rep E w (st.tm d) (a.tmps.getD d undef))
  (hK : ∀ (v : AVal) (u : Value) (w' : World) (E' : Env),st' = ⟨putA st.tm o.dst v,st'.hp⟩ → Sim E' H w' → Ext0 E H w E' H w' → Rep E' w' v u → (∀ k,E'.m k = E.m k ∨ (st.hp.length ≤ k ∧ k < st'.hp.length)) → next (a.put o.dst u) w') :
  if Region.wanted o (yielded ops a.tmps) then o.wp cf.P a w next Q else next (a.put o.dst undef) w:=by
   obtain ⟨gw1,gw2⟩:=guard_wanted' (E:=E) (w:=w) (ops:=ops) (o:=o) (tm:=st.tm) (a:=a) hw
   have isw : (guardA ops o st.tm = none ∨ guardA ops o st.tm = some true) → Region.wanted o (yielded ops a.tmps) = true:=fun h=>h.elim gw1 (gw2 true)
   cases hst with
   | skip hgd he=>
    rw [if_neg (by rw [gw2 false hgd]; simp)]
    subst he
    exact hK (.tup []) undef w E rfl s (Ext.refl _ _ _).toExt0 undef_rep fun k=>.inl rfl
   | val v h' hgd hv he=>
    rw [if_pos (isw hgd)]
    subst he
    have hmk : isMake o.op = true:=by
     simp only [opX,Bool.or_eq_true] at hx
     rcases hx with hx | hx
     ·exact hx
     ·obtain ⟨f,args,hc,_⟩:=pcall_shape hx hv; cases hc
    have fin : okx cf.P E H w (execOp a.eval o) v st.hp.length h'.length → o.wp cf.P a w next Q:=by
     rintro ⟨u,w',E',hrun,s',x',r',hm'⟩
     unfold Oper.wp
     rw [hrun]
     exact hK v u w' E' rfl s' x' r' hm'
    by_cases hfr : isFree cf.P o.op = true
    ·obtain ⟨v',hq,hall⟩:=free_val hfr hv
     cases hq
     obtain ⟨u,w',E',hrun,s',x',r',hm'⟩:=(make_sound s hmk hr (hall H) (List.prefix_refl _) (fun k h1 h2=>by omega)).2
     exact fin ⟨u,w',E',hrun,s',x',r',fun k=>(hm' k).elim .inl fun h=>by omega⟩
    ·rcases hp with hpp | h | ⟨hl,hall⟩ | ⟨hm2,hob⟩
     ·exact fin (make_sound s hmk hr hv hpp hn).2
     ·exact absurd h hfr
     ·obtain ⟨v',hv',hq⟩:=StepAt.load (C:=C) (ops:=ops) (.val v h' hgd hv rfl) hl
      rw [hv] at hv'
      cases hv'
      obtain ⟨u,w',E',hrun,s',x',r',hm'⟩:=(make_sound s hmk hr (hall _ hv) (List.prefix_refl _) (fun k h1 h2=>by omega)).2
      exact fin ⟨u,w',E',hrun,s',x',r',fun k=>(hm' k).elim .inl fun h=>by omega⟩
     ·obtain ⟨v',ob,hq,_⟩:=mk_shape hm2 hv
      cases hq
      exact fin (make_sound' s hmk hr hv (fun hrd=>by rw [mk_notread hm2] at hrd; cases hrd) (fun ob' e=>by have e2:=List.append_cancel_left e; cases e2; exact hob _ _ hv) hn).2
   | call f args v h' hgd hv hdy hc he=>
    rw [if_pos (isw hgd)]
    subst he
    simp only [opX,Bool.or_eq_true] at hx
    have hpc : isPCall cf.M o.op = true:=by
     rcases hx with hx | hx
     ·exfalso
      rcases opEval_shape hv with ⟨_,_,hq⟩ | ⟨c,hq⟩ | ⟨x,hq⟩
      ·cases hq
      ·by_cases hrd : isRead o.op = true
       ·obtain ⟨_,hq⟩:=isRead_val hrd hv; cases hq
       ·rw [hq] at hx hrd; exact hrd hx
      ·by_cases hrd : isRead o.op = true
       ·obtain ⟨_,hq⟩:=isRead_val hrd hv; cases hq
       ·rw [hq] at hx hrd; exact hrd hx
     ·exact hx
    have hfr : ¬ isFree cf.P o.op = true:=fun hfr=>by obtain ⟨_,hq,_⟩:=free_val hfr hv; cases hq
    have hp : h' <+: H ∨ isFree cf.P o.op = true:=by
     rcases hp with h | h | ⟨hl,_⟩ | ⟨hm2,_⟩
     ·exact .inl h
     ·exact .inr h
     rotate_left
     ·obtain ⟨v',ob,hq,_⟩:=mk_shape hm2 hv
      cases hq
     ·obtain ⟨_,hv',_⟩:=StepAt.load (C:=C) (ops:=ops) (.call f args v h' hgd hv hdy hc rfl) hl
      rw [hv] at hv'
      cases hv'
    have hst' : StepAt cf C ops st o ⟨putA st.tm o.dst v,h'⟩:=.call f args v h' hgd hv hdy hc rfl
    have hpre:=hst'.grows (by simp [opX,hpc])
    have hpH : st.hp <+: H:=(hpre.trans (hp.elim id fun h=>absurd h hfr))
    obtain ⟨f',args',hq,hm'⟩:=pcall_shape hpc hv
    cases hq
    obtain ⟨vs,hrun,hreps,hb⟩:=callop_sound hr hv
    unfold Oper.wp
    rw [hrun]
    rcases modeQ_eq (hm' hdy) with hm | hm
    ·refine Calls.mono (pcall_sound hC hm hc hb hpH s hg hreps) fun e w1 he=>?_
     cases e with
     | returned u=>
      obtain ⟨v',S1,hq,p1,p2,p3⟩:=he
      cases hq
      exact hK _ u w1 _ rfl p1 p2.toExt0 p3 fun k=>.inl rfl
     | panicked chain=>obtain ⟨v',S1,u,hq,_⟩:=he; cases hq
     | outgrown=>exact he.elim
    ·refine Calls.mono (ncall_sound hC hm hc hb (hp.elim id fun h=>absurd h hfr) hn s hg hreps).2 fun e w1 he=>?_
     cases e with
     | returned u=>
      obtain ⟨v',h'',E',hq,p1,p2,p3,p4⟩:=he
      cases hq
      exact hK _ u w1 E' rfl p1 p2 p3 p4
     | panicked chain=>exact he.elim
     | outgrown=>exact he.elim
theorem wop_sound (hC : CallsOk cf C) {E : Env} {w : World} {st st' : St} {o : Oper} {a : Act} {next : Act → World → Prop} {Q : Exit → Act → World → Prop} (hst : StepAt cf C ops st o st')
  (s : Sim E st.hp w) (hf : Full E st.hp) (hg : GOk cf.G E.S w) (hr : OpsRep cf.G E w st.tm a.eval o.op.operands)
  (hw : ∀ j want d,o.guard = some (j,want) → (ops[j]?).bind (·.dst) = some d → Rep E w (st.tm d) (a.tmps.getD d undef))
  (hK : ∀ (v : AVal) (u : Value) (w' : World) (E' : Env),st' = ⟨putA st.tm o.dst v,st'.hp⟩ → Sim E' st'.hp w' → Full E' st'.hp → Ext E st.hp w E' st'.hp w' → Rep E' w' v u → next (a.put o.dst u) w') :
  if Region.wanted o (yielded ops a.tmps) then o.wp cf.P a w next Q else next (a.put o.dst undef) w:=by
   obtain ⟨gw1,gw2⟩:=guard_wanted' (E:=E) (w:=w) (ops:=ops) (o:=o) (tm:=st.tm) (a:=a) hw
   have isw : (guardA ops o st.tm = none ∨ guardA ops o st.tm = some true) → Region.wanted o (yielded ops a.tmps) = true:=fun h=>h.elim gw1 (gw2 true)
   cases hst with
   | skip hgd he=>
    rw [if_neg (by rw [gw2 false hgd]; simp)]
    subst he
    exact hK (.tup []) undef w E rfl s hf (Ext.refl _ _ _) undef_rep
   | val v h' hgd hv he=>
    rw [if_pos (isw hgd)]
    subst he
    obtain ⟨u,w',E',hrun,s',f',x',r'⟩:=op_sound s hf hr hv
    unfold Oper.wp
    rcases hrun with hrun | ⟨hrun,rfl⟩
    ·rw [hrun]; exact hK v u w' E' rfl s' f' x' r'
    ·rw [hrun]; exact hK v undef w' E' rfl s' f' x' r'
   | call f args v h' hgd hv hdy hc he=>
    rw [if_pos (isw hgd)]
    subst he
    obtain ⟨vs,hrun,hreps,hb⟩:=callop_sound hr hv
    unfold Oper.wp
    rw [hrun]
    refine Calls.mono (hC f args st.hp _ hc E w vs hb s hf hg hreps) fun e w1 he=>?_
    cases e with
    | returned u=>
     obtain ⟨v',h'',E',hq,s',f',x',r'⟩:=he
     cases hq
     exact hK _ u w1 E' rfl s' f' x' r'
    | panicked chain=>obtain ⟨v',h'',E',u,hq,_⟩:=he; cases hq
    | outgrown=>exact he.elim
def Lst (listed : Array Bool) (i : Nat) : Prop:=listed.getD i false = true
structure DInv (cf : Cfg) (ops : Array Oper) (tr : Nat → St) (E0 : Env) (h0 : Heap) (w0 : World) (N : Nat) (E : Env) (q : Nat) (listed : Array Bool) (a : Act) (w : World) : Prop where
 size : listed.size = ops.size
 down : ∀ j o,ops[j]? = some o → Lst listed j → ∀ e ∈ o.after,Region.binds .any e = true → Lst listed e.on
 qle : q ≤ ops.size
 wl : ∀ i o,i < q → ops[i]? = some o → opX cf.M o.op = false → Lst listed i
 wq : q < ops.size → (∃ o,ops[q]? = some o ∧ opX cf.M o.op = false) ∧ ¬ Lst listed q
 sim : Sim E (tr q).hp w
 full : Full E (tr q).hp
 nn : ∀ i,i < q → ¬ Lst listed i → ∀ k,(tr i).hp.length ≤ k → k < (tr (i + 1)).hp.length → E.m k = none
 tm : ∀ j t,j ≤ ops.size → (∀ i o,i < j → ops[i]? = some o → o.dst = some t → Lst listed i) → (∀ i o,j ≤ i → ops[i]? = some o → o.dst = some t → ¬ Lst listed i) → Rep E w ((tr j).tm t) (a.tmps.getD t undef)
 g : GOk cf.G E.S w
 df : a.defers = []
 sz : a.tmps.size = N
 ext : Ext E0 h0 w0 E (tr q).hp w
 mono : ∀ m,m < q → (tr m).hp.length ≤ (tr (m + 1)).hp.length
 len0 : h0.length ≤ (tr 0).hp.length
theorem Lst.set {listed : Array Bool} {i k : Nat} (hi : i < listed.size) : Lst (listed.setIfInBounds i true) k ↔ k = i ∨ Lst listed k:=by
 unfold Lst
 by_cases e : k = i
 ·subst e; simp [hi]
 ·simp [Array.getElem?_setIfInBounds,Ne.symm e,e]
theorem tr_free_tm (ht : ∀ i o,ops[i]? = some o → StepAt cf C ops (tr i) o (tr (i + 1))) {t : Nat} : ∀ (n i : Nat),i + n ≤ ops.size → (∀ k o,i ≤ k → k < i + n → ops[k]? = some o → o.dst ≠ some t) → (tr (i + n)).tm t = (tr i).tm t:=by
 intro n
 induction n with
 | zero=>intro i _ _; rfl
 | succ n ih=>
  intro i hle hd
  have hlt : i + n < ops.size:=by omega
  obtain ⟨o,ho⟩ : ∃ o,ops[i + n]? = some o:=⟨ops[i + n],Array.getElem?_eq_getElem hlt⟩
  rw [show i + (n + 1) = i + n + 1 by omega,(ht _ o ho).tm_other (hd _ o (by omega) (by omega) ho)]
  exact ih i (by omega) fun k o h1 h2=>hd k o h1 (by omega)
theorem tr_prefix (ht : ∀ i o,ops[i]? = some o → StepAt cf C ops (tr i) o (tr (i + 1))) : ∀ (n i : Nat),i + n ≤ ops.size → (∀ k o,i ≤ k → k < i + n → ops[k]? = some o → opX cf.M o.op = true) → (tr i).hp <+: (tr (i + n)).hp:=by
 intro n
 induction n with
 | zero=>intro i _ _; exact List.prefix_refl _
 | succ n ih=>
  intro i hle hx
  have hlt : i + n < ops.size:=by omega
  obtain ⟨o,ho⟩ : ∃ o,ops[i + n]? = some o:=⟨ops[i + n],Array.getElem?_eq_getElem hlt⟩
  exact (ih i (by omega) fun k o h1 h2=>hx k o h1 (by omega)).trans ((ht _ o ho).grows (hx _ o (by omega) (by omega) ho))
theorem next_w (M : FuncId → Mode) (ops : Array Oper) : ∀ (n i : Nat),i + n = ops.size → ∃ q,i ≤ q ∧ q ≤ ops.size ∧ (∀ k o,i ≤ k → k < q → ops[k]? = some o → opX M o.op = true) ∧ (q < ops.size → ∃ o,ops[q]? = some o ∧ opX M o.op = false):=by
 intro n
 induction n with
 | zero=>intro i h; exact ⟨i,Nat.le_refl _,by omega,fun k o h1 h2=>by omega,fun h=>by omega⟩
 | succ n ih=>
  intro i h
  have hlt : i < ops.size:=by omega
  obtain ⟨o,ho⟩ : ∃ o,ops[i]? = some o:=⟨ops[i],Array.getElem?_eq_getElem hlt⟩
  cases hx : opX M o.op with
  | false=>exact ⟨i,Nat.le_refl _,by omega,fun k o h1 h2=>by omega,fun _=>⟨o,ho,hx⟩⟩
  | true=>
   obtain ⟨q,h1,h2,h3,h4⟩:=ih (i + 1) (by omega)
   refine ⟨q,by omega,h2,fun k o' hk hkq ho'=>?_,h4⟩
   by_cases e : k = i
   ·subst e; rw [ho] at ho'; cases ho'; exact hx
   ·exact h3 k o' (by omega) hkq ho'
section
variable {E0 : Env} {h0 : Heap} {w0 : World} {N : Nat}
theorem draw_step (hS : Sound cf C) (hC : CallsOk cf C) (hok : drawOk cf.P cf.M ops = true) (hd : ∀ o ∈ ops.toList,∀ d,o.dst = some d → d < N) (ht : ∀ i o,ops[i]? = some o → StepAt cf C ops (tr i) o (tr (i + 1)))
  (hlate : ∀ j o,ops[j]? = some o → isFC cf.M o.op = true → (tr (j + 1)).hp = (tr j).hp ∨ lateP cf (tr (j + 1)) (((masks ops.toList [])[j]?).getD 0) (ops.toList.take j) 0)
  {E : Env} {q : Nat} {listed : Array Bool} {a : Act} {w : World} (inv : DInv cf ops tr E0 h0 w0 N E q listed a w) {i : Nat} (hi : i ∈ Region.ready .any ops listed) {K : Act → World → Prop} {Q : Exit → Act → World → Prop}
  (hK : ∀ (E' : Env) (q' : Nat) (a' : Act) (w' : World),DInv cf ops tr E0 h0 w0 N E' q' (listed.setIfInBounds i true) a' w' → K a' w') : wpOp cf.P ops Q i K a w:=by
   obtain ⟨hfwd,hpair⟩:=drawOk_spec hok
   obtain ⟨hun,o,ho,hall⟩:=mem_ready.1 hi
   have hio : i < ops.size:=(Array.getElem?_eq_some_iff.1 ho).1
   have hil : i < listed.size:=by rw [inv.size]; exact hio
   have hnl : ¬ Lst listed i:=by
    unfold Lst
    simp [hil] at hun ⊢
    exact hun
   have hallL : ∀ o',ops[i]? = some o' → ∀ e ∈ o'.after,Region.binds .any e = true → Lst listed e.on:=fun o' ho' e he hb=>by rw [ho] at ho'; cases ho'; exact hall e he hb
   -- what comes before i is listed; what comes behind a listed one is not i
   have dnI : ∀ k,Dn ops k i → Lst listed k:=fun k hk=>(hk.listed (L:=Lst listed) inv.down).2 hallL
   have dnL : ∀ k,Dn ops i k → ¬ Lst listed k:=fun k hk hl=>hnl ((hk.listed (L:=Lst listed) inv.down).1 hl)
   have hset : ∀ k,Lst (listed.setIfInBounds i true) k ↔ k = i ∨ Lst listed k:=fun k=>Lst.set hil
   have getop : ∀ k,k < ops.size → ∃ o',ops[k]? = some o':=fun k hk=>⟨ops[k],Array.getElem?_eq_getElem hk⟩
   -- the operands
   have look : ∀ t ∈ o.looksAt ops,Rep E w ((tr i).tm t) (a.tmps.getD t undef):=by
    intro t htl
    refine inv.tm i t (by omega) (fun k o' hk ho' hdst=>?_) (fun k o' hk ho' hdst hl=>?_)
    ·rcases hpair k i o' o hk ho' ho with h | h
     ·exact dnI k h
     ·exact absurd htl ((Oper.apart_spec h.1).1 t hdst)
    ·by_cases e : k = i
     ·subst e; exact hnl hl
     ·rcases hpair i k o o' (by omega) ho ho' with h | h
      ·exact dnL k h hl
      ·exact absurd htl ((Oper.apart_spec h.1).2.2 t hdst)
   have hops : OpsRep cf.G E w (tr i).tm a.eval o.op.operands:=by
    refine ⟨?_,fun _=>rfl⟩
    intro x hx v hv
    cases x with
    | tmp t=>
     simp only [ev] at hv
     cases hv
     exact look t (List.mem_append_left _ (List.mem_filterMap.2 ⟨.tmp t,by simpa using hx,rfl⟩))
    | const c=>exact .clo (ofV_rep hv)
    | global g=>
     simp only [ev,Option.map_eq_some_iff] at hv
     obtain ⟨u,hu,rfl⟩:=hv
     exact .clo (inv.g g u hu)
    | func f=>
     simp only [ev] at hv
     cases hv
     exact .func (.func f) [] [] #[] #[] rfl rfl (fun i c v hc=>by simp at hc) (fun i c v hc=>by simp at hc)
   have hgw : ∀ j want d,o.guard = some (j,want) → (ops[j]?).bind (·.dst) = some d → Rep E w ((tr i).tm d) (a.tmps.getD d undef):=by
    intro j want d hg hdd
    exact look d (List.mem_append_right _ (by simp [hg,hdd]))
   have hdi : ∀ d,o.dst = some d → d < N:=hd o (by simpa using Array.mem_of_getElem? ho)
   -- the temporaries behind it
   have newtm : ∀ (v : AVal) (u : Value) (w' : World) (E' : Env),tr (i + 1) = ⟨putA (tr i).tm o.dst v,(tr (i + 1)).hp⟩ → (∀ x y,Rep E w x y → Rep E' w' x y) → Rep E' w' v u →
     ∀ j t,j ≤ ops.size → (∀ k o',k < j → ops[k]? = some o' → o'.dst = some t → Lst (listed.setIfInBounds i true) k) → (∀ k o',j ≤ k → ops[k]? = some o' → o'.dst = some t → ¬ Lst (listed.setIfInBounds i true) k) →
      Rep E' w' ((tr j).tm t) ((a.put o.dst u).tmps.getD t undef):=by
       intro v u w' E' hst hrep hru j t hj h1 h2
       by_cases hdt : o.dst = some t
       ·have hij : i < j:=Nat.lt_of_not_le fun hle=>h2 i o hle ho hdt ((hset i).2 (.inl rfl))
        have hsame : (tr j).tm t = (tr (i + 1)).tm t:=by
         have:=tr_free_tm ht (t:=t) (j - (i + 1)) (i + 1) (by omega) fun k o' hk1 hk2 ho' hdst=>by
          have hl:=h1 k o' (by omega) ho' hdst
          rcases (hset k).1 hl with h | h
          ·omega
          ·rcases hpair i k o o' (by omega) ho ho' with hp | hp
           ·exact dnL k hp h
           ·exact (Oper.apart_spec hp.1).2.1 t hdt hdst
         rw [show i + 1 + (j - (i + 1)) = j by omega] at this
         exact this
        rw [hsame,hst]
        have hlt:=hdi t hdt
        simp only [putA,upd,hdt,if_true,Act.put]
        simpa [Array.getElem?_setIfInBounds,inv.sz,hlt] using hru
       ·have hold : Rep E w ((tr j).tm t) (a.tmps.getD t undef):=inv.tm j t hj (fun k o' hk ho' hdst=>by
          rcases (hset k).1 (h1 k o' hk ho' hdst) with h | h
          ·subst h; rw [ho] at ho'; cases ho'; exact absurd hdst hdt
          ·exact h) (fun k o' hk ho' hdst hl=>h2 k o' hk ho' hdst ((hset k).2 (.inr hl)))
        have hsame : (a.put o.dst u).tmps.getD t undef = a.tmps.getD t undef:=by
         cases hq : o.dst with
         | none=>rfl
         | some d=>
          have : d ≠ t:=fun e=>hdt (by rw [hq,e])
          simp [Act.put,Array.getElem?_setIfInBounds,this]
        rw [hsame]
        exact hrep _ _ hold
   have newdown : ∀ j o',ops[j]? = some o' → Lst (listed.setIfInBounds i true) j → ∀ e ∈ o'.after,Region.binds .any e = true → Lst (listed.setIfInBounds i true) e.on:=by
    intro j o' ho' hl e he hb
    refine (hset _).2 (.inr ?_)
    rcases (hset j).1 hl with h | h
    ·subst h; exact hallL o' ho' e he hb
    ·exact inv.down j o' ho' h e he hb
   -- an operation with its names on the way,that is not listed and stands before q,has no writer behind it before q (loads that are looked at again apart)
   have seg : ∀ k o',k < q → ops[k]? = some o' → ¬ Lst listed k → isFree cf.P o'.op = false → isLateO o' = false → ∀ m o'',k ≤ m → m < q → ops[m]? = some o'' → opX cf.M o''.op = true:=by
    intro k o' hk ho' hnk hfr hnl' m o'' hkm hmq ho''
    cases hx : opX cf.M o''.op with
    | true=>rfl
    | false=>
     exfalso
     have hlm:=inv.wl m o'' hmq ho'' hx
     by_cases e : k = m
     ·subst e; exact hnk hlm
     ·rcases hpair k m o' o'' (by omega) ho' ho'' with h | ⟨_,h⟩
      ·exact hnk ((h.listed (L:=Lst listed) inv.down).1 hlm)
      ·have hfm : isFree cf.P o''.op = false:=by
        cases hf : isFree cf.P o''.op with
        | false=>rfl
        | true=>simp [opX,free_make hf] at hx
       rcases h with h | h | h | h
       ·rw [hfr] at h; cases h
       ·rw [hfm] at h; cases h
       ·rw [hx] at h; cases h.2
       ·have:=h.late; rw [hnl'] at this; cases this
   -- what a load that is not listed gives behind the writers ahead of q
   have chain : ∀ n a,a + n ≤ q → (tr a).hp.length ≤ (tr (a + n)).hp.length:=by
    intro n
    induction n with
    | zero=>intro a _; exact Nat.le_refl _
    | succ n ih=>intro a ha; exact Nat.le_trans (ih a (by omega)) (inv.mono (a + n) (by omega))
   -- what a maker that is not listed made is there behind the writers ahead of q
   have lateM : isMkO o = true → ∀ ob,(tr (i + 1)).hp = (tr i).hp ++ [ob] → ∀ n,i + 1 + n ≤ q → (tr (i + 1 + n)).hp[(tr i).hp.length]? = some ob:=by
    intro hm ob hob n
    obtain ⟨v0,ob0,hv0,hq0⟩:=(ht i o ho).mk hm
    have e0 : ob0 = ob:=by rw [hq0] at hob; have:=List.append_cancel_left hob; cases this; rfl
    subst e0
    obtain ⟨v1,ob1,hq1,hsh⟩:=mk_shape hm hv0
    have e1:=congrArg (fun x=>match x with | OpR.val v h=>(v,h) | _=>(.nil,[])) hq1
    simp only [Prod.mk.injEq] at e1
    obtain ⟨e1,e2⟩:=e1
    have e2:=List.append_cancel_left e2
    cases e2
    subst e1
    induction n with
    | zero=>
     intro _
     rw [Nat.add_zero,hob,List.getElem?_append_right (Nat.le_refl _)]
     simp
    | succ n ih=>
     intro hle
     have hprev:=ih (by omega)
     have hlt : i + 1 + n < ops.size:=by have:=inv.qle; omega
     obtain ⟨oj,hoj⟩:=getop _ hlt
     have hstep:=ht _ oj hoj
     rw [show i + 1 + (n + 1) = i + 1 + n + 1 by omega]
     cases hxj : opX cf.M oj.op with
     | true=>exact get_prefix (hstep.grows hxj) hprev
     | false=>
      have hlm:=inv.wl _ oj (by omega) hoj hxj
      rcases hpair i _ o oj (by omega) ho hoj with h | ⟨_,h⟩
      ·exact absurd hlm (dnL _ h)
      ·have hfm : isFree cf.P oj.op = false:=by
        cases hf : isFree cf.P oj.op with
        | false=>rfl
        | true=>simp [opX,free_make hf] at hxj
       rcases h with h | h | h | h
       ·rw [mk_notfree hm] at h; cases h
       ·rw [hfm] at h; cases h
       ·rw [hxj] at h; cases h.2
       ·rcases hlate _ oj hoj h.fc with h1 | h1
        ·rw [h1]; exact hprev
        ·have hrl:=lateP_spec _ _ h1 i o (by rw [List.getElem?_take,if_pos (by omega)]; simpa using ho) h.late (by rw [Nat.zero_add]; exact h.un)
         obtain ⟨d,hd1,hd2⟩:=h.self
         unfold reload at hrl
         simp only [hd1,hm] at hrl
         have hlook : ∀ t ∈ o.looksAt ops,(tr (i + 1 + n + 1)).tm t = (tr i).tm t:=by
          intro t htl
          have:=tr_free_tm ht (t:=t) (n + 2) i (by omega) fun k o' h1 h2 ho' hdst=>by
           by_cases e : k = i
           ·subst e; rw [ho] at ho'; cases ho'; rw [hd1] at hdst; cases hdst; exact hd2 htl
           ·exact (h.calm k o' (by omega) (by omega) ho' t hdst).1 htl
          rw [show i + (n + 2) = i + 1 + n + 1 by omega] at this
          exact this
         have hval : (tr (i + 1 + n + 1)).tm d = v0:=by
          have:=tr_free_tm ht (t:=d) (n + 1) (i + 1) (by omega) fun k o' h1 h2 ho' hdst=>(h.calm k o' (by omega) (by omega) ho' d hdst).2 hd1
          rw [show i + 1 + (n + 1) = i + 1 + n + 1 by omega] at this
          rw [this,hq0]
          simp [putA,upd,hd1]
         unfold remake at hrl
         rw [mk_looks hm hlook] at hrl
         rcases hsh with ⟨e3,e4⟩ | ⟨m,e3,e4⟩
         ·rw [e4] at hrl
          obtain ⟨k,g1,g2⟩:=hrl
          rw [hval,e3] at g1
          cases g1
          exact g2
         ·rw [e4] at hrl
          obtain ⟨k,g1,g2⟩:=hrl
          rw [hval,e3] at g1
          cases g1
          exact g2
   have lateV : isLoadO o = true → ∀ n,i + 1 + n ≤ q → ∀ v,opEval cf (tr i).tm (tr i).hp o.op = some (.val v (tr i).hp) → opEval cf (tr i).tm (tr (i + 1 + n)).hp o.op = some (.val v (tr (i + 1 + n)).hp):=by
    intro hl n
    have hnm : isMkO o = false:=by
     cases hm : isMkO o with
     | false=>rfl
     | true=>rw [mk_notload hm] at hl; cases hl
    have hst:=(ht i o ho).load hl
    obtain ⟨v0,hv0,hq0⟩:=hst
    have hheap : (tr (i + 1)).hp = (tr i).hp:=by rw [hq0]
    induction n with
    | zero=>intro _ v hv; rw [Nat.add_zero,hheap]; exact hv
    | succ n ih=>
     intro hle v hv
     have hprev:=ih (by omega) v hv
     have hlt : i + 1 + n < ops.size:=by have:=inv.qle; omega
     obtain ⟨oj,hoj⟩:=getop _ hlt
     have hstep:=ht _ oj hoj
     rw [show i + 1 + (n + 1) = i + 1 + n + 1 by omega]
     cases hxj : opX cf.M oj.op with
     | true=>exact load_grow hl (hstep.grows hxj) hprev
     | false=>
      have hlm:=inv.wl _ oj (by omega) hoj hxj
      rcases hpair i _ o oj (by omega) ho hoj with h | ⟨_,h⟩
      ·exact absurd hlm (dnL _ h)
      ·have hfm : isFree cf.P oj.op = false:=by
        cases hf : isFree cf.P oj.op with
        | false=>rfl
        | true=>simp [opX,free_make hf] at hxj
       rcases h with h | h | h | h
       ·rw [load_notfree hl] at h; cases h
       ·rw [hfm] at h; cases h
       ·rw [hxj] at h; cases h.2
       ·rcases hlate _ oj hoj h.fc with h1 | h1
        ·rw [h1]; exact hprev
        ·have hrl:=lateP_spec _ _ h1 i o (by rw [List.getElem?_take,if_pos (by omega)]; simpa using ho) h.late (by rw [Nat.zero_add]; exact h.un)
         obtain ⟨d,hd1,hd2⟩:=h.self
         unfold reload at hrl
         simp only [hd1,hnm] at hrl
         have hlook : ∀ t ∈ o.looksAt ops,(tr (i + 1 + n + 1)).tm t = (tr i).tm t:=by
          intro t htl
          have:=tr_free_tm ht (t:=t) (n + 2) i (by omega) fun k o' h1 h2 ho' hdst=>by
           by_cases e : k = i
           ·subst e; rw [ho] at ho'; cases ho'; rw [hd1] at hdst; cases hdst; exact hd2 htl
           ·exact (h.calm k o' (by omega) (by omega) ho' t hdst).1 htl
          rw [show i + (n + 2) = i + 1 + n + 1 by omega] at this
          exact this
         have hval : (tr (i + 1 + n + 1)).tm d = v:=by
          have:=tr_free_tm ht (t:=d) (n + 1) (i + 1) (by omega) fun k o' h1 h2 ho' hdst=>(h.calm k o' (by omega) (by omega) ho' d hdst).2 hd1
          rw [show i + 1 + (n + 1) = i + 1 + n + 1 by omega] at this
          rw [this,hq0]
          rw [hv] at hv0
          cases hv0
          simp [putA,upd,hd1]
         rw [hval] at hrl
         exact load_at hl hlook hrl
   unfold wpOp
   simp only [ho]
   have pick : ∀ {A B : Prop},(if Region.wanted o (yielded ops a.tmps) then A else B) → ∀ D : Prop,if Region.wanted o (yielded ops a.tmps) then A ∨ D else B:=by
    intro A B h D
    split
    ·rename_i hw; rw [if_pos hw] at h; exact .inl h
    ·rename_i hw; rw [if_neg hw] at h; exact h
   refine pick ?_ _
   cases hx : opX cf.M o.op with
   | true=>
    have hposit : isFree cf.P o.op = true ∨ i < q:=by
     by_cases hiq : i < q
     ·exact .inr hiq
     ·left
      have hqn : q < ops.size:=by omega
      obtain ⟨⟨oq,hoq,hxq⟩,hnq⟩:=inv.wq hqn
      by_cases e : q = i
      ·subst e; rw [ho] at hoq; cases hoq; rw [hx] at hxq; cases hxq
      ·rcases hpair q i oq o (by omega) hoq ho with h | ⟨_,h⟩
       ·exact absurd (dnI q h) hnq
       ·rcases h with h | h | h | h
        ·rw [show opX cf.M oq.op = true by simp [opX,free_make h]] at hxq; cases hxq
        ·exact h
        ·rw [h.1] at hxq; cases hxq
        ·rw [late_opX h.late] at hxq; cases hxq
    have hpre : (tr (i + 1)).hp <+: (tr q).hp ∨ isFree cf.P o.op = true ∨ (isLoadO o = true ∧ ∀ v,opEval cf (tr i).tm (tr i).hp o.op = some (.val v (tr i).hp) → opEval cf (tr i).tm (tr q).hp o.op = some (.val v (tr q).hp)) ∨
      (isMkO o = true ∧ ∀ v ob,opEval cf (tr i).tm (tr i).hp o.op = some (.val v ((tr i).hp ++ [ob])) → (tr q).hp[(tr i).hp.length]? = some ob):=by
       cases hf : isFree cf.P o.op with
       | true=>exact .inr (.inl rfl)
       | false=>
        have hiq : i < q:=hposit.elim (fun h=>by rw [hf] at h; cases h) id
        cases hlo : isLoadO o with
        | true=>
         refine .inr (.inr (.inl ⟨rfl,fun v hv=>?_⟩))
         have:=lateV hlo (q - (i + 1)) (by omega) v hv
         rw [show i + 1 + (q - (i + 1)) = q by omega] at this
         exact this
        | false=>
        cases hmo : isMkO o with
        | true=>
         refine .inr (.inr (.inr ⟨rfl,fun v ob hv=>?_⟩))
         obtain ⟨v0,ob0,hv0,hq0⟩:=(ht i o ho).mk hmo
         rw [hv] at hv0
         have e1 : ob0 = ob:=by
          have:=Option.some.inj hv0
          have e2:=congrArg (fun x=>match x with | OpR.val v h=>h | _=>[]) this
          have e3:=List.append_cancel_left e2
          cases e3
          rfl
         subst e1
         have:=lateM hmo ob0 (by rw [hq0]) (q - (i + 1)) (by omega)
         rw [show i + 1 + (q - (i + 1)) = q by omega] at this
         exact this
        | false=>
        left
        have hlo : isLateO o = false:=by simp [isLateO,hlo,hmo]
        have:=tr_prefix ht (q - (i + 1)) (i + 1) (by have:=inv.qle; omega) fun k o' h1 h2 ho'=>seg i o hiq ho hnl hf hlo k o' (by omega) (by omega) ho'
        rw [show i + 1 + (q - (i + 1)) = q by omega] at this
        exact this
    have hrange : ∀ k,(tr i).hp.length ≤ k → k < (tr (i + 1)).hp.length → i < q ∧ isFree cf.P o.op = false ∧ isLoadO o = false:=by
     intro k h1 h2
     cases hf : isFree cf.P o.op with
     | true=>rw [(ht i o ho).free hf] at h2; omega
     | false=>
      cases hlo : isLoadO o with
      | true=>
       obtain ⟨_,_,hq⟩:=(ht i o ho).load hlo
       rw [show (tr (i + 1)).hp = (tr i).hp by rw [hq]] at h2
       omega
      | false=>exact ⟨hposit.elim (fun h=>by rw [hf] at h; cases h) id,rfl,rfl⟩
    refine xop_sound hS (ht i o ho) hx hpre inv.sim inv.g (fun k h1 h2=>inv.nn i (hrange k h1 h2).1 hnl k h1 h2) hops hgw fun v u w' E' hst s' x' r' hm'=>?_
    have hi1 : i < q → (tr (i + 1)).hp.length ≤ (tr q).hp.length:=fun hiq=>by
     have:=chain (q - (i + 1)) (i + 1) (by omega)
     rw [show i + 1 + (q - (i + 1)) = q by omega] at this
     exact this
    refine hK E' q _ _ ⟨by simpa using inv.size,newdown,inv.qle,fun k o' hk ho' hxk=>(hset k).2 (.inr (inv.wl k o' hk ho' hxk)),fun hq=>?_,s',fun k hk=>?_,fun k hkq hnk j h1 h2=>?_,newtm v u w' E' hst (fun x y h=>h.ext0 x' inv.sim) r',inv.g.mono x'.S fun b hb=>x'.Smem inv.sim hb,by rw [put_defers]; exact inv.df,by rw [put_size]; exact inv.sz,inv.ext.trans0 x' fun id g1 g2=>?_,inv.mono,inv.len0⟩
    rotate_left 3
    ·rcases hm' id with h | ⟨h1,h2⟩
     ·exact h.trans g2
     ·exfalso
      obtain ⟨hiq,_,_⟩:=hrange id h1 h2
      have:=chain i 0 (by omega)
      rw [Nat.zero_add] at this
      have:=inv.len0
      omega
    ·obtain ⟨⟨oq,hoq,hxq⟩,hnq⟩:=inv.wq hq
     refine ⟨⟨oq,hoq,hxq⟩,fun hl=>?_⟩
     rcases (hset q).1 hl with h | h
     ·subst h; rw [ho] at hoq; cases hoq; rw [hx] at hxq; cases hxq
     ·exact hnq h
    ·rcases hm' k with h | ⟨h1,h2⟩
     ·rw [h]; exact inv.full k hk
     ·exfalso
      obtain ⟨hiq,hf,hlo⟩:=hrange k h1 h2
      have:=hi1 hiq
      omega
    ·have hnk' : ¬ Lst listed k:=fun h=>hnk ((hset k).2 (.inr h))
     have hki : k ≠ i:=fun e=>hnk ((hset k).2 (.inl e))
     rcases hm' j with h | ⟨g1,g2⟩
     ·rw [h]; exact inv.nn k hkq hnk' j h1 h2
     ·exfalso
      obtain ⟨hiq,hfi,hloi⟩:=hrange j g1 g2
      rcases Nat.lt_or_gt_of_ne hki with hlt | hlt
      ·have:=chain (i - (k + 1)) (k + 1) (by omega)
       rw [show k + 1 + (i - (k + 1)) = i by omega] at this
       omega
      ·have:=chain (k - (i + 1)) (i + 1) (by omega)
       rw [show i + 1 + (k - (i + 1)) = k by omega] at this
       omega
   | false=>
    have hfr : isFree cf.P o.op = false:=by
     cases hf : isFree cf.P o.op with
     | false=>rfl
     | true=>simp [opX,free_make hf] at hx
    have hiq : i = q:=by
     rcases Nat.lt_trichotomy i q with h | h | h
     ·exact absurd (inv.wl i o h ho hx) hnl
     ·exact h
     ·exfalso
      obtain ⟨⟨oq,hoq,hxq⟩,hnq⟩:=inv.wq (by omega)
      have hfq : isFree cf.P oq.op = false:=by
       cases hf : isFree cf.P oq.op with
       | false=>rfl
       | true=>simp [opX,free_make hf] at hxq
      rcases hpair q i oq o h hoq ho with h | ⟨_,h⟩
      ·exact hnq (dnI q h)
      ·rcases h with h | h | h | h
       ·rw [hfq] at h; cases h
       ·rw [hfr] at h; cases h
       ·rw [hx] at h; cases h.2
       ·rw [late_opX h.late] at hxq; cases hxq
    have hbehind : ∀ k o',i < k → ops[k]? = some o' → isFree cf.P o'.op = false → ¬ Lst listed k:=by
     intro k o' hk ho' hf
     rcases hpair i k o o' hk ho ho' with h | ⟨_,h⟩
     ·exact dnL k h
     ·rcases h with h | h | h | h
      ·rw [hfr] at h; cases h
      ·rw [hf] at h; cases h
      ·rw [hx] at h; cases h.1
      ·rw [late_opX h.late] at hx; cases hx
    have hbefore : ∀ k o',k < i → ops[k]? = some o' → isFree cf.P o'.op = false → isLateO o' = false → Lst listed k:=by
     intro k o' hk ho' hf hlo
     rcases hpair k i o' o hk ho' ho with h | ⟨_,h⟩
     ·exact dnI k h
     ·rcases h with h | h | h | h
      ·rw [hf] at h; cases h
      ·rw [hfr] at h; cases h
      ·rw [hx] at h; cases h.2
      ·have:=h.late; rw [hlo] at this; cases this
    have hsi : Sim E (tr i).hp w:=by rw [hiq]; exact inv.sim
    have hfi : Full E (tr i).hp:=by rw [hiq]; exact inv.full
    refine wop_sound hC (ht i o ho) hsi hfi inv.g hops hgw fun v u w' E' hst s' f' x' r'=>?_
    obtain ⟨q',hq1,hq2,hq3,hq4⟩:=next_w cf.M ops (ops.size - (i + 1)) (i + 1) (by omega)
    have hpre : (tr (i + 1)).hp <+: (tr q').hp:=by
     have:=tr_prefix ht (q' - (i + 1)) (i + 1) (by omega) fun k o' h1 h2 ho'=>hq3 k o' h1 (by omega) ho'
     rw [show i + 1 + (q' - (i + 1)) = q' by omega] at this
     exact this
    have hx2 : Ext E (tr i).hp w E' (tr q').hp w':=⟨⟨x'.S,x'.SN,x'.mem,x'.m,x'.new,Nat.le_trans x'.len hpre.length_le,x'.size,x'.os,x'.tape,x'.output⟩,x'.fresh⟩
    have hext : Ext E0 h0 w0 E (tr i).hp w:=by rw [hiq]; exact inv.ext
    refine hK E' q' _ _ ⟨by simpa using inv.size,newdown,hq2,fun k o' hk ho' hxk=>(hset k).2 ?_,fun hq=>?_,s'.more hpre f',fun k hk=>f' k (Nat.le_trans hpre.length_le hk),fun k hkq hnk j h1 h2=>?_,newtm v u w' E' hst (fun x y h=>h.ext x' hsi) r',inv.g.ext hsi x',by rw [put_defers]; exact inv.df,by rw [put_size]; exact inv.sz,hext.trans hx2,fun m hm=>?_,inv.len0⟩
    rotate_left 3
    ·rcases Nat.lt_trichotomy m i with h | h | h
     ·exact inv.mono m (by omega)
     ·subst h; exact x'.len
     ·obtain ⟨om,hom⟩:=getop m (by omega)
      exact ((ht m om hom).grows (hq3 m om (by omega) hm hom)).length_le
    ·rcases Nat.lt_trichotomy k i with h | h | h
     ·exact .inr (inv.wl k o' (by omega) ho' hxk)
     ·exact .inl h
     ·have:=hq3 k o' (by omega) hk ho'
      rw [hxk] at this
      cases this
    ·obtain ⟨oq,hoq,hxq⟩:=hq4 hq
     refine ⟨⟨oq,hoq,hxq⟩,fun hl=>?_⟩
     rcases (hset q').1 hl with h | h
     ·omega
     ·refine hbehind q' oq (by omega) hoq ?_ h
      cases hf : isFree cf.P oq.op with
      | false=>rfl
      | true=>simp [opX,free_make hf] at hxq
    ·have hnk' : ¬ Lst listed k:=fun h=>hnk ((hset k).2 (.inr h))
     have hki : k ≠ i:=fun e=>hnk ((hset k).2 (.inl e))
     obtain ⟨ok,hok'⟩:=getop k (by omega)
     cases hfk : isFree cf.P ok.op with
     | true=>rw [(ht k ok hok').free hfk] at h2; omega
     | false=>
      cases hlok : isLoadO ok with
      | true=>
       obtain ⟨_,_,hq⟩:=(ht k ok hok').load hlok
       rw [show (tr (k + 1)).hp = (tr k).hp by rw [hq]] at h2
       omega
      | false=>
      rcases Nat.lt_or_gt_of_ne hki with hlt | hlt
      ·cases hmk : isMkO ok with
       | false=>exact absurd (hbefore k ok hlt hok' hfk (by simp [isLateO,hlok,hmk])) hnk'
       | true=>
        have:=chain (i - (k + 1)) (k + 1) (by omega)
        rw [show k + 1 + (i - (k + 1)) = i by omega] at this
        exact x'.fresh j (by omega) (inv.nn k (by omega) hnk' j h1 h2)
      ·have:=(tr_prefix ht (k - (i + 1)) (i + 1) (by omega) fun m o' h1 h2 ho'=>hq3 m o' h1 (by omega) ho').length_le
       rw [show i + 1 + (k - (i + 1)) = k by omega] at this
       exact f' j (by omega)
end
end
end Go.Am

/- Code, calls, loops: what Am says, the program does. -/
import Derived.Test.YtebciagembenjaaDoorGSBmP
set_option linter.unusedVariables false
set_option linter.unusedSimpArgs false
/- Code, calls, loops: what Am says, the program does. -/
set_option maxHeartbeats 4000000
namespace Go.Am
open Go
section
variable {cf : Cfg} {C : COr} {ops : Array Oper} {E : Env} {w : World} {N : Nat}
theorem all_listed {listed : Array Bool} (hfwd : ∀ j o,ops[j]? = some o → ∀ e ∈ o.after,Region.binds .any e = true → e.on < j) (hs : listed.size = ops.size) (hr : Region.ready .any ops listed = []) : ∀ i,i < ops.size → Lst listed i:=by
 intro i
 induction i using Nat.strongRecOn with
 | _ i ih=>
  intro hi
  cases hl : listed.getD i false with
  | true=>exact hl
  | false=>
   exfalso
   have : i ∈ Region.ready .any ops listed:=by
    rw [mem_ready]
    refine ⟨by simp [hs,hi] at hl ⊢; exact hl,ops[i],Array.getElem?_eq_getElem hi,fun e he hb=>?_⟩
    have:=hfwd i _ (Array.getElem?_eq_getElem hi) e he hb
    exact ih e.on this (by omega)
   rw [hr] at this
   cases this
theorem draw_any {tr : Nat → St} {E0 : Env} {h0 : Heap} {w0 : World} (hS : Sound cf C) (hC : CallsOk cf C) (hok : drawOk cf.P cf.M ops = true) (hd : ∀ o ∈ ops.toList,∀ d,o.dst = some d → d < N) (ht : ∀ i o,ops[i]? = some o → StepAt cf C ops (tr i) o (tr (i + 1)))
  (hlate : ∀ j o,ops[j]? = some o → isFC cf.M o.op = true → (tr (j + 1)).hp = (tr j).hp ∨ lateP cf (tr (j + 1)) (((masks ops.toList [])[j]?).getD 0) (ops.toList.take j) 0)
  {Q : Exit → Act → World → Prop} (hQ : ∀ (E : Env) (listed : Array Bool) (a : Act) (w : World),DInv cf ops tr E0 h0 w0 N E ops.size listed a w → (∀ i,i < ops.size → Lst listed i) → Q .normal a w) :
  ∀ (fuel : Nat) (E : Env) (q : Nat) (listed : Array Bool) (a : Act) (w : World),DInv cf ops tr E0 h0 w0 N E q listed a w → listed.toList.count false = fuel → wpAny cf.P .any ops Q fuel listed a w:=by
   obtain ⟨hfwd,hpair⟩:=drawOk_spec hok
   have fin : ∀ (E : Env) (q : Nat) (listed : Array Bool) (a : Act) (w : World),DInv cf ops tr E0 h0 w0 N E q listed a w → (∀ i,i < ops.size → Lst listed i) → Q .normal a w:=by
    intro E q listed a w inv hall
    have hq : q = ops.size:=by
     rcases Nat.lt_or_ge q ops.size with h | h
     ·exact absurd (hall q h) (inv.wq h).2
     ·have:=inv.qle; omega
    subst hq
    exact hQ E listed a w inv hall
   intro fuel
   induction fuel with
   | zero=>
    intro E q listed a w inv hc
    have hall : ∀ i,i < ops.size → Lst listed i:=by
     intro i hi
     have hil : i < listed.size:=by rw [inv.size]; exact hi
     have hno:=List.count_eq_zero.1 hc
     cases hb : listed[i] with
     | true=>simp [Lst,hil,hb]
     | false=>exact absurd (by rw [← hb]; simp) hno
    refine ⟨?_,fin E q listed a w inv hall⟩
    refine List.eq_nil_iff_forall_not_mem.2 fun i hi=>?_
    obtain ⟨hun,o,ho,_⟩:=mem_ready.1 hi
    have hio : i < ops.size:=(Array.getElem?_eq_some_iff.1 ho).1
    have:=hall i hio
    unfold Lst at this
    have hil : i < listed.size:=by rw [inv.size]; exact hio
    simp [hil] at this hun
    rw [this] at hun
    cases hun
   | succ fuel ih=>
    intro E q listed a w inv hc
    refine ⟨fun hr=>fin E q listed a w inv (all_listed hfwd inv.size hr),fun i hi=>?_⟩
    refine draw_step hS hC hok hd ht hlate inv hi fun E' q' a' w' inv'=>ih E' q' _ a' w' inv' ?_
    obtain ⟨hun,o,ho,_⟩:=mem_ready.1 hi
    have hil : i < listed.toList.length:=by
     have:=(Array.getElem?_eq_some_iff.1 ho).1
     simp [inv.size]; exact this
    have hil' : i < listed.size:=by simpa using hil
    have hfi : listed.toList[i] = false:=by simp [hil'] at hun; simpa using hun
    rw [Array.toList_setIfInBounds,List.count_set hil,hc,hfi]
    simp
theorem region_any_sound (hS : Sound cf C) (hC : CallsOk cf C) (hok : drawOk cf.P cf.M ops = true) (hd : ∀ o ∈ ops.toList,∀ d,o.dst = some d → d < N) {st stn : St} {a : Act}
  (hr : regA cf C true ops ops.toList st = some (.norm stn)) (rel : StRel cf E w st a) (hN : a.tmps.size = N) : wpAny cf.P .any ops (QRel cf E st.hp w N (.norm stn)) ops.size (Array.replicate ops.size false) a { w with drawn:=w.drawn + 1 }:=by
   obtain ⟨tr,t0,tn,ts⟩:=trace_of _ _ _ hr
   have ht : ∀ i o,ops[i]? = some o → StepAt cf C ops (tr i) o (tr (i + 1)):=fun i o ho=>(ts i o (by simpa using ho)).1
   have hlate : ∀ j o,ops[j]? = some o → isFC cf.M o.op = true → (tr (j + 1)).hp = (tr j).hp ∨ lateP cf (tr (j + 1)) (((masks ops.toList [])[j]?).getD 0) (ops.toList.take j) 0:=by
    intro j o ho hf
    have hj : j < ops.size:=(Array.getElem?_eq_some_iff.1 ho).1
    rcases (ts j o (by simpa using ho)).2 hf with h | h
    ·exact .inl h.2
    ·right
     rw [show ops.size - (ops.toList.length - j) = j by simp; omega] at h
     exact h
   have tn' : tr ops.size = stn:=by rw [← tn]; simp
   obtain ⟨q,hq1,hq2,hq3,hq4⟩:=next_w cf.M ops ops.size 0 (by omega)
   have hpre : ∀ i,i ≤ q → (tr 0).hp <+: (tr i).hp:=fun i hi=>by
    have:=tr_prefix ht i 0 (by omega) fun k o h1 h2 ho=>hq3 k o h1 (by omega) ho
    simpa using this
   have hnl : ∀ k,¬ Lst (Array.replicate ops.size false) k:=fun k h=>by
    unfold Lst at h
    simp at h
    cases hx : (Array.replicate ops.size false)[k]? with
    | none=>simp [hx] at h
    | some b=>
     rw [Array.getElem?_replicate] at hx
     split at hx
     ·cases hx; simp_all
     ·cases hx
   have sim0 : Sim E (tr 0).hp w:=by rw [t0]; exact rel.sim
   have full0 : Full E (tr 0).hp:=by rw [t0]; exact rel.full
   have simq : Sim E (tr q).hp { w with drawn:=w.drawn + 1 }:=(sim0.more (hpre q (Nat.le_refl _)) full0).of_heap rfl
   have hmono : ∀ m,m < q → (tr m).hp.length ≤ (tr (m + 1)).hp.length:=fun m hm=>by
    have hmo : m < ops.size:=by omega
    exact ((ht m ops[m] (Array.getElem?_eq_getElem hmo)).grows (hq3 m ops[m] (Nat.zero_le _) hm (Array.getElem?_eq_getElem hmo))).length_le
   refine draw_any (E0:=E) (h0:=st.hp) (w0:=w) hS hC hok hd ht hlate ?_ ops.size E q _ a _ ⟨by simp,fun j o _ h=>absurd h (hnl j),hq2,fun i o hi ho hx=>?_,fun hq=>⟨hq4 hq,hnl q⟩,simq,fun k hk=>full0 k (Nat.le_trans (hpre q (Nat.le_refl _)).length_le hk),fun i hi _ k h1 _=>full0 k (Nat.le_trans (hpre i (by omega)).length_le h1),fun j t hj h1 h2=>?_,rel.g.mono (fun _ h=>h) (fun _ _=>rfl),rel.df,hN,
    ⟨⟨fun _ h=>h,fun _ h=>.inl h,fun _ _ _=>rfl,fun _ _ h=>.inl h,fun _ h=>.inl h,by rw [← t0]; exact (hpre q (Nat.le_refl _)).length_le,Nat.le_refl _,rfl,rfl,rfl⟩,fun _ _ h=>h⟩,hmono,by rw [t0]; exact Nat.le_refl _⟩ ?_
   ·intro E' listed a' w' inv hall
    refine ⟨stn,E',rfl,⟨?_,?_,inv.g,fun t=>?_,inv.df⟩,?_,inv.sz⟩
    ·rw [← tn']; exact inv.sim
    ·rw [← tn']; exact inv.full
    ·rw [← tn']
     exact inv.tm ops.size t (Nat.le_refl _) (fun i o hi _ _=>hall i hi) fun i o hi ho _=>by
      have:=(Array.getElem?_eq_some_iff.1 ho).1; omega
    ·rw [← tn']; exact inv.ext
   ·exact absurd (hq3 i o (Nat.zero_le _) hi ho) (by rw [hx]; simp)
   ·have:=tr_free_tm ht (t:=t) j 0 (by omega) fun k o _ hk ho hdst=>hnl k (h1 k o (by omega) ho hdst)
    rw [Nat.zero_add] at this
    rw [this,t0]
    exact Rep.of_heap (w:=w) (w':={ w with drawn:=w.drawn + 1 }) rfl (rel.tm t)
   ·simp
end
def permOk (p : List Nat) (n : Nat) : Bool:=p.length == n && p.all (fun i=>decide (i < n)) && decide p.Nodup && (List.range n).all fun i=>p.contains i
structure Perm (p : List Nat) (n : Nat) : Prop where
 len : p.length = n
 lt : ∀ i ∈ p,i < n
 nd : p.Nodup
 all : ∀ i,i < n → i ∈ p
theorem permOk_spec {p : List Nat} {n : Nat} (h : permOk p n = true) : Perm p n:=by
 simp only [permOk,Bool.and_eq_true,beq_iff_eq,List.all_eq_true,decide_eq_true_eq] at h
 obtain ⟨⟨⟨h1,h2⟩,h3⟩,h4⟩:=h
 exact ⟨h1,h2,h3,fun i hi=>by have:=h4 i (List.mem_range.2 hi); simpa using this⟩
theorem relabL_get (p : List Nat) (ops : Array Oper) : ∀ (l : List Nat),(∀ i ∈ l,i < ops.size) → ∀ k : Nat,(relabL p ops l)[k]? = (l[k]?).bind fun i=>(ops[i]?).map (remapO p)
 | [],_,k=>by simp [relabL]
 | i :: is,h,k=>by
  have hi : i < ops.size:=h i (by simp)
  have ho : ops[i]? = some ops[i]:=Array.getElem?_eq_getElem hi
  simp only [relabL,ho]
  cases k with
  | zero=>simp [ho]
  | succ k=>simpa using relabL_get p ops is (fun j hj=>h j (by simp [hj])) k
theorem relabL_len (p : List Nat) (ops : Array Oper) : ∀ (l : List Nat),(∀ i ∈ l,i < ops.size) → (relabL p ops l).length = l.length
 | [],_=>rfl
 | i :: is,h=>by
  have hi : i < ops.size:=h i (by simp)
  have ho : ops[i]? = some ops[i]:=Array.getElem?_eq_getElem hi
  simp only [relabL,ho,List.length_cons,relabL_len p ops is fun j hj=>h j (by simp [hj])]
section
variable {P : Program} {ops : Array Oper} {p : List Nat} {Q : Exit → Act → World → Prop}
theorem Perm.idx_lt (hp : Perm p ops.size) {i : Nat} (hi : i < ops.size) : p.idxOf i < ops.size:=by rw [← hp.len]; exact List.idxOf_lt_length_iff.2 (hp.all i hi)
theorem Perm.get_idx (hp : Perm p ops.size) {i : Nat} (hi : i < ops.size) : p[p.idxOf i]? = some i:=by
 have hl:=List.idxOf_lt_length_iff.2 (hp.all i hi)
 rw [List.getElem?_eq_getElem hl,List.getElem_idxOf hl]
theorem Perm.idx_get (hp : Perm p ops.size) {k i : Nat} (hk : p[k]? = some i) : p.idxOf i = k:=by
 obtain ⟨hl,he⟩:=List.getElem?_eq_some_iff.1 hk
 subst he
 exact hp.nd.idxOf_getElem k hl
theorem Perm.idx_ge (hp : Perm p ops.size) {i : Nat} (hi : ops.size ≤ i) : p.idxOf i = ops.size:=by
 rw [← hp.len]
 exact List.idxOf_eq_length fun hm=>by have:=hp.lt i hm; omega
theorem relab_size (hp : Perm p ops.size) : (relab p ops).size = ops.size:=by simp [relab,relabL_len p ops p hp.lt,hp.len]
theorem relab_get (hp : Perm p ops.size) (k : Nat) : (relab p ops)[k]? = (p[k]?).bind fun i=>(ops[i]?).map (remapO p):=by
 rw [← relabL_get p ops p hp.lt k]
 simp [relab]
theorem relab_idx (hp : Perm p ops.size) (i : Nat) : (relab p ops)[p.idxOf i]? = (ops[i]?).map (remapO p):=by
 rw [relab_get hp]
 rcases Nat.lt_or_ge i ops.size with h | h
 ·rw [hp.get_idx h]; rfl
 ·rw [hp.idx_ge h,List.getElem?_eq_none (by rw [hp.len]; exact Nat.le_refl _),Array.getElem?_eq_none h]; rfl
theorem relab_yielded (hp : Perm p ops.size) (tmps : Array Value) (j : Nat) : yielded (relab p ops) tmps (p.idxOf j) = yielded ops tmps j:=by
 unfold yielded
 rw [relab_idx hp]
 cases ops[j]? <;> rfl
theorem relab_wanted (hp : Perm p ops.size) (tmps : Array Value) (o : Oper) : Region.wanted (remapO p o) (yielded (relab p ops) tmps) = Region.wanted o (yielded ops tmps):=by
 unfold Region.wanted remapO
 cases o.guard with
 | none=>rfl
 | some g=>simp only [Option.map_some,relab_yielded hp]
theorem relab_wp (o : Oper) (a : Act) (w : World) (K : Act → World → Prop) : (remapO p o).wp P a w K Q ↔ o.wp P a w K Q:=by
 cases o
 exact Iff.rfl
theorem relab_asks (o : Oper) (a : Act) (w : World) : (remapO p o).asks P a w ↔ o.asks P a w:=by
 cases o
 exact Iff.rfl
theorem relab_wpOp (hp : Perm p ops.size) (i : Nat) (K : Act → World → Prop) (a : Act) (w : World) (h : wpOp P (relab p ops) Q (p.idxOf i) K a w) : wpOp P ops Q i K a w:=by
 unfold wpOp at h ⊢
 rw [relab_idx hp] at h
 cases ho : ops[i]? with
 | none=>rw [ho] at h; exact h
 | some o=>
  rw [ho] at h
  simp only [Option.map_some,relab_wanted hp] at h ⊢
  split
  ·rename_i hw
   rw [if_pos hw] at h
   exact h.imp (relab_wp o a w K).1 fun h=>⟨(relab_asks o a w).1 h.1,h.2⟩
  ·rename_i hw
   rw [if_neg hw] at h
   exact h
def RL (p : List Nat) (n : Nat) (l l' : Array Bool) : Prop:=l.size = n ∧ l'.size = n ∧ ∀ i,i < n → l'[p.idxOf i]? = l[i]?
theorem RL.get (hp : Perm p ops.size) {l l' : Array Bool} (h : RL p ops.size l l') (i : Nat) (b : Bool) : l'.getD (p.idxOf i) b = l.getD i b:=by
 rcases Nat.lt_or_ge i ops.size with hi | hi
 ·have:=h.2.2 i hi
  simp [Array.getD_eq_getD_getElem?,this]
 ·rw [hp.idx_ge hi,Array.getD_eq_getD_getElem?,Array.getD_eq_getD_getElem?,Array.getElem?_eq_none (by rw [h.2.1]; exact Nat.le_refl _),Array.getElem?_eq_none (by rw [h.1]; exact hi)]
theorem remapO_mem {p : List Nat} {o : Oper} {e : Edge} : e ∈ (remapO p o).after ↔ ∃ e',e' ∈ o.after ∧ { e' with on:=p.idxOf e'.on } = e:=by simp [remapO]
theorem RL.ready (hp : Perm p ops.size) {l l' : Array Bool} (h : RL p ops.size l l') (i : Nat) : i ∈ Region.ready .any ops l → p.idxOf i ∈ Region.ready .any (relab p ops) l':=by
 intro hi
 rw [mem_ready] at hi ⊢
 obtain ⟨h1,o,ho,h2⟩:=hi
 refine ⟨by rw [h.get hp]; exact h1,remapO p o,by rw [relab_idx hp,ho]; rfl,fun e he hb=>?_⟩
 obtain ⟨e',he',rfl⟩:=remapO_mem.1 he
 rw [h.get hp]
 exact h2 e' he' hb
theorem RL.ready' (hp : Perm p ops.size) {l l' : Array Bool} (h : RL p ops.size l l') (k : Nat) : k ∈ Region.ready .any (relab p ops) l' → ∃ i ∈ Region.ready .any ops l,p.idxOf i = k:=by
 intro hk
 rw [mem_ready] at hk
 obtain ⟨h1,o',ho',h2⟩:=hk
 rw [relab_get hp] at ho'
 cases hpk : p[k]? with
 | none=>rw [hpk] at ho'; cases ho'
 | some i=>
  rw [hpk] at ho'
  simp only [Option.bind_some,Option.map_eq_some_iff] at ho'
  obtain ⟨o,ho,rfl⟩:=ho'
  have hik:=hp.idx_get hpk
  refine ⟨i,?_,hik⟩
  rw [mem_ready]
  subst hik
  refine ⟨by rw [← h.get hp]; exact h1,o,ho,fun e he hb=>?_⟩
  have:=h2 { e with on:=p.idxOf e.on } (remapO_mem.2 ⟨e,he,rfl⟩) hb
  rw [← h.get hp]
  exact this
theorem RL.set (hp : Perm p ops.size) {l l' : Array Bool} (h : RL p ops.size l l') {i : Nat} (hi : i < ops.size) : RL p ops.size (l.setIfInBounds i true) (l'.setIfInBounds (p.idxOf i) true):=by
 refine ⟨by simpa using h.1,by simpa using h.2.1,fun j hj=>?_⟩
 rw [Array.getElem?_setIfInBounds,Array.getElem?_setIfInBounds]
 by_cases e : i = j
 ·subst e
  rw [if_pos rfl,if_pos rfl,if_pos (by rw [h.2.1]; exact hp.idx_lt hi),if_pos (by rw [h.1]; exact hi)]
 ·rw [if_neg e,if_neg (fun e'=>e ?_)]
  ·exact h.2.2 j hj
  ·have h1:=hp.get_idx hi
   rw [e',hp.get_idx hj] at h1
   cases h1
   rfl
theorem relab_any (hp : Perm p ops.size) : ∀ (fuel : Nat) (l l' : Array Bool) (a : Act) (w : World),RL p ops.size l l' → wpAny P .any (relab p ops) Q fuel l' a w → wpAny P .any ops Q fuel l a w:=by
 intro fuel
 induction fuel with
 | zero=>
  intro l l' a w h hw
  refine ⟨List.eq_nil_iff_forall_not_mem.2 fun i hi=>?_,hw.2⟩
  have:=h.ready hp i hi
  rw [hw.1] at this
  cases this
 | succ fuel ih=>
  intro l l' a w h hw
  refine ⟨fun hr=>hw.1 (List.eq_nil_iff_forall_not_mem.2 fun k hk=>?_),fun i hi=>?_⟩
  ·obtain ⟨i,hi,_⟩:=h.ready' hp k hk
   rw [hr] at hi
   cases hi
  ·have hio : i < ops.size:=by
    obtain ⟨_,o,ho,_⟩:=mem_ready.1 hi
    exact (Array.getElem?_eq_some_iff.1 ho).1
   refine relab_wpOp hp i _ a w (wpOp_mono (fun a w hk=>?_) (hw.2 _ (h.ready hp i hi)))
   exact ih _ _ a w (h.set hp hio) hk
end
def rgoOk (pm : Nat → Nat → Nat → Option (List Nat)) (id : Nat) (ops : Array Oper) : Bool:=match pm id ops.size (((ops[0]?).bind (·.dst)).getD 0) with
 | some p=>permOk p ops.size
 | none=>true
theorem rgo_any {P : Program} {Q : Exit → Act → World → Prop} {pm : Nat → Nat → Nat → Option (List Nat)} {id : Nat} {ops : Array Oper} (h : rgoOk pm id ops = true) {a : Act} {w : World}
  (hw : wpAny P .any (rgo pm id ops true) Q (rgo pm id ops true).size (Array.replicate (rgo pm id ops true).size false) a w) : wpAny P .any ops Q ops.size (Array.replicate ops.size false) a w:=by
   unfold rgoOk at h
   unfold rgo at hw
   simp only at hw
   split at h
   ·rename_i p hp
    simp only [hp] at hw
    have hq:=permOk_spec h
    rw [relab_size hq] at hw
    exact relab_any hq _ _ _ a w ⟨by simp,by simp,fun i hi=>by rw [Array.getElem?_replicate,Array.getElem?_replicate,if_pos hi,if_pos (hq.idx_lt hi)]⟩ hw
   ·rename_i hp
    simp only [hp] at hw
    exact hw
theorem rgo_mem {pm : Nat → Nat → Nat → Option (List Nat)} {id : Nat} {ops : Array Oper} {d : Bool} {o : Oper} (h : o ∈ (rgo pm id ops d).toList) : ∃ o' ∈ ops.toList,o.dst = o'.dst:=by
 have key : ∀ (p l : List Nat),o ∈ relabL p ops l → ∃ o' ∈ ops.toList,o.dst = o'.dst:=by
  intro p l
  induction l with
  | nil=>intro h; simp [relabL] at h
  | cons i is ih=>
   intro h
   simp only [relabL] at h
   split at h
   ·rename_i x hx
    rcases List.mem_cons.1 h with rfl | h
    ·obtain ⟨hl,rfl⟩:=Array.getElem?_eq_some_iff.1 hx
     exact ⟨ops[i],by simp,rfl⟩
    ·exact ih h
   ·exact ih h
 unfold rgo at h
 split at h
 ·exact ⟨o,h,rfl⟩
 ·split at h
  ·exact key _ _ (by simpa [relab] using h)
  ·exact ⟨o,h,rfl⟩
def codeOk (P : Program) (M : FuncId → Mode) (pm : Nat → Nat → Nat → Option (List Nat)) (N : Nat) : Code → Bool
 | .region id ops d=>(ops.toList.all fun o=>match o.dst with | some d=>decide (d < N) | none=>true) && (!d || (rgoOk pm id ops && drawOk P M (rgo pm id ops true)))
 | .seq a b=>codeOk P M pm N a && codeOk P M pm N b
 | .cond _ a b=>codeOk P M pm N a && codeOk P M pm N b
 | .block _ c=>codeOk P M pm N c
 | .loop c=>codeOk P M pm N c
 | .scope c=>codeOk P M pm N c
 | _=>true
theorem codeOk_mono {P : Program} {M : FuncId → Mode} {pm : Nat → Nat → Nat → Option (List Nat)} {N N' : Nat} (hN : N ≤ N') : ∀ c : Code,codeOk P M pm N c = true → codeOk P M pm N' c = true:=by
 intro c
 induction c with
 | region id ops d=>
  intro h
  simp only [codeOk,Bool.and_eq_true] at h ⊢
  refine ⟨List.all_eq_true.2 fun o ho=>?_,h.2⟩
  have:=List.all_eq_true.1 h.1 o ho
  cases hd : o.dst with
  | none=>rfl
  | some d=>simp only [hd,decide_eq_true_eq] at this ⊢; exact Nat.lt_of_lt_of_le this hN
 | seq a b iha ihb=>intro h; simp only [codeOk,Bool.and_eq_true] at h ⊢; exact ⟨iha h.1,ihb h.2⟩
 | cond c a b iha ihb=>intro h; simp only [codeOk,Bool.and_eq_true] at h ⊢; exact ⟨iha h.1,ihb h.2⟩
 | block id c ih=>intro h; simp only [codeOk] at h ⊢; exact ih h
 | loop c ih=>intro h; simp only [codeOk] at h ⊢; exact ih h
 | scope c ih=>intro h; simp only [codeOk] at h ⊢; exact ih h
 | _=>intro _; rfl
def LoopsOk (cf : Cfg) (L : LOr) : Prop:=∀ (N : Nat) (c : Code) (st : St) (r : Out),L c st = some r → codeOk cf.P cf.M cf.pm N c = true → ∀ (E : Env) (w : World) (a : Act),StRel cf E w st a → a.tmps.size = N → (Code.loop c).wp cf.P (QRel cf E st.hp w N r) a w
theorem wp_loop_ind {P : Program} {Q : Exit → Act → World → Prop} {c : Code} (J : Nat → Act → World → Prop) (round : ∀ n a w,J n a w → c.wp P (Exit.then (fun a' w'=>∃ m,m < n ∧ J m a' w') Q) a w) : ∀ n a w,J n a w → (Code.loop c).wp P Q a w:=by
 intro n a w h0 b k cs
 have key : ∀ n a w,J n a w → ∃ e a' w',Q e a' w' ∧ Arrives P (lone (b.at a (.code c :: .inLoop c :: k)) cs w) b k cs e a' w':=by
  intro n
  induction n using Nat.strongRecOn with
  | _ n ih=>
   intro a w hJ
   obtain ⟨e,a₁,w₁,hq,harr⟩:=round n a w hJ b (.inLoop c :: k) cs
   cases e with
   | normal=>
    obtain ⟨m,hm,hJ₁⟩:=hq
    obtain ⟨e₂,a₂,w₂,hq₂,harr₂⟩:=ih m hm a₁ w₁ hJ₁
    exact ⟨e₂,a₂,w₂,hq₂,.of_steps (Steps.trans harr (.one step_inLoop)) harr₂⟩
   | exit id=>exact ⟨_,a₁,w₁,hq,.pass (x:=.inLoop c) rfl (fun _ _=>.inl (by simp)) harr⟩
   | goto l=>exact ⟨_,a₁,w₁,hq,.pass (x:=.inLoop c) rfl (fun _ _=>.inl (by simp)) harr⟩
   | ret=>exact ⟨_,a₁,w₁,hq,.pass (x:=.inLoop c) rfl (fun _ _=>.inl (by simp)) harr⟩
   | panic ch=>exact ⟨_,a₁,w₁,hq,.pass (x:=.inLoop c) rfl (fun _ _=>.inl (by simp)) harr⟩
   | outgrown=>exact ⟨_,a₁,w₁,hq,.pass (x:=.inLoop c) rfl (fun _ _=>.inl (by simp)) harr⟩
 obtain ⟨e,a',w',hq,harr⟩:=key n a w h0
 exact ⟨e,a',w',hq,.of_steps (.one step_loop) harr⟩
section
variable {cf : Cfg} {C : COr} {L : LOr}
theorem evalO_sound (hm : cf.P.follows .mixedOrders = true) (hS : Sound cf C) (hC : CallsOk cf C) (hL : LoopsOk cf L) {N : Nat} : ∀ (c : Code) (st : St) (r : Out),evalO cf C L c st = some r → codeOk cf.P cf.M cf.pm N c = true → ∀ (E : Env) (w : World) (a : Act),StRel cf E w st a → a.tmps.size = N →
  c.wp cf.P (QRel cf E st.hp w N r) a w:=by
   intro c
   induction c with
   | skip=>intro st r h hok E w a rel hN; simp only [evalO] at h; cases h; exact wp_skip ⟨st,E,rfl,rel,Ext.refl _ _ _,hN⟩
   | label l=>intro st r h hok E w a rel hN; simp only [evalO] at h; cases h; exact wp_label ⟨st,E,rfl,rel,Ext.refl _ _ _,hN⟩
   | exit id=>intro st r h hok E w a rel hN; simp only [evalO] at h; cases h; exact wp_exit ⟨st,E,rfl,rel,Ext.refl _ _ _,hN⟩
   | ret=>intro st r h hok E w a rel hN; simp only [evalO] at h; cases h; exact wp_ret ⟨st,E,rfl,rel,Ext.refl _ _ _,hN⟩
   | region id ops d=>
    intro st r h hok E w a rel hN
    simp only [evalO] at h
    simp only [codeOk,Bool.and_eq_true] at hok
    have hd : ∀ o ∈ ops.toList,∀ d,o.dst = some d → d < N:=fun o ho d hd=>by
     have:=List.all_eq_true.1 hok.1 o ho
     simpa [hd] using this
    obtain ⟨h1,h2⟩:=onlyN_some h
    cases d with
    | false=>exact wp_region_list (regA_sound hC _ E w st a r hd h1 rel hN)
    | true=>
     obtain ⟨stn,rfl⟩:=h2 rfl
     have hok2 : rgoOk cf.pm id ops = true ∧ drawOk cf.P cf.M (rgo cf.pm id ops true) = true:=by simpa using hok.2
     refine wp_region_any hm (rgo_any hok2.1 (region_any_sound hS hC hok2.2 (fun o ho d hd'=>?_) h1 rel hN))
     obtain ⟨o',ho',he⟩:=rgo_mem ho
     exact hd o' ho' d (by rw [← he]; exact hd')
   | seq x y ihx ihy=>
    intro st r h hok E w a rel hN
    simp only [evalO] at h
    simp only [codeOk,Bool.and_eq_true] at hok
    cases hx : evalO cf C L x st with
    | none=>simp [hx] at h
    | some q=>
     simp only [hx] at h
     refine wp_seq (wp_mono (ihx st q hx hok.1 E w a rel hN) fun e a' w' he=>?_)
     cases e with
     | normal=>
      obtain ⟨st',E',rfl,rel',x',hN'⟩:=he
      exact wp_mono (ihy st' r h hok.2 E' w' a' rel' hN') (QRel.from x')
     | exit id=>obtain ⟨st',E',rfl,rel',x',hN'⟩:=he; cases h; exact ⟨st',E',rfl,rel',x',hN'⟩
     | ret=>obtain ⟨st',E',rfl,rel',x',hN'⟩:=he; cases h; exact ⟨st',E',rfl,rel',x',hN'⟩
     | panic ch=>obtain ⟨v,h',E',u,rfl,rest⟩:=he; cases h; exact ⟨v,h',E',u,rfl,rest⟩
     | goto l=>exact he
     | outgrown=>exact he
   | cond c x y ihx ihy=>
    intro st r h hok E w a rel hN
    simp only [evalO] at h
    simp only [codeOk,Bool.and_eq_true] at hok
    split at h
    ·rename_i t ht
     have hc : a.eval c = .bool t:=(ev_rep rel.g rel.tm ht).bool
     refine wp_cond hc ?_
     cases t with
     | true=>exact ihx st r h hok.1 E w a rel hN
     | false=>exact ihy st r h hok.2 E w a rel hN
    ·cases h
   | block id x ih=>
    intro st r h hok E w a rel hN
    simp only [evalO] at h
    simp only [codeOk] at hok
    cases hx : evalO cf C L x st with
    | none=>simp [hx] at h
    | some q=>
     simp only [hx] at h
     refine wp_block (wp_mono (ih st q hx hok E w a rel hN) fun e a' w' he=>?_)
     cases e with
     | normal=>obtain ⟨st',E',rfl,rel',x',hN'⟩:=he; cases h; exact ⟨st',E',rfl,rel',x',hN'⟩
     | exit j=>
      obtain ⟨st',E',rfl,rel',x',hN'⟩:=he
      simp only at h
      simp only [Exit.inBlock]
      split at h
      ·rename_i hj; cases h; rw [if_pos hj]; exact ⟨st',E',rfl,rel',x',hN'⟩
      ·rename_i hj; cases h; rw [if_neg hj]; exact ⟨st',E',rfl,rel',x',hN'⟩
     | ret=>obtain ⟨st',E',rfl,rel',x',hN'⟩:=he; cases h; exact ⟨st',E',rfl,rel',x',hN'⟩
     | panic ch=>obtain ⟨v,h',E',u,rfl,rest⟩:=he; cases h; exact ⟨v,h',E',u,rfl,rest⟩
     | goto l=>exact he
     | outgrown=>exact he
   | loop x ih=>
    intro st r h hok E w a rel hN
    simp only [evalO] at h
    simp only [codeOk] at hok
    exact hL N x st r h hok E w a rel hN
   | scope x ih=>
    intro st r h hok E w a rel hN
    simp only [evalO] at h
    simp only [codeOk] at hok
    refine wp_scope_straight (wp_mono (ih st r h hok E w a rel hN) fun e a' w' he=>?_)
    cases e <;> exact he
   | rangeFunc f p x y _ _=>intro st r h; simp [evalO] at h
   | goto l=>intro st r h; simp [evalO] at h
   | refuse wy=>intro st r h; simp [evalO] at h
def resR (tmps : Array Value) : ResultVar → Sem Value
 | .tmp t=>pure (tmps.getD t undef)
 | .cell ad t=>do loadVar t (← asAddr (tmps.getD ad undef))
theorem results_eq (fn : Func) (tmps : Array Value) : results fn tmps = (do let vs ← fn.results.mapM (resR tmps); pure (if h : vs.size = 1 then vs[0] else .tuple vs)):=rfl
theorem results_sound {E : Env} {w : World} {st : St} {a : Act} (rel : StRel cf E w st a) {fn : Func} {vs : List AVal} (h : mapO (resA cf.P st) fn.results.toList = some vs) :
  ∃ u,(results fn a.tmps).run cf.P w = .ok u w ∧ Rep E w (oneA vs) u:=by
   have one : ∀ (rv : ResultVar) (v : AVal),resA cf.P st rv = some v → ∃ u,(resR a.tmps rv).run cf.P w = .ok u w ∧ Rep E w v u:=by
    intro rv v hv
    cases rv with
    | tmp t=>simp only [resA] at hv; cases hv; exact ⟨_,rfl,rel.tm t⟩
    | cell ad t=>
     simp only [resA] at hv
     obtain ⟨u,hu,hr⟩:=load_sound rel.sim (rel.tm ad) hv
     refine ⟨u,?_,hr⟩
     simp only [resR]
     generalize a.tmps.getD ad undef = va at hu ⊢
     unfold Instr.loadAt Instr.sureAddr at hu
     split at hu
     ·simpa [asAddr] using hu
     ·simp [stuck,Sem.run] at hu
   have all : ∀ (l : List ResultVar) (vs : List AVal),mapO (resA cf.P st) l = some vs → ∃ us : List Value,(l.mapM (resR a.tmps)).run cf.P w = .ok us w ∧ us.length = vs.length ∧
     ∀ (i : Nat) (c : AVal) (v : Value),vs[i]? = some c → us[i]? = some v → Rep E w c v:=by
      intro l
      induction l with
      | nil=>intro vs h; simp only [mapO] at h; cases h; exact ⟨[],rfl,rfl,fun i c v hc=>by simp at hc⟩
      | cons x xs ih=>
       intro vs h
       simp only [mapO] at h
       cases hx : resA cf.P st x with
       | none=>simp [hx] at h
       | some v=>
        cases hxs : mapO (resA cf.P st) xs with
        | none=>simp [hx,hxs] at h
        | some vs'=>
         simp only [hx,hxs] at h
         cases h
         obtain ⟨u,hu,hru⟩:=one x v hx
         obtain ⟨us,hus,hl,hr⟩:=ih vs' hxs
         refine ⟨u :: us,?_,by simp [hl],fun i c v' hc hv=>?_⟩
         ·rw [List.mapM_cons,Sem.run_bind]
          rw [hu]
          simp only [Result.andThen_ok,Sem.run_bind,hus]
          rfl
         ·cases i with
          | zero=>simp at hc hv; subst hc hv; exact hru
          | succ i=>exact hr i c v' (by simpa using hc) (by simpa using hv)
   obtain ⟨us,hus,hl,hr⟩:=all _ _ h
   have hrun : (results fn a.tmps).run cf.P w = .ok (if h : us.toArray.size = 1 then us.toArray[0] else .tuple us.toArray) w:=by
    rw [results_eq,Array.mapM_eq_mapM_toList,Sem.run_bind]
    simp only [Sem.run_map,hus]
    rfl
   refine ⟨_,hrun,?_⟩
   match vs,us,hl,hr with
   | [v],[u],_,hr=>exact hr 0 v u rfl rfl
   | [],[],_,_=>exact .tup [] #[] rfl fun i c v hc=>by simp at hc
   | v1 :: v2 :: vs,u1 :: u2 :: us,hl,hr=>
    rw [dif_neg (by simp)]
    exact .tup _ _ (by simpa using hl.symm) fun i c v hc hv=>hr i c v hc (by simpa using hv)
   | [v],[],hl,_=>simp at hl
   | [v],_ :: _ :: _,hl,_=>simp at hl
   | [],_ :: _,hl,_=>simp at hl
   | _ :: _ :: _,[],hl,_=>simp at hl
   | _ :: _ :: _,[_],hl,_=>simp at hl
end
structure CfgOk (cf : Cfg) : Prop where
 mixed : cf.P.follows .mixedOrders = true
 noX : ∀ f,cf.M f ≠ .X
 code : ∀ f fn c,cf.pr f = none → cf.P.funcs[f]? = some fn → fn.body = some c → codeOk cf.P cf.M cf.pm fn.ntmps c = true
 prims : ∀ f p args h r,cf.pr f = some p → p args h = some r → ∀ (E : Env) (w : World) (vs : Array Value),bodied cf.P f = true → Sim E h w → Full E h → GOk cf.G E.S w → Reps E w args vs → Calls cf.P f vs w (Post E h w r)
theorem callB_sound {cf : Cfg} (ok : CfgOk cf) {C : COr} {L : LOr} (hS : Sound cf C) (hL : LoopsOk cf L) : Sound cf (callB cf C L):=by
 have hC : CallsOk cf C:=fun f args h r hc E w vs hb s hf hg hr=>callM_sound hS ok.noX hc hb s hf hg hr
 intro f args h r hc E w vs hb s hf hg hr
 unfold callB at hc
 cases hp : cf.pr f with
 | some p=>simp only [hp] at hc; exact ok.prims f p args h r hp hc E w vs hb s hf hg hr
 | none=>
  simp only [hp] at hc
  cases hfn : cf.P.funcs[f]? with
  | none=>simp [hfn] at hc
  | some fn=>
   simp only [hfn] at hc
   cases hbd : fn.body with
   | none=>simp [hbd] at hc
   | some c=>
    simp only [hbd] at hc
    cases he : evalO cf C L c ⟨initA args,h⟩ with
    | none=>simp [he,finA] at hc
    | some o=>
     rw [he] at hc
     refine calls_of_wp hfn hbd ?_
     have rel : StRel cf E w ⟨initA args,h⟩ { tmps:=vs ++ Array.replicate (fn.ntmps - vs.size) undef,defers:=[] }:=by
      refine ⟨s,hf,hg,fun k=>?_,rfl⟩
      show Rep E w (initA args k) _
      unfold initA
      by_cases hk : k < args.length
      ·obtain ⟨c,hc⟩:=getElem?_some_of_lt hk
       have hk' : k < vs.size:=by rw [← hr.1]; exact hk
       obtain ⟨u,hu⟩:=agetElem?_some_of_lt hk'
       rw [hc]
       have : (vs ++ Array.replicate (fn.ntmps - vs.size) undef).getD k undef = u:=by
        rw [Array.getD_eq_getD_getElem?,Array.getElem?_append_left hk',hu]; rfl
       rw [this]
       exact hr.2 k c u hc hu
      ·rw [List.getElem?_eq_none (by omega)]
       have : (vs ++ Array.replicate (fn.ntmps - vs.size) undef).getD k undef = undef:=by
        rw [Array.getD_eq_getD_getElem?,Array.getElem?_append_right (by rw [← hr.1]; omega),Array.getElem?_replicate]
        split <;> rfl
       rw [this]
       exact undef_rep
     have hsz : fn.ntmps ≤ (vs ++ Array.replicate (fn.ntmps - vs.size) undef).size:=by simp; omega
     refine wp_mono (evalO_sound ok.mixed hS hC hL c _ o he (codeOk_mono hsz c (ok.code f fn c hp hfn hbd)) E w _ rel rfl) fun e a' w' hq=>?_
     cases e with
     | normal=>
      obtain ⟨st',E',rfl,rel',x',_⟩:=hq
      simp only [finA,Option.map_eq_some_iff] at hc
      obtain ⟨rs,hrs,rfl⟩:=hc
      obtain ⟨u,hu,hru⟩:=results_sound rel' hrs
      exact ⟨rel'.df,u,hu,_,st'.hp,E',rfl,rel'.sim,rel'.full,x',hru⟩
     | ret=>
      obtain ⟨st',E',rfl,rel',x',_⟩:=hq
      simp only [finA,Option.map_eq_some_iff] at hc
      obtain ⟨rs,hrs,rfl⟩:=hc
      obtain ⟨u,hu,hru⟩:=results_sound rel' hrs
      exact ⟨rel'.df,u,hu,_,st'.hp,E',rfl,rel'.sim,rel'.full,x',hru⟩
     | panic ch=>
      obtain ⟨v,h',E',u,rfl,rfl,s',f',x',r',df⟩:=hq
      simp only [finA] at hc
      cases hc
      exact ⟨df,v,h',E',u,rfl,rfl,s',f',x',r'⟩
     | exit id=>
      obtain ⟨st',E',rfl,_⟩:=hq
      simp [finA] at hc
     | goto l=>exact hq
     | outgrown=>exact hq.elim
theorem lev_sound {cf : Cfg} (ok : CfgOk cf) : ∀ n,Sound cf (lev cf n).1 ∧ LoopsOk cf (lev cf n).2:=by
 intro n
 induction n using Nat.strongRecOn with
 | _ n ih=>
  cases n with
  | zero=>exact ⟨fun f args h r hc=>by simp [lev] at hc,fun N c st r hc=>by simp [lev] at hc⟩
  | succ n=>
   obtain ⟨h1,h2⟩:=ih n (Nat.lt_succ_self n)
   refine ⟨callB_sound ok h1 h2,?_⟩
   intro N c st r hc hok E w a rel hN
   refine wp_loop_ind (fun m a' w'=>m ≤ n + 1 ∧ ∃ st' E',(lev cf m).2 c st' = some r ∧ StRel cf E' w' st' a' ∧ Ext E st.hp w E' st'.hp w' ∧ a'.tmps.size = N) (fun m a' w' hJ=>?_) (n + 1) a w ⟨Nat.le_refl _,st,E,hc,rel,Ext.refl _ _ _,hN⟩
   obtain ⟨hm,st',E',hl,rel',x',hN'⟩:=hJ
   cases m with
   | zero=>simp [lev] at hl
   | succ m=>
    obtain ⟨g1,g2⟩:=ih m (by omega)
    have hl' : roundA cf (lev cf m).1 (lev cf m).2 c st' = some r:=hl
    unfold roundA at hl'
    cases he : evalO cf (lev cf m).1 (lev cf m).2 c st' with
    | none=>simp [he] at hl'
    | some o=>
     rw [he] at hl'
     refine wp_mono (evalO_sound ok.mixed g1 (fun f args h r hc E w vs hb s hf hg hr=>callM_sound g1 ok.noX hc hb s hf hg hr) g2 c st' o he hok E' w' a' rel' hN') fun e a2 w2 hq=>?_
     cases e with
     | normal=>
      obtain ⟨st2,E2,rfl,rel2,x2,hN2⟩:=hq
      exact ⟨m,Nat.lt_succ_self m,by omega,st2,E2,hl',rel2,x'.trans x2,hN2⟩
     | exit id=>obtain ⟨st2,E2,rfl,rel2,x2,hN2⟩:=hq; cases hl'; exact ⟨st2,E2,rfl,rel2,x'.trans x2,hN2⟩
     | ret=>obtain ⟨st2,E2,rfl,rel2,x2,hN2⟩:=hq; cases hl'; exact ⟨st2,E2,rfl,rel2,x'.trans x2,hN2⟩
     | panic ch=>obtain ⟨v,h',E2,u,rfl,g3,g4,g5,g6,g7,g8⟩:=hq; cases hl'; exact ⟨v,h',E2,u,rfl,g3,g4,g5,x'.trans g6,g7,g8⟩
     | goto l=>exact hq
     | outgrown=>exact hq
theorem call_sound {cf : Cfg} (ok : CfgOk cf) : Sound cf (call cf):=by
 intro f args h r hc E w vs hb s hf hg hr
 obtain ⟨n,hn⟩:=lim_some hc
 exact (lev_sound ok n).1 f args h r hn E w vs hb s hf hg hr
theorem callsOk {cf : Cfg} (ok : CfgOk cf) : CallsOk cf (call cf):=fun f args h r hc E w vs hb s hf hg hr=>callM_sound (call_sound ok) ok.noX hc hb s hf hg hr
end Go.Am

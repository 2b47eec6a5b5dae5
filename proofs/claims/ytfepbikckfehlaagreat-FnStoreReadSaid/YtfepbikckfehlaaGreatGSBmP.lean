/- Regions whose order is drawn: the run in any order. -/
import Derived.Test.YtfepbikckfehlaaGreatGH7
set_option linter.unusedVariables false
set_option linter.unusedSimpArgs false
set_option maxHeartbeats 4000000
namespace Go.Am
open Go
section
variable{cf:dS}{C:pP}{ops:Array Oper}{tr:Nat->St}
theorem LL(hC:Sound cf C){E:Env}{w:World}{H:aC}{st d8:St}{o:Oper}{a:Act}{next:Act->World->Prop}{Q:Exit->Act->World->Prop}(cY:fb cf C ops st o d8)(hx:ti cf.M o.op=true)
  (hp:d8.hp <+: H∨dU cf.P o.op=true∨(fx o=true/\ ∀v,aT cf st.tm st.hp o.op=some (.val v st.hp)->aT cf st.tm H o.op=some (.val v H))∨(kW o=true/\ ∀v ob,aT cf st.tm st.hp o.op=some (.val v (st.hp++[ob]))->H[st.hp.length]?=some ob)) (s:dL E H w) (hg:sE cf.G E.S w) (hn: ∀k,st.hp.length<=k->k<d8.hp.length->E.m k=none) (hr:gn cf.G E w st.tm a.eval o.op.operands)
  (hw: ∀j yb d,o.guard=some (j,yb)->(ops[j]?).bind (·.dst)=some d->ck E w (st.tm d) (a.tmps.getD d undef))
  (hK: ∀(v:af)(u:Value)(w':World)(E':Env),d8=⟨iN st.tm o.dst v,d8.hp⟩->dL E' H w'->pU E H w E' H w'->ck E' w' v u->(∀k,E'.m k=E.m k∨(st.hp.length<=k/\k<d8.hp.length))->next (a.put o.dst u) w'):
  if Region.wanted o (yielded ops a.tmps)then o.wp cf.P a w next Q else next (a.put o.dst undef) w:=by
   obtain⟨TZ,N9⟩:=oL (E:=E) (w:=w) (ops:=ops) (o:=o) (tm:=st.tm) (a:=a) hw;have Wh:(dP ops o st.tm=none∨dP ops o st.tm=some true)->Region.wanted o (yielded ops a.tmps)=true:=fun h=>h.elim TZ (N9 true)
   cases cY with
   |skip Kt he=>
    rw[if_neg (by rw[N9 false Kt];simp)];subst he
    exact hK (.dX []) undef w E rfl s (Ext.refl _ _ _).topU mI fun k=>.inl rfl
   |val v h' Kt hv he=>
    rw[if_pos (Wh Kt)];subst he
    have Vq:mW o.op=true:=by
     simp only[ti,Bool.or_eq_true]at hx;rcases hx with hx|hx
     ·exact hx
     ·obtain⟨f,args,hc,_⟩:=oc hx hv;cases hc
    have fin:D8 cf.P E H w (execOp a.eval o) v st.hp.length h'.length->o.wp cf.P a w next Q:=by
     rintro ⟨u,w',E',fl,s',x',r',gU⟩
     unfold Oper.wp;rw[fl];exact hK v u w' E' rfl s' x' r' gU
    by_cases bz:dU cf.P o.op=true
    ·obtain⟨v',hq,aD⟩:=uz bz hv;cases hq
     obtain⟨u,w',E',fl,s',x',r',gU⟩:=(pY s Vq hr (aD H) (List.prefix_refl _) (fun k h1 h2=>by omega)).2;exact fin ⟨u,w',E',fl,s',x',r',fun k=>(gU k).elim .inl fun h=>by omega⟩
    ·rcases hp with TN|h|⟨hl,aD⟩|⟨Nk,TW⟩
     ·exact fin (pY s Vq hr hv TN hn).2
     ·exact absurd h bz
     ·obtain⟨v',o6,hq⟩:=fb.load (C:=C) (ops:=ops) (.val v h' Kt hv rfl) hl;rw[hv]at o6;cases o6
      obtain⟨u,w',E',fl,s',x',r',gU⟩:=(pY s Vq hr (aD _ hv) (List.prefix_refl _) (fun k h1 h2=>by omega)).2;exact fin ⟨u,w',E',fl,s',x',r',fun k=>(gU k).elim .inl fun h=>by omega⟩
     ·obtain⟨v',ob,hq,_⟩:=ry Nk hv;cases hq
      exact fin (xd s Vq hr hv (fun CJ=>by rw[Is Nk]at CJ;cases CJ) (fun ob' e=>by have e2:=List.append_cancel_left e;cases e2;exact TW _ _ hv) hn).2
   |call f args v h' Kt hv Nn hc he=>
    rw[if_pos (Wh Kt)];subst he;simp only[ti,Bool.or_eq_true]at hx
    have hpc:CP cf.M o.op=true:=by
     rcases hx with hx|hx
     ·exfalso;rcases mD hv with⟨_,_,hq⟩|⟨c,hq⟩|⟨x,hq⟩
      ·cases hq
      ·by_cases CJ:kq o.op=true
       ·obtain⟨_,hq⟩:=mU CJ hv;cases hq
       ·rw[hq]at hx CJ;exact CJ hx
      ·by_cases CJ:kq o.op=true
       ·obtain⟨_,hq⟩:=mU CJ hv;cases hq
       ·rw[hq]at hx CJ;exact CJ hx
     ·exact hx
    have bz: ¬dU cf.P o.op=true:=fun bz=>by obtain⟨_,hq,_⟩:=uz bz hv;cases hq
    have hp:h' <+: H∨dU cf.P o.op=true:=by
     rcases hp with h|h|⟨hl,_⟩|⟨Nk,_⟩
     ·exact .inl h
     ·exact .inr h
     rotate_left
     ·obtain⟨v',ob,hq,_⟩:=ry Nk hv;cases hq
     ·obtain⟨_,o6,_⟩:=fb.load (C:=C) (ops:=ops) (.call f args v h' Kt hv Nn hc rfl) hl;rw[hv]at o6;cases o6
    have YP:fb cf C ops st o ⟨iN st.tm o.dst v,h'⟩:=.call f args v h' Kt hv Nn hc rfl;have pe:=YP.BP (by simp[ti,hpc]);have hpH:st.hp <+: H:=(pe.trans (hp.elim id fun h=>absurd h bz));obtain⟨f',cH,hq,gU⟩:=oc hpc hv;cases hq
    obtain⟨vs,fl,kz,hb⟩:=mE hr hv;unfold Oper.wp;rw[fl];rcases EU (gU Nn)with hm|hm
    ·refine Calls.mono (xg hC hm hc hb hpH s hg kz) fun e w1 he=>?_
     cases e with
     |returned u=>
      obtain⟨v',S1,hq,p1,p2,p3⟩:=he;cases hq
      exact hK _ u w1 _ rfl p1 p2.topU p3 fun k=>.inl rfl
     |panicked chain=>obtain⟨v',S1,u,hq,_⟩:=he;cases hq
     |outgrown=>exact he.elim
    ·refine Calls.mono (xh hC hm hc hb (hp.elim id fun h=>absurd h bz) hn s hg kz).2 fun e w1 he=>?_
     cases e with
     |returned u=>
      obtain⟨v',h'',E',hq,p1,p2,p3,p4⟩:=he;cases hq
      exact hK _ u w1 E' rfl p1 p2 p3 p4
     |panicked chain=>exact he.elim
     |outgrown=>exact he.elim
theorem LM(hC:ia cf C){E:Env}{w:World}{st d8:St}{o:Oper}{a:Act}{next:Act->World->Prop}{Q:Exit->Act->World->Prop}(cY:fb cf C ops st o d8)
  (s:dL E st.hp w) (hf:Full E st.hp) (hg:sE cf.G E.S w) (hr:gn cf.G E w st.tm a.eval o.op.operands)
  (hw: ∀j yb d,o.guard=some (j,yb)->(ops[j]?).bind (·.dst)=some d->ck E w (st.tm d) (a.tmps.getD d undef))
  (hK: ∀(v:af)(u:Value)(w':World)(E':Env),d8=⟨iN st.tm o.dst v,d8.hp⟩->dL E' d8.hp w'->Full E' d8.hp->Ext E st.hp w E' d8.hp w'->ck E' w' v u->next (a.put o.dst u) w'):
  if Region.wanted o (yielded ops a.tmps)then o.wp cf.P a w next Q else next (a.put o.dst undef) w:=by
   obtain⟨TZ,N9⟩:=oL (E:=E) (w:=w) (ops:=ops) (o:=o) (tm:=st.tm) (a:=a) hw;have Wh:(dP ops o st.tm=none∨dP ops o st.tm=some true)->Region.wanted o (yielded ops a.tmps)=true:=fun h=>h.elim TZ (N9 true)
   cases cY with
   |skip Kt he=>
    rw[if_neg (by rw[N9 false Kt];simp)];subst he
    exact hK (.dX []) undef w E rfl s hf (Ext.refl _ _ _) mI
   |val v h' Kt hv he=>
    rw[if_pos (Wh Kt)];subst he;obtain⟨u,w',E',fl,s',f',x',r'⟩:=ze s hf hr hv;unfold Oper.wp;rcases fl with fl|⟨fl,rfl⟩
    ·rw[fl];exact hK v u w' E' rfl s' f' x' r'
    ·rw[fl];exact hK v undef w' E' rfl s' f' x' r'
   |call f args v h' Kt hv Nn hc he=>
    rw[if_pos (Wh Kt)];subst he;obtain⟨vs,fl,kz,hb⟩:=mE hr hv;unfold Oper.wp;rw[fl];refine Calls.mono (hC f args st.hp _ hc E w vs hb s hf hg kz) fun e w1 he=>?_
    cases e with
    |returned u=>
     obtain⟨v',h'',E',hq,s',f',x',r'⟩:=he;cases hq
     exact hK _ u w1 E' rfl s' f' x' r'
    |panicked chain=>obtain⟨v',h'',E',u,hq,_⟩:=he;cases hq
    |outgrown=>exact he.elim
def p9(bT:Array Bool)(i:Nat):Prop:=bT.getD i false=true
structure Oe(cf:dS)(ops:Array Oper)(tr:Nat->St)(E0:Env)(h0:aC)(w0:World)(N:Nat)(E:Env)(q:Nat)(bT:Array Bool)(a:Act)(w:World):Prop where
 size:bT.size=ops.size
 down: ∀j o,ops[j]?=some o->p9 bT j-> ∀e∈o.after,Region.binds .any e=true->p9 bT e.on
 Wi:q<=ops.size
 wl: ∀i o,i<q->ops[i]?=some o->ti cf.M o.op=false->p9 bT i
 wq:q<ops.size->(∃o,ops[q]?=some o/\ti cf.M o.op=false)/\ ¬p9 bT q
 oJ:dL E (tr q).hp w
 full:Full E (tr q).hp
 nn: ∀i,i<q-> ¬p9 bT i-> ∀k,(tr i).hp.length<=k->k<(tr (i+1)).hp.length->E.m k=none
 tm: ∀j t,j<=ops.size->(∀i o,i<j->ops[i]?=some o->o.dst=some t->p9 bT i)->(∀i o,j<=i->ops[i]?=some o->o.dst=some t-> ¬p9 bT i)->ck E w ((tr j).tm t) (a.tmps.getD t undef)
 g:sE cf.G E.S w
 df:a.defers=[]
 sz:a.tmps.size=N
 ext:Ext E0 h0 w0 E (tr q).hp w
 mono: ∀m,m<q->(tr m).hp.length<=(tr (m+1)).hp.length
 T0:h0.length<=(tr 0).hp.length
theorem p9.set{bT:Array Bool}{i k:Nat}(hi:i<bT.size):p9 (bT.setIfInBounds i true) k↔k=i∨p9 bT k:=by
 unfold p9
 by_cases e:k=i
 ·subst e;simp[hi]
 ·simp[Array.getElem?_setIfInBounds,Ne.symm e,e]
theorem lj(ht: ∀i o,ops[i]?=some o->fb cf C ops (tr i) o (tr (i+1))){t:Nat}: ∀(n i:Nat),i+n<=ops.size->(∀k o,i<=k->k<i+n->ops[k]?=some o->o.dst≠some t)->(tr (i+n)).tm t=(tr i).tm t:=by
 intro n
 induction n with
 |zero=>intro i _ _;rfl
 |succ n ih=>
  intro i hle hd;have eH:i+n<ops.size:=by omega
  obtain⟨o,ho⟩: ∃o,ops[i+n]?=some o:=⟨ops[i+n],Array.getElem?_eq_getElem eH⟩;rw[show i+(n+1)=i+n+1 by omega,(ht _ o ho).Ob (hd _ o (by omega) (by omega) ho)];exact ih i (by omega) fun k o h1 h2=>hd k o h1 (by omega)
theorem se(ht: ∀i o,ops[i]?=some o->fb cf C ops (tr i) o (tr (i+1))): ∀(n i:Nat),i+n<=ops.size->(∀k o,i<=k->k<i+n->ops[k]?=some o->ti cf.M o.op=true)->(tr i).hp <+:(tr (i+n)).hp:=by
 intro n
 induction n with
 |zero=>intro i _ _;exact List.prefix_refl _
 |succ n ih=>
  intro i hle hx;have eH:i+n<ops.size:=by omega
  obtain⟨o,ho⟩: ∃o,ops[i+n]?=some o:=⟨ops[i+n],Array.getElem?_eq_getElem eH⟩;exact(ih i (by omega) fun k o h1 h2=>hx k o h1 (by omega)).trans ((ht _ o ho).BP (hx _ o (by omega) (by omega) ho))
theorem Of(M:FuncId->Mode)(ops:Array Oper): ∀(n i:Nat),i+n=ops.size-> ∃q,i<=q/\q<=ops.size/\(∀k o,i<=k->k<q->ops[k]?=some o->ti M o.op=true)/\(q<ops.size-> ∃o,ops[q]?=some o/\ti M o.op=false):=by
 intro n
 induction n with
 |zero=>intro i h;exact⟨i,aB _,by omega,fun k o h1 h2=>by omega,fun h=>by omega⟩
 |succ n ih=>
  intro i h;have eH:i<ops.size:=by omega
  obtain⟨o,ho⟩: ∃o,ops[i]?=some o:=⟨ops[i],Array.getElem?_eq_getElem eH⟩
  cases hx:ti M o.op with
  |false=>exact⟨i,aB _,by omega,fun k o h1 h2=>by omega,fun _=>⟨o,ho,hx⟩⟩
  |true=>
   obtain⟨q,h1,h2,h3,h4⟩:=ih (i+1) (by omega);refine⟨q,by omega,h2,fun k o' hk XU gI=>?_,h4⟩
   by_cases e:k=i
   ·subst e;rw[ho]at gI;cases gI;exact hx
   ·exact h3 k o' (by omega) XU gI
section
variable{E0:Env}{h0:aC}{w0:World}{N:Nat}
theorem LN(hS:Sound cf C)(hC:ia cf C)(dt:vR cf.P cf.M ops=true)(hd: ∀o∈ops.toList,∀d,o.dst=some d->d<N)(ht: ∀i o,ops[i]?=some o->fb cf C ops (tr i) o (tr (i+1)))
  (BQ: ∀j o,ops[j]?=some o->vI cf.M o.op=true->(tr (j+1)).hp=(tr j).hp∨md cf (tr (j+1)) (((lI ops.toList [])[j]?).getD 0) (ops.toList.take j) 0)
  {E:Env} {q:Nat} {bT:Array Bool} {a:Act} {w:World} (inv:Oe cf ops tr E0 h0 w0 N E q bT a w) {i:Nat} (hi:i∈Region.ready .any ops bT) {K:Act->World->Prop} {Q:Exit->Act->World->Prop}
  (hK: ∀(E':Env)(q':Nat)(a':Act)(w':World),Oe cf ops tr E0 h0 w0 N E' q' (bT.setIfInBounds i true) a' w'->K a' w'):wpOp cf.P ops Q i K a w:=by
   obtain⟨Q3,rA⟩:=xk dt;obtain⟨Q4,o,ho,aD⟩:=mem_ready.1 hi;have Vr:i<ops.size:=(Array.getElem?_eq_some_iff.1 ho).1;have mg:i<bT.size:=by rw[inv.size];exact Vr
   have Kq: ¬p9 bT i:=by
    unfold p9;simp[mg]at Q4⊢;exact Q4
   have SO: ∀o',ops[i]?=some o'-> ∀e∈o'.after,Region.binds .any e=true->p9 bT e.on:=fun o' gI e he hb=>by rw[ho]at gI;cases gI;exact aD e he hb
   -- what comes before i is listed; what comes behind a listed one is not i
   have XV: ∀k,Dn ops k i->p9 bT k:=fun k hk=>(hk.bT (L:=p9 bT) inv.down).2 SO;have Wj: ∀k,Dn ops i k-> ¬p9 bT k:=fun k hk hl=>Kq ((hk.bT (L:=p9 bT) inv.down).1 hl);have pZ: ∀k,p9 (bT.setIfInBounds i true) k↔k=i∨p9 bT k:=fun k=>p9.set mg;have Ku: ∀k,k<ops.size-> ∃o',ops[k]?=some o':=fun k hk=>⟨ops[k],Array.getElem?_eq_getElem hk⟩
   -- the operands
   have look: ∀t∈o.looksAt ops,ck E w ((tr i).tm t) (a.tmps.getD t undef):=by
    intro t Kv;refine inv.tm i t (by omega) (fun k o' hk gI l8=>?_) (fun k o' hk gI l8 hl=>?_)
    ·rcases rA k i o' o hk gI ho with h|h
     ·exact XV k h
     ·exact absurd Kv ((Oper.apart_spec h.1).1 t l8)
    ·by_cases e:k=i
     ·subst e;exact Kq hl
     ·rcases rA i k o o' (by omega) ho gI with h|h
      ·exact Wj k h hl
      ·exact absurd Kv ((Oper.apart_spec h.1).2.2 t l8)
   have Wk:gn cf.G E w (tr i).tm a.eval o.op.operands:=by
    refine⟨?_,fun _=>rfl⟩;intro x hx v hv
    cases x with
    |tmp t=>
     simp only[ev]at hv;cases hv
     exact look t (List.mem_append_left _ (List.mem_filterMap.2 ⟨.tmp t,by simpa using hx,rfl⟩))
    |const c=>exact .eG (ym hv)
    |global g=>
     simp only[ev,ai]at hv;obtain⟨u,hu,rfl⟩:=hv
     exact .eG (inv.g g u hu)
    |func f=>
     simp only[ev]at hv;cases hv
     exact .func (.func f) [] [] #[] #[] rfl rfl (fun i c v hc=>by simp at hc) (fun i c v hc=>by simp at hc)
   have Wl: ∀j yb d,o.guard=some (j,yb)->(ops[j]?).bind (·.dst)=some d->ck E w ((tr i).tm d) (a.tmps.getD d undef):=by
    intro j yb d hg LO;exact look d (List.mem_append_right _ (by simp[hg,LO]))
   have hdi: ∀d,o.dst=some d->d<N:=hd o (by simpa using Array.mem_of_getElem? ho)
   -- the temporaries behind it
   have SP: ∀(v:af)(u:Value)(w':World)(E':Env),tr (i+1)=⟨iN (tr i).tm o.dst v,(tr (i+1)).hp⟩->(∀x y,ck E w x y->ck E' w' x y)->ck E' w' v u->
     ∀j t,j<=ops.size->(∀k o',k<j->ops[k]?=some o'->o'.dst=some t->p9 (bT.setIfInBounds i true) k)->(∀k o',j<=k->ops[k]?=some o'->o'.dst=some t-> ¬p9 (bT.setIfInBounds i true) k)->
      ck E' w' ((tr j).tm t) ((a.put o.dst u).tmps.getD t undef):=by
       intro v u w' E' cY sJ vM j t hj h1 h2
       by_cases Vs:o.dst=some t
       ·have xl:i<j:=Nat.lt_of_not_le fun hle=>h2 i o hle ho Vs ((pZ i).2 (.inl rfl))
        have uj:(tr j).tm t=(tr (i+1)).tm t:=by
         have:=lj ht (t:=t) (j-(i+1)) (i+1) (by omega) fun k o' dw jf gI l8=>by
          have hl:=h1 k o' (by omega) gI l8;rcases(pZ k).1 hl with h|h
          ·omega
          ·rcases rA i k o o' (by omega) ho gI with hp|hp
           ·exact Wj k hp h
           ·exact(Oper.apart_spec hp.1).2.1 t Vs l8
         rw[show i+1+(j-(i+1))=j by omega]at this;exact this
        rw[uj,cY];have eH:=hdi t Vs;simp only[iN,eU,Vs,if_true,Act.put];simpa[Array.getElem?_setIfInBounds,inv.sz,eH]using vM
       ·have hold:ck E w ((tr j).tm t) (a.tmps.getD t undef):=inv.tm j t hj (fun k o' hk gI l8=>by
          rcases(pZ k).1 (h1 k o' hk gI l8)with h|h
          ·subst h;rw[ho]at gI;cases gI;exact absurd l8 Vs
          ·exact h) (fun k o' hk gI l8 hl=>h2 k o' hk gI l8 ((pZ k).2 (.inr hl)))
        have uj:(a.put o.dst u).tmps.getD t undef=a.tmps.getD t undef:=by
         cases hq:o.dst with
         |none=>rfl
         |some d=>
          have:d≠t:=fun e=>Vs (by rw[hq,e]);simp[Act.put,Array.getElem?_setIfInBounds,this]
        rw[uj];exact sJ _ _ hold
   have Kw: ∀j o',ops[j]?=some o'->p9 (bT.setIfInBounds i true) j-> ∀e∈o'.after,Region.binds .any e=true->p9 (bT.setIfInBounds i true) e.on:=by
    intro j o' gI hl e he hb;refine(pZ _).2 (.inr ?_);rcases(pZ j).1 hl with h|h
    ·subst h;exact SO o' gI e he hb
    ·exact inv.down j o' gI h e he hb
   -- an operation with its names on the way,that is not listed and stands before q,has no writer behind it before q (loads that are looked at again apart)
   have seg: ∀k o',k<q->ops[k]?=some o'-> ¬p9 bT k->dU cf.P o'.op=false->i5 o'=false-> ∀m SQ,k<=m->m<q->ops[m]?=some SQ->ti cf.M SQ.op=true:=by
    intro k o' hk gI SR bz YQ m SQ YR hmq Wm
    cases hx:ti cf.M SQ.op with
    |true=>rfl
    |false=>
     exfalso;have Q5:=inv.wl m SQ hmq Wm hx
     by_cases e:k=m
     ·subst e;exact SR Q5
     ·rcases rA k m o' SQ (by omega) gI Wm with h|⟨_,h⟩
      ·exact SR ((h.bT (L:=p9 bT) inv.down).1 Q5)
      ·have Wn:dU cf.P SQ.op=false:=by
        cases hf:dU cf.P SQ.op with
        |false=>rfl
        |true=>simp[ti,lh hf]at hx
       rcases h with h|h|h|h
       ·rw[bz]at h;cases h
       ·rw[Wn]at h;cases h
       ·rw[hx]at h;cases h.2
       ·have:=h.late;rw[YQ]at this;cases this
   -- what a load that is not listed gives behind the writers ahead of q
   have chain: ∀n a,a+n<=q->(tr a).hp.length<=(tr (a+n)).hp.length:=by
    intro n
    induction n with
    |zero=>intro a _;exact aB _
    |succ n ih=>intro a ha;exact bw (ih a (by omega)) (inv.mono (a+n) (by omega))
   -- what a maker that is not listed made is there behind the writers ahead of q
   have Wo:kW o=true-> ∀ob,(tr (i+1)).hp=(tr i).hp++[ob]-> ∀n,i+1+n<=q->(tr (i+1+n)).hp[(tr i).hp.length]?=some ob:=by
    intro hm ob TW n;obtain⟨v0,XW,tV,T1⟩:=(ht i o ho).mk hm;have e0:XW=ob:=by rw[T1]at TW;have:=List.append_cancel_left TW;cases this;rfl
    subst e0;obtain⟨v1,ob1,zn,sf⟩:=ry hm tV;have e1:=congrArg (fun x=>match x with|HI.val v h=>(v,h)|_=>(.nil,[])) zn;simp only[Prod.mk.injEq]at e1;obtain⟨e1,e2⟩:=e1;have e2:=List.append_cancel_left e2;cases e2
    subst e1
    induction n with
    |zero=>
     intro _;rw[Nat.add_zero,TW,List.getElem?_append_right (aB _)]
     simp
    |succ n ih=>
     intro hle;have gZ:=ih (by omega);have eH:i+1+n<ops.size:=by have:=inv.Wi;omega
     obtain⟨oj,Q6⟩:=Ku _ eH;have ER:=ht _ oj Q6;rw[show i+1+(n+1)=i+1+n+1 by omega]
     cases Q7:ti cf.M oj.op with
     |true=>exact p8 (ER.BP Q7) gZ
     |false=>
      have Q5:=inv.wl _ oj (by omega) Q6 Q7;rcases rA i _ o oj (by omega) ho Q6 with h|⟨_,h⟩
      ·exact absurd Q5 (Wj _ h)
      ·have Wn:dU cf.P oj.op=false:=by
        cases hf:dU cf.P oj.op with
        |false=>rfl
        |true=>simp[ti,lh hf]at Q7
       rcases h with h|h|h|h
       ·rw[Ir hm]at h;cases h
       ·rw[Wn]at h;cases h
       ·rw[Q7]at h;cases h.2
       ·rcases BQ _ oj Q6 h.fc with h1|h1
        ·rw[h1];exact gZ
        ·have BR:=zm _ _ h1 i o (by rw[List.getElem?_take,if_pos (by omega)];simpa using ho) h.late (by rw[bg];exact h.un);obtain⟨d,Q8,XX⟩:=h.self;unfold CF at BR;simp only[Q8,hm]at BR
         have Og: ∀t∈o.looksAt ops,(tr (i+1+n+1)).tm t=(tr i).tm t:=by
          intro t Kv
          have:=lj ht (t:=t) (n+2) i (by omega) fun k o' h1 h2 gI l8=>by
           by_cases e:k=i
           ·subst e;rw[ho]at gI;cases gI;rw[Q8]at l8;cases l8;exact XX Kv
           ·exact(h.calm k o' (by omega) (by omega) gI t l8).1 Kv
          rw[show i+(n+2)=i+1+n+1 by omega]at this;exact this
         have EX:(tr (i+1+n+1)).tm d=v0:=by
          have:=lj ht (t:=d) (n+1) (i+1) (by omega) fun k o' h1 h2 gI l8=>(h.calm k o' (by omega) (by omega) gI d l8).2 Q8;rw[show i+1+(n+1)=i+1+n+1 by omega]at this;rw[this,T1];simp[iN,eU,Q8]
         unfold NI at BR;rw[Od hm Og]at BR;rcases sf with⟨e3,e4⟩|⟨m,e3,e4⟩
         ·rw[e4]at BR;obtain⟨k,g1,g2⟩:=BR;rw[EX,e3]at g1;cases g1
          exact g2
         ·rw[e4]at BR;obtain⟨k,g1,g2⟩:=BR;rw[EX,e3]at g1;cases g1
          exact g2
   have Wp:fx o=true-> ∀n,i+1+n<=q-> ∀v,aT cf (tr i).tm (tr i).hp o.op=some (.val v (tr i).hp)->aT cf (tr i).tm (tr (i+1+n)).hp o.op=some (.val v (tr (i+1+n)).hp):=by
    intro hl n
    have Yr:kW o=false:=by
     cases hm:kW o with
     |false=>rfl
     |true=>rw[Iq hm]at hl;cases hl
    have cY:=(ht i o ho).load hl;obtain⟨v0,tV,T1⟩:=cY;have Wq:(tr (i+1)).hp=(tr i).hp:=by rw[T1]
    induction n with
    |zero=>intro _ v hv;rw[Nat.add_zero,Wq];exact hv
    |succ n ih=>
     intro hle v hv;have gZ:=ih (by omega) v hv;have eH:i+1+n<ops.size:=by have:=inv.Wi;omega
     obtain⟨oj,Q6⟩:=Ku _ eH;have ER:=ht _ oj Q6;rw[show i+1+(n+1)=i+1+n+1 by omega]
     cases Q7:ti cf.M oj.op with
     |true=>exact LK hl (ER.BP Q7) gZ
     |false=>
      have Q5:=inv.wl _ oj (by omega) Q6 Q7;rcases rA i _ o oj (by omega) ho Q6 with h|⟨_,h⟩
      ·exact absurd Q5 (Wj _ h)
      ·have Wn:dU cf.P oj.op=false:=by
        cases hf:dU cf.P oj.op with
        |false=>rfl
        |true=>simp[ti,lh hf]at Q7
       rcases h with h|h|h|h
       ·rw[CS hl]at h;cases h
       ·rw[Wn]at h;cases h
       ·rw[Q7]at h;cases h.2
       ·rcases BQ _ oj Q6 h.fc with h1|h1
        ·rw[h1];exact gZ
        ·have BR:=zm _ _ h1 i o (by rw[List.getElem?_take,if_pos (by omega)];simpa using ho) h.late (by rw[bg];exact h.un);obtain⟨d,Q8,XX⟩:=h.self;unfold CF at BR;simp only[Q8,Yr]at BR
         have Og: ∀t∈o.looksAt ops,(tr (i+1+n+1)).tm t=(tr i).tm t:=by
          intro t Kv
          have:=lj ht (t:=t) (n+2) i (by omega) fun k o' h1 h2 gI l8=>by
           by_cases e:k=i
           ·subst e;rw[ho]at gI;cases gI;rw[Q8]at l8;cases l8;exact XX Kv
           ·exact(h.calm k o' (by omega) (by omega) gI t l8).1 Kv
          rw[show i+(n+2)=i+1+n+1 by omega]at this;exact this
         have EX:(tr (i+1+n+1)).tm d=v:=by
          have:=lj ht (t:=d) (n+1) (i+1) (by omega) fun k o' h1 h2 gI l8=>(h.calm k o' (by omega) (by omega) gI d l8).2 Q8;rw[show i+1+(n+1)=i+1+n+1 by omega]at this;rw[this,T1];rw[hv]at tV;cases tV
          simp[iN,eU,Q8]
         rw[EX]at BR;exact Q2 hl Og BR
   unfold wpOp;simp only[ho]
   have pick: ∀{A B:Prop},(if Region.wanted o (yielded ops a.tmps)then A else B)-> ∀D:Prop,if Region.wanted o (yielded ops a.tmps)then A∨D else B:=by
    intro A B h D;split
    ·rename_i hw;rw[if_pos hw]at h;exact .inl h
    ·rename_i hw;rw[if_neg hw]at h;exact h
   refine pick ?_ _
   cases hx:ti cf.M o.op with
   |true=>
    have Oh:dU cf.P o.op=true∨i<q:=by
     by_cases Nq:i<q
     ·exact .inr Nq
     ·left
      have hqn:q<ops.size:=by omega
      obtain⟨⟨oq,Nr,CT⟩,Wr⟩:=inv.wq hqn
      by_cases e:q=i
      ·subst e;rw[ho]at Nr;cases Nr;rw[hx]at CT;cases CT
      ·rcases rA q i oq o (by omega) Nr ho with h|⟨_,h⟩
       ·exact absurd (XV q h) Wr
       ·rcases h with h|h|h|h
        ·rw[show ti cf.M oq.op=true by simp[ti,lh h]]at CT;cases CT
        ·exact h
        ·rw[h.1]at CT;cases CT
        ·rw[zk h.late]at CT;cases CT
    have pe:(tr (i+1)).hp <+:(tr q).hp∨dU cf.P o.op=true∨(fx o=true/\ ∀v,aT cf (tr i).tm (tr i).hp o.op=some (.val v (tr i).hp)->aT cf (tr i).tm (tr q).hp o.op=some (.val v (tr q).hp))∨
      (kW o=true/\ ∀v ob,aT cf (tr i).tm (tr i).hp o.op=some (.val v ((tr i).hp++[ob]))->(tr q).hp[(tr i).hp.length]?=some ob):=by
       cases hf:dU cf.P o.op with
       |true=>exact .inr (.inl rfl)
       |false=>
        have Nq:i<q:=Oh.elim (fun h=>by rw[hf]at h;cases h) id
        cases yp:fx o with
        |true=>
         refine .inr (.inr (.inl ⟨rfl,fun v hv=>?_⟩));have:=Wp yp (q-(i+1)) (by omega) v hv;rw[show i+1+(q-(i+1))=q by omega]at this
         exact this
        |false=>
        cases Vt:kW o with
        |true=>
         refine .inr (.inr (.inr ⟨rfl,fun v ob hv=>?_⟩));obtain⟨v0,XW,tV,T1⟩:=(ht i o ho).mk Vt;rw[hv]at tV
         have e1:XW=ob:=by
          have:=Option.some.inj tV;have e2:=congrArg (fun x=>match x with|HI.val v h=>h|_=>[]) this;have e3:=List.append_cancel_left e2;cases e3
          rfl
         subst e1;have:=Wo Vt XW (by rw[T1]) (q-(i+1)) (by omega);rw[show i+1+(q-(i+1))=q by omega]at this
         exact this
        |false=>
        left
        have yp:i5 o=false:=by simp[i5,yp,Vt]
        have:=se ht (q-(i+1)) (i+1) (by have:=inv.Wi;omega) fun k o' h1 h2 gI=>seg i o Nq ho Kq hf yp k o' (by omega) (by omega) gI;rw[show i+1+(q-(i+1))=q by omega]at this;exact this
    have CU: ∀k,(tr i).hp.length<=k->k<(tr (i+1)).hp.length->i<q/\dU cf.P o.op=false/\fx o=false:=by
     intro k h1 h2
     cases hf:dU cf.P o.op with
     |true=>rw[(ht i o ho).free hf]at h2;omega
     |false=>
      cases yp:fx o with
      |true=>
       obtain⟨_,_,hq⟩:=(ht i o ho).load yp;rw[show(tr (i+1)).hp=(tr i).hp by rw[hq]]at h2
       omega
      |false=>exact⟨Oh.elim (fun h=>by rw[hf]at h;cases h) id,rfl,rfl⟩
    refine LL hS (ht i o ho) hx pe inv.oJ inv.g (fun k h1 h2=>inv.nn i (CU k h1 h2).1 Kq k h1 h2) Wk Wl fun v u w' E' cY s' x' r' gU=>?_
    have hi1:i<q->(tr (i+1)).hp.length<=(tr q).hp.length:=fun Nq=>by
     have:=chain (q-(i+1)) (i+1) (by omega);rw[show i+1+(q-(i+1))=q by omega]at this;exact this
    refine hK E' q _ _ ⟨by simpa using inv.size,Kw,inv.Wi,fun k o' hk gI XY=>(pZ k).2 (.inr (inv.wl k o' hk gI XY)),fun hq=>?_,s',fun k hk=>?_,fun k XU SR j h1 h2=>?_,SP v u w' E' cY (fun x y h=>h.QO x' inv.oJ) r',inv.g.mono x'.S fun b hb=>x'.NP inv.oJ hb,by rw[put_defers];exact inv.df,by rw[pf];exact inv.sz,inv.ext.NO x' fun id g1 g2=>?_,inv.mono,inv.T0⟩
    rotate_left 3
    ·rcases gU id with h|⟨h1,h2⟩
     ·exact h.trans g2
     ·exfalso;obtain⟨Nq,_,_⟩:=CU id h1 h2;have:=chain i 0 (by omega);rw[bg]at this;have:=inv.T0;omega
    ·obtain⟨⟨oq,Nr,CT⟩,Wr⟩:=inv.wq hq;refine⟨⟨oq,Nr,CT⟩,fun hl=>?_⟩;rcases(pZ q).1 hl with h|h
     ·subst h;rw[ho]at Nr;cases Nr;rw[hx]at CT;cases CT
     ·exact Wr h
    ·rcases gU k with h|⟨h1,h2⟩
     ·rw[h];exact inv.full k hk
     ·exfalso;obtain⟨Nq,hf,yp⟩:=CU k h1 h2;have:=hi1 Nq;omega
    ·have Q9: ¬p9 bT k:=fun h=>SR ((pZ k).2 (.inr h));have YS:k≠i:=fun e=>SR ((pZ k).2 (.inl e));rcases gU j with h|⟨g1,g2⟩
     ·rw[h];exact inv.nn k XU Q9 j h1 h2
     ·exfalso;obtain⟨Nq,XZ,acS⟩:=CU j g1 g2;rcases Nat.lt_or_gt_of_ne YS with eH|eH
      ·have:=chain (i-(k+1)) (k+1) (by omega);rw[show k+1+(i-(k+1))=i by omega]at this;omega
      ·have:=chain (k-(i+1)) (i+1) (by omega);rw[show i+1+(k-(i+1))=k by omega]at this
       omega
   |false=>
    have bz:dU cf.P o.op=false:=by
     cases hf:dU cf.P o.op with
     |false=>rfl
     |true=>simp[ti,lh hf]at hx
    have Nq:i=q:=by
     rcases Nat.lt_trichotomy i q with h|h|h
     ·exact absurd (inv.wl i o h ho hx) Kq
     ·exact h
     ·exfalso;obtain⟨⟨oq,Nr,CT⟩,Wr⟩:=inv.wq (by omega)
      have hfq:dU cf.P oq.op=false:=by
       cases hf:dU cf.P oq.op with
       |false=>rfl
       |true=>simp[ti,lh hf]at CT
      rcases rA q i oq o h Nr ho with h|⟨_,h⟩
      ·exact Wr (XV q h)
      ·rcases h with h|h|h|h
       ·rw[hfq]at h;cases h
       ·rw[bz]at h;cases h
       ·rw[hx]at h;cases h.2
       ·rw[zk h.late]at CT;cases CT
    have Ra: ∀k o',i<k->ops[k]?=some o'->dU cf.P o'.op=false-> ¬p9 bT k:=by
     intro k o' hk gI hf;rcases rA i k o o' hk ho gI with h|⟨_,h⟩
     ·exact Wj k h
     ·rcases h with h|h|h|h
      ·rw[bz]at h;cases h
      ·rw[hf]at h;cases h
      ·rw[hx]at h;cases h.1
      ·rw[zk h.late]at hx;cases hx
    have Rb: ∀k o',k<i->ops[k]?=some o'->dU cf.P o'.op=false->i5 o'=false->p9 bT k:=by
     intro k o' hk gI hf yp;rcases rA k i o' o hk gI ho with h|⟨_,h⟩
     ·exact XV k h
     ·rcases h with h|h|h|h
      ·rw[hf]at h;cases h
      ·rw[bz]at h;cases h
      ·rw[hx]at h;cases h.2
      ·have:=h.late;rw[yp]at this;cases this
    have YT:dL E (tr i).hp w:=by rw[Nq];exact inv.oJ
    have XZ:Full E (tr i).hp:=by rw[Nq];exact inv.full
    refine LM hC (ht i o ho) YT XZ inv.g Wk Wl fun v u w' E' cY s' f' x' r'=>?_;obtain⟨q',zn,pg,A2,Vu⟩:=Of cf.M ops (ops.size-(i+1)) (i+1) (by omega)
    have pe:(tr (i+1)).hp <+:(tr q').hp:=by
     have:=se ht (q'-(i+1)) (i+1) (by omega) fun k o' h1 h2 gI=>A2 k o' h1 (by omega) gI;rw[show i+1+(q'-(i+1))=q' by omega]at this;exact this
    have xm:Ext E (tr i).hp w E' (tr q').hp w':=⟨⟨x'.S,x'.SN,x'.mem,x'.m,x'.new,bw x'.len pe.length_le,x'.size,x'.os,x'.tape,x'.output⟩,x'.fresh⟩;have YU:Ext E0 h0 w0 E (tr i).hp w:=by rw[Nq];exact inv.ext
    refine hK E' q' _ _ ⟨by simpa using inv.size,Kw,pg,fun k o' hk gI XY=>(pZ k).2 ?_,fun hq=>?_,s'.more pe f',fun k hk=>f' k (bw pe.length_le hk),fun k XU SR j h1 h2=>?_,SP v u w' E' cY (fun x y h=>h.ext x' YT) r',inv.g.ext YT x',by rw[put_defers];exact inv.df,by rw[pf];exact inv.sz,YU.trans xm,fun m hm=>?_,inv.T0⟩
    rotate_left 3
    ·rcases Nat.lt_trichotomy m i with h|h|h
     ·exact inv.mono m (by omega)
     ·subst h;exact x'.len
     ·obtain⟨om,hom⟩:=Ku m (by omega);exact((ht m om hom).BP (A2 m om (by omega) hm hom)).length_le
    ·rcases Nat.lt_trichotomy k i with h|h|h
     ·exact .inr (inv.wl k o' (by omega) gI XY)
     ·exact .inl h
     ·have:=A2 k o' (by omega) hk gI;rw[XY]at this;cases this
    ·obtain⟨oq,Nr,CT⟩:=Vu hq;refine⟨⟨oq,Nr,CT⟩,fun hl=>?_⟩;rcases(pZ q').1 hl with h|h
     ·omega
     ·refine Ra q' oq (by omega) Nr ?_ h
      cases hf:dU cf.P oq.op with
      |false=>rfl
      |true=>simp[ti,lh hf]at CT
    ·have Q9: ¬p9 bT k:=fun h=>SR ((pZ k).2 (.inr h));have YS:k≠i:=fun e=>SR ((pZ k).2 (.inl e));obtain⟨ok,T3⟩:=Ku k (by omega)
     cases Ic:dU cf.P ok.op with
     |true=>rw[(ht k ok T3).free Ic]at h2;omega
     |false=>
      cases Ws:fx ok with
      |true=>
       obtain⟨_,_,hq⟩:=(ht k ok T3).load Ws;rw[show(tr (k+1)).hp=(tr k).hp by rw[hq]]at h2
       omega
      |false=>
      rcases Nat.lt_or_gt_of_ne YS with eH|eH
      ·cases Vq:kW ok with
       |false=>exact absurd (Rb k ok eH T3 Ic (by simp[i5,Ws,Vq])) Q9
       |true=>
        have:=chain (i-(k+1)) (k+1) (by omega);rw[show k+1+(i-(k+1))=i by omega]at this;exact x'.fresh j (by omega) (inv.nn k (by omega) Q9 j h1 h2)
      ·have:=(se ht (k-(i+1)) (i+1) (by omega) fun m o' h1 h2 gI=>A2 m o' h1 (by omega) gI).length_le;rw[show i+1+(k-(i+1))=k by omega]at this;exact f' j (by omega)
end
end
end Go.Am

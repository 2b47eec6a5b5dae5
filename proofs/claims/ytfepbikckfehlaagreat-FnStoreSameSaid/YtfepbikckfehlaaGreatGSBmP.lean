/- Regions whose order is drawn: the run in any order. -/
import Derived.Test.YtfepbikckfehlaaGreatGH7
set_option linter.unusedVariables false
set_option linter.unusedSimpArgs false
set_option maxHeartbeats 4000000
namespace Go.Am
open Go
section
variable{cf:eP}{C:q0}{ops:Array Oper}{tr:Nat->St}
theorem Nz(hC:Sound cf C){E:Env}{w:World}{H:aG}{st fb:St}{o:Oper}{a:Act}{next:Act->World->Prop}{Q:Exit->Act->World->Prop}(dN:gb cf C ops st o fb)(hx:uM cf.M o.op=true)
  (hp:fb.hp <+: H∨eR cf.P o.op=true∨(gB o=true/\ ∀v,aV cf st.tm st.hp o.op=some (.val v st.hp)->aV cf st.tm H o.op=some (.val v H))∨(mB o=true/\ ∀v ob,aV cf st.tm st.hp o.op=some (.val v (st.hp++[ob]))->H[st.hp.length]?=some ob)) (s:eG E H w) (hg:ug cf.G E.S w) (hn: ∀k,st.hp.length<=k->k<fb.hp.length->E.m k=none) (hr:iA cf.G E w st.tm a.eval o.op.operands)
  (hw: ∀j zD d,o.guard=some (j,zD)->(ops[j]?).bind (·.dst)=some d->de E w (st.tm d) (a.tmps.getD d undef))
  (hK: ∀(v:af)(u:Value)(w':World)(E':Env),fb=⟨jL st.tm o.dst v,fb.hp⟩->eG E' H w'->ri E H w E' H w'->de E' w' v u->(∀k,E'.m k=E.m k∨(st.hp.length<=k/\k<fb.hp.length))->next (a.put o.dst u) w'):
  if Region.wanted o (yielded ops a.tmps)then o.wp cf.P a w next Q else next (a.put o.dst undef) w:=by
   obtain⟨VO,PY⟩:=qk (E:=E) (w:=w) (ops:=ops) (o:=o) (tm:=st.tm) (a:=a) hw;have Yc:(eL ops o st.tm=none∨eL ops o st.tm=some true)->Region.wanted o (yielded ops a.tmps)=true:=fun h=>h.elim VO (PY true)
   cases dN with
   |skip Ml he=>
    rw[if_neg (by rw[PY false Ml];simp)];subst he
    exact hK (.eT []) undef w E rfl s (Ext.refl _ _ _).tori n8 fun k=>.inl rfl
   |val v h' Ml hv he=>
    rw[if_pos (Yc Ml)];subst he
    have Xm:oB o.op=true:=by
     simp only[uM,Bool.or_eq_true]at hx;rcases hx with hx|hx
     ·exact hx
     ·obtain⟨f,args,hc,_⟩:=pZ hx hv;cases hc
    have fin:Gc cf.P E H w (execOp a.eval o) v st.hp.length h'.length->o.wp cf.P a w next Q:=by
     rintro ⟨u,w',E',gq,s',x',r',ja⟩
     unfold Oper.wp;rw[gq];exact hK v u w' E' rfl s' x' r' ja
    by_cases bG:eR cf.P o.op=true
    ·obtain⟨v',hq,aF⟩:=wh bG hv;cases hq
     obtain⟨u,w',E',gq,s',x',r',ja⟩:=(rp s Xm hr (aF H) (aa2 _) (fun k h1 h2=>by omega)).2;exact fin ⟨u,w',E',gq,s',x',r',fun k=>(ja k).elim .inl fun h=>by omega⟩
    ·rcases hp with Vy|h|⟨hl,aF⟩|⟨Pa,VK⟩
     ·exact fin (rp s Xm hr hv Vy hn).2
     ·exact absurd h bG
     ·obtain⟨v',qy,hq⟩:=gb.load (C:=C) (ops:=ops) (.val v h' Ml hv rfl) hl;rw[hv]at qy;cases qy
      obtain⟨u,w',E',gq,s',x',r',ja⟩:=(rp s Xm hr (aF _ hv) (aa2 _) (fun k h1 h2=>by omega)).2;exact fin ⟨u,w',E',gq,s',x',r',fun k=>(ja k).elim .inl fun h=>by omega⟩
     ·obtain⟨v',ob,hq,_⟩:=sN Pa hv;cases hq
      exact fin (yH s Xm hr hv (fun Em=>by rw[J9 Pa]at Em;cases Em) (fun ob' e=>by have e2:=List.append_cancel_left e;cases e2;exact VK _ _ hv) hn).2
   |call f args v h' Ml hv Pd hc he=>
    rw[if_pos (Yc Ml)];subst he;simp only[uM,Bool.or_eq_true]at hx
    have hpc:Et cf.M o.op=true:=by
     rcases hx with hx|hx
     ·exfalso;rcases nV hv with⟨_,_,hq⟩|⟨c,hq⟩|⟨x,hq⟩
      ·cases hq
      ·by_cases Em:lR o.op=true
       ·obtain⟨_,hq⟩:=oy Em hv;cases hq
       ·rw[hq]at hx Em;exact Em hx
      ·by_cases Em:lR o.op=true
       ·obtain⟨_,hq⟩:=oy Em hv;cases hq
       ·rw[hq]at hx Em;exact Em hx
     ·exact hx
    have bG: ¬eR cf.P o.op=true:=fun bG=>by obtain⟨_,hq,_⟩:=wh bG hv;cases hq
    have hp:h' <+: H∨eR cf.P o.op=true:=by
     rcases hp with h|h|⟨hl,_⟩|⟨Pa,_⟩
     ·exact .inl h
     ·exact .inr h
     rotate_left
     ·obtain⟨v',ob,hq,_⟩:=sN Pa hv;cases hq
     ·obtain⟨_,qy,_⟩:=gb.load (C:=C) (ops:=ops) (.call f args v h' Ml hv Pd hc rfl) hl;rw[hv]at qy;cases qy
    have aaA:gb cf C ops st o ⟨jL st.tm o.dst v,h'⟩:=.call f args v h' Ml hv Pd hc rfl;have qB:=aaA.Dm (by simp[uM,hpc]);have hpH:st.hp <+: H:=(qB.trans (hp.elim id fun h=>absurd h bG));obtain⟨f',dD,hq,ja⟩:=pZ hpc hv;cases hq
    obtain⟨vs,gq,lU,hb⟩:=nW hr hv;unfold Oper.wp;rw[gq];rcases Ha (ja Pd)with hm|hm
    ·refine Calls.mono (yK hC hm hc hb hpH s hg lU) fun e w1 he=>?_
     cases e with
     |returned u=>
      obtain⟨v',S1,hq,p1,p2,p3⟩:=he;cases hq
      exact hK _ u w1 _ rfl p1 p2.tori p3 fun k=>.inl rfl
     |panicked chain=>obtain⟨v',S1,u,hq,_⟩:=he;cases hq
     |outgrown=>exact he.elim
    ·refine Calls.mono (yL hC hm hc hb (hp.elim id fun h=>absurd h bG) hn s hg lU).2 fun e w1 he=>?_
     cases e with
     |returned u=>
      obtain⟨v',h'',E',hq,p1,p2,p3,p4⟩:=he;cases hq
      exact hK _ u w1 E' rfl p1 p2 p3 p4
     |panicked chain=>exact he.elim
     |outgrown=>exact he.elim
theorem NA(hC:jl cf C){E:Env}{w:World}{st fb:St}{o:Oper}{a:Act}{next:Act->World->Prop}{Q:Exit->Act->World->Prop}(dN:gb cf C ops st o fb)
  (s:eG E st.hp w) (hf:Full E st.hp) (hg:ug cf.G E.S w) (hr:iA cf.G E w st.tm a.eval o.op.operands)
  (hw: ∀j zD d,o.guard=some (j,zD)->(ops[j]?).bind (·.dst)=some d->de E w (st.tm d) (a.tmps.getD d undef))
  (hK: ∀(v:af)(u:Value)(w':World)(E':Env),fb=⟨jL st.tm o.dst v,fb.hp⟩->eG E' fb.hp w'->Full E' fb.hp->Ext E st.hp w E' fb.hp w'->de E' w' v u->next (a.put o.dst u) w'):
  if Region.wanted o (yielded ops a.tmps)then o.wp cf.P a w next Q else next (a.put o.dst undef) w:=by
   obtain⟨VO,PY⟩:=qk (E:=E) (w:=w) (ops:=ops) (o:=o) (tm:=st.tm) (a:=a) hw;have Yc:(eL ops o st.tm=none∨eL ops o st.tm=some true)->Region.wanted o (yielded ops a.tmps)=true:=fun h=>h.elim VO (PY true)
   cases dN with
   |skip Ml he=>
    rw[if_neg (by rw[PY false Ml];simp)];subst he
    exact hK (.eT []) undef w E rfl s hf (Ext.refl _ _ _) n8
   |val v h' Ml hv he=>
    rw[if_pos (Yc Ml)];subst he;obtain⟨u,w',E',gq,s',f',x',r'⟩:=AF s hf hr hv;unfold Oper.wp;rcases gq with gq|⟨gq,rfl⟩
    ·rw[gq];exact hK v u w' E' rfl s' f' x' r'
    ·rw[gq];exact hK v undef w' E' rfl s' f' x' r'
   |call f args v h' Ml hv Pd hc he=>
    rw[if_pos (Yc Ml)];subst he;obtain⟨vs,gq,lU,hb⟩:=nW hr hv;unfold Oper.wp;rw[gq];refine Calls.mono (hC f args st.hp _ hc E w vs hb s hf hg lU) fun e w1 he=>?_
    cases e with
    |returned u=>
     obtain⟨v',h'',E',hq,s',f',x',r'⟩:=he;cases hq
     exact hK _ u w1 E' rfl s' f' x' r'
    |panicked chain=>obtain⟨v',h'',E',u,hq,_⟩:=he;cases hq
    |outgrown=>exact he.elim
def rB(cM:Array Bool)(i:Nat):Prop:=cM.getD i false=true
structure P4(cf:eP)(ops:Array Oper)(tr:Nat->St)(E0:Env)(h0:aG)(w0:World)(N:Nat)(E:Env)(q:Nat)(cM:Array Bool)(a:Act)(w:World):Prop where
 size:cM.size=ops.size
 down: ∀j o,ops[j]?=some o->rB cM j-> ∀e∈o.after,Region.binds .any e=true->rB cM e.on
 Yd:q<=ops.size
 wl: ∀i o,i<q->ops[i]?=some o->uM cf.M o.op=false->rB cM i
 wq:q<ops.size->(∃o,ops[q]?=some o/\uM cf.M o.op=false)/\ ¬rB cM q
 qj:eG E (tr q).hp w
 full:Full E (tr q).hp
 nn: ∀i,i<q-> ¬rB cM i-> ∀k,(tr i).hp.length<=k->k<(tr (i+1)).hp.length->E.m k=none
 tm: ∀j t,j<=ops.size->(∀i o,i<j->ops[i]?=some o->o.dst=some t->rB cM i)->(∀i o,j<=i->ops[i]?=some o->o.dst=some t-> ¬rB cM i)->de E w ((tr j).tm t) (a.tmps.getD t undef)
 g:ug cf.G E.S w
 df:a.defers=[]
 sz:a.tmps.size=N
 ext:Ext E0 h0 w0 E (tr q).hp w
 mono: ∀m,m<q->(tr m).hp.length<=(tr (m+1)).hp.length
 VP:h0.length<=(tr 0).hp.length
theorem rB.set{cM:Array Bool}{i k:Nat}(hi:i<cM.size):rB (cM.setIfInBounds i true) k↔k=i∨rB cM k:=by
 unfold rB
 by_cases e:k=i
 ·subst e;simp[hi]
 ·simp[Array.getElem?_setIfInBounds,Ne.symm e,e]
theorem mK(ht: ∀i o,ops[i]?=some o->gb cf C ops (tr i) o (tr (i+1))){t:Nat}: ∀(n i:Nat),i+n<=ops.size->(∀k o,i<=k->k<i+n->ops[k]?=some o->o.dst≠some t)->(tr (i+n)).tm t=(tr i).tm t:=by
 intro n
 induction n with
 |zero=>intro i _ _;rfl
 |succ n ih=>
  intro i hle hd;have fK:i+n<ops.size:=by omega
  obtain⟨o,ho⟩: ∃o,ops[i+n]?=some o:=⟨ops[i+n],abb fK⟩;rw[show i+(n+1)=i+n+1 by omega,(ht _ o ho).P1 (hd _ o (by omega) (by omega) ho)];exact ih i (by omega) fun k o h1 h2=>hd k o h1 (by omega)
theorem tM(ht: ∀i o,ops[i]?=some o->gb cf C ops (tr i) o (tr (i+1))): ∀(n i:Nat),i+n<=ops.size->(∀k o,i<=k->k<i+n->ops[k]?=some o->uM cf.M o.op=true)->(tr i).hp <+:(tr (i+n)).hp:=by
 intro n
 induction n with
 |zero=>intro i _ _;exact aa2 _
 |succ n ih=>
  intro i hle hx;have fK:i+n<ops.size:=by omega
  obtain⟨o,ho⟩: ∃o,ops[i+n]?=some o:=⟨ops[i+n],abb fK⟩;exact(ih i (by omega) fun k o h1 h2=>hx k o h1 (by omega)).trans ((ht _ o ho).Dm (hx _ o (by omega) (by omega) ho))
theorem P5(M:FuncId->Mode)(ops:Array Oper): ∀(n i:Nat),i+n=ops.size-> ∃q,i<=q/\q<=ops.size/\(∀k o,i<=k->k<q->ops[k]?=some o->uM M o.op=true)/\(q<ops.size-> ∃o,ops[q]?=some o/\uM M o.op=false):=by
 intro n
 induction n with
 |zero=>intro i h;exact⟨i,aah _,by omega,fun k o h1 h2=>by omega,fun h=>by omega⟩
 |succ n ih=>
  intro i h;have fK:i<ops.size:=by omega
  obtain⟨o,ho⟩: ∃o,ops[i]?=some o:=⟨ops[i],abb fK⟩
  cases hx:uM M o.op with
  |false=>exact⟨i,aah _,by omega,fun k o h1 h2=>by omega,fun _=>⟨o,ho,hx⟩⟩
  |true=>
   obtain⟨q,h1,h2,h3,h4⟩:=ih (i+1) (by omega);refine⟨q,by omega,h2,fun k o' hk ZH iP=>?_,h4⟩
   by_cases e:k=i
   ·subst e;rw[ho]at iP;cases iP;exact hx
   ·exact h3 k o' (by omega) ZH iP
section
variable{E0:Env}{h0:aG}{w0:World}{N:Nat}
theorem NB(hS:Sound cf C)(hC:jl cf C)(eb:xG cf.P cf.M ops=true)(hd: ∀o∈ops.toList,∀d,o.dst=some d->d<N)(ht: ∀i o,ops[i]?=some o->gb cf C ops (tr i) o (tr (i+1)))
  (Dp: ∀j o,ops[j]?=some o->xw cf.M o.op=true->(tr (j+1)).hp=(tr j).hp∨nH cf (tr (j+1)) (((m6 ops.toList [])[j]?).getD 0) (ops.toList.take j) 0)
  {E:Env} {q:Nat} {cM:Array Bool} {a:Act} {w:World} (inv:P4 cf ops tr E0 h0 w0 N E q cM a w) {i:Nat} (hi:i∈Region.ready .any ops cM) {K:Act->World->Prop} {Q:Exit->Act->World->Prop}
  (hK: ∀(E':Env)(q':Nat)(a':Act)(w':World),P4 cf ops tr E0 h0 w0 N E' q' (cM.setIfInBounds i true) a' w'->K a' w'):wpOp cf.P ops Q i K a w:=by
   obtain⟨SW,sP⟩:=yO eb;obtain⟨SX,o,ho,aF⟩:=mem_ready.1 hi;have Xn:i<ops.size:=(aaR.1 ho).1;have nK:i<cM.size:=by rw[inv.size];exact Xn
   have Mj: ¬rB cM i:=by
    unfold rB;simp[nK]at SX⊢;exact SX
   have UG: ∀o',ops[i]?=some o'-> ∀e∈o'.after,Region.binds .any e=true->rB cM e.on:=fun o' iP e he hb=>by rw[ho]at iP;cases iP;exact aF e he hb
   -- what comes before i is listed; what comes behind a listed one is not i
   have ZI: ∀k,Dn ops k i->rB cM k:=fun k hk=>(hk.cM (L:=rB cM) inv.down).2 UG;have Ye: ∀k,Dn ops i k-> ¬rB cM k:=fun k hk hl=>Mj ((hk.cM (L:=rB cM) inv.down).1 hl);have rq: ∀k,rB (cM.setIfInBounds i true) k↔k=i∨rB cM k:=fun k=>rB.set nK;have Mm: ∀k,k<ops.size-> ∃o',ops[k]?=some o':=fun k hk=>⟨ops[k],abb hk⟩
   -- the operands
   have look: ∀t∈o.looksAt ops,de E w ((tr i).tm t) (a.tmps.getD t undef):=by
    intro t Mn;refine inv.tm i t (by omega) (fun k o' hk iP nD=>?_) (fun k o' hk iP nD hl=>?_)
    ·rcases sP k i o' o hk iP ho with h|h
     ·exact ZI k h
     ·exact absurd Mn ((Oper.apart_spec h.1).1 t nD)
    ·by_cases e:k=i
     ·subst e;exact Mj hl
     ·rcases sP i k o o' (by omega) ho iP with h|h
      ·exact Ye k h hl
      ·exact absurd Mn ((Oper.apart_spec h.1).2.2 t nD)
   have Yf:iA cf.G E w (tr i).tm a.eval o.op.operands:=by
    refine⟨?_,fun _=>rfl⟩;intro x hx v hv
    cases x with
    |tmp t=>
     simp only[ev]at hv;cases hv
     exact look t (List.mem_append_left _ (List.mem_filterMap.2 ⟨.tmp t,by simpa using hx,rfl⟩))
    |const c=>exact .fJ (zO hv)
    |global g=>
     simp only[ev,nM]at hv;obtain⟨u,hu,rfl⟩:=hv
     exact .fJ (inv.g g u hu)
    |func f=>
     simp only[ev]at hv;cases hv
     exact .func (.func f) [] [] #[] #[] rfl rfl (fun i c v hc=>by simp at hc) (fun i c v hc=>by simp at hc)
   have Yg: ∀j zD d,o.guard=some (j,zD)->(ops[j]?).bind (·.dst)=some d->de E w ((tr i).tm d) (a.tmps.getD d undef):=by
    intro j zD d hg NC;exact look d (List.mem_append_right _ (by simp[hg,NC]))
   have hdi: ∀d,o.dst=some d->d<N:=hd o (by simpa using Array.mem_of_getElem? ho)
   -- the temporaries behind it
   have UH: ∀(v:af)(u:Value)(w':World)(E':Env),tr (i+1)=⟨jL (tr i).tm o.dst v,(tr (i+1)).hp⟩->(∀x y,de E w x y->de E' w' x y)->de E' w' v u->
     ∀j t,j<=ops.size->(∀k o',k<j->ops[k]?=some o'->o'.dst=some t->rB (cM.setIfInBounds i true) k)->(∀k o',j<=k->ops[k]?=some o'->o'.dst=some t-> ¬rB (cM.setIfInBounds i true) k)->
      de E' w' ((tr j).tm t) ((a.put o.dst u).tmps.getD t undef):=by
       intro v u w' E' dN um xA j t hj h1 h2
       by_cases Xo:o.dst=some t
       ·have yP:i<j:=Nat.lt_of_not_le fun hle=>h2 i o hle ho Xo ((rq i).2 (.inl rfl))
        have pY:(tr j).tm t=(tr (i+1)).tm t:=by
         have:=mK ht (t:=t) (j-(i+1)) (i+1) (by omega) fun k o' eg jS iP nD=>by
          have hl:=h1 k o' (by omega) iP nD;rcases(rq k).1 hl with h|h
          ·omega
          ·rcases sP i k o o' (by omega) ho iP with hp|hp
           ·exact Ye k hp h
           ·exact(Oper.apart_spec hp.1).2.1 t Xo nD
         rw[show i+1+(j-(i+1))=j by omega]at this;exact this
        rw[pY,dN];have fK:=hdi t Xo;simp only[jL,fX,Xo,if_true,Act.put];simpa[Array.getElem?_setIfInBounds,inv.sz,fK]using xA
       ·have hold:de E w ((tr j).tm t) (a.tmps.getD t undef):=inv.tm j t hj (fun k o' hk iP nD=>by
          rcases(rq k).1 (h1 k o' hk iP nD)with h|h
          ·subst h;rw[ho]at iP;cases iP;exact absurd nD Xo
          ·exact h) (fun k o' hk iP nD hl=>h2 k o' hk iP nD ((rq k).2 (.inr hl)))
        have pY:(a.put o.dst u).tmps.getD t undef=a.tmps.getD t undef:=by
         cases hq:o.dst with
         |none=>rfl
         |some d=>
          have:d≠t:=fun e=>Xo (by rw[hq,e]);simp[Act.put,Array.getElem?_setIfInBounds,this]
        rw[pY];exact um _ _ hold
   have Mo: ∀j o',ops[j]?=some o'->rB (cM.setIfInBounds i true) j-> ∀e∈o'.after,Region.binds .any e=true->rB (cM.setIfInBounds i true) e.on:=by
    intro j o' iP hl e he hb;refine(rq _).2 (.inr ?_);rcases(rq j).1 hl with h|h
    ·subst h;exact UG o' iP e he hb
    ·exact inv.down j o' iP h e he hb
   -- an operation with its names on the way,that is not listed and stands before q,has no writer behind it before q (loads that are looked at again apart)
   have seg: ∀k o',k<q->ops[k]?=some o'-> ¬rB cM k->eR cf.P o'.op=false->j8 o'=false-> ∀m UI,k<=m->m<q->ops[m]?=some UI->uM cf.M UI.op=true:=by
    intro k o' hk iP UJ bG aaB m UI hkm hmq Yh
    cases hx:uM cf.M UI.op with
    |true=>rfl
    |false=>
     exfalso;have SY:=inv.wl m UI hmq Yh hx
     by_cases e:k=m
     ·subst e;exact UJ SY
     ·rcases sP k m o' UI (by omega) iP Yh with h|⟨_,h⟩
      ·exact UJ ((h.cM (L:=rB cM) inv.down).1 SY)
      ·have Yi:eR cf.P UI.op=false:=by
        cases hf:eR cf.P UI.op with
        |false=>rfl
        |true=>simp[uM,mJ hf]at hx
       rcases h with h|h|h|h
       ·rw[bG]at h;cases h
       ·rw[Yi]at h;cases h
       ·rw[hx]at h;cases h.2
       ·have:=h.late;rw[aaB]at this;cases this
   -- what a load that is not listed gives behind the writers ahead of q
   have chain: ∀n a,a+n<=q->(tr a).hp.length<=(tr (a+n)).hp.length:=by
    intro n
    induction n with
    |zero=>intro a _;exact aah _
    |succ n ih=>intro a ha;exact aa3 (ih a (by omega)) (inv.mono (a+n) (by omega))
   -- what a maker that is not listed made is there behind the writers ahead of q
   have Yj:mB o=true-> ∀ob,(tr (i+1)).hp=(tr i).hp++[ob]-> ∀n,i+1+n<=q->(tr (i+1+n)).hp[(tr i).hp.length]?=some ob:=by
    intro hm ob VK n;obtain⟨v0,ZJ,xF,VQ⟩:=(ht i o ho).mk hm;have e0:ZJ=ob:=by rw[VQ]at VK;have:=List.append_cancel_left VK;cases this;rfl
    subst e0;obtain⟨v1,ob1,AO,tN⟩:=sN hm xF;have e1:=congrArg (fun x=>match x with|JD.val v h=>(v,h)|_=>(.nil,[])) AO;simp only[Prod.mk.injEq]at e1;obtain⟨e1,e2⟩:=e1;have e2:=List.append_cancel_left e2;cases e2
    subst e1
    induction n with
    |zero=>
     intro _;rw[Nat.add_zero,VK,aaQ (aah _)]
     simp
    |succ n ih=>
     intro hle;have jf:=ih (by omega);have fK:i+1+n<ops.size:=by have:=inv.Yd;omega
     obtain⟨oj,SZ⟩:=Mm _ fK;have GZ:=ht _ oj SZ;rw[show i+1+(n+1)=i+1+n+1 by omega]
     cases Ta:uM cf.M oj.op with
     |true=>exact rA (GZ.Dm Ta) jf
     |false=>
      have SY:=inv.wl _ oj (by omega) SZ Ta;rcases sP i _ o oj (by omega) ho SZ with h|⟨_,h⟩
      ·exact absurd SY (Ye _ h)
      ·have Yi:eR cf.P oj.op=false:=by
        cases hf:eR cf.P oj.op with
        |false=>rfl
        |true=>simp[uM,mJ hf]at Ta
       rcases h with h|h|h|h
       ·rw[J8 hm]at h;cases h
       ·rw[Yi]at h;cases h
       ·rw[Ta]at h;cases h.2
       ·rcases Dp _ oj SZ h.fc with h1|h1
        ·rw[h1];exact jf
        ·have Dq:=AN _ _ h1 i o (by rw[aby,if_pos (by omega)];simpa using ho) h.late (by rw[aaK];exact h.un);obtain⟨d,Tb,ZK⟩:=h.self;unfold Ej at Dq;simp only[Tb,hm]at Dq
         have P6: ∀t∈o.looksAt ops,(tr (i+1+n+1)).tm t=(tr i).tm t:=by
          intro t Mn
          have:=mK ht (t:=t) (n+2) i (by omega) fun k o' h1 h2 iP nD=>by
           by_cases e:k=i
           ·subst e;rw[ho]at iP;cases iP;rw[Tb]at nD;cases nD;exact ZK Mn
           ·exact(h.calm k o' (by omega) (by omega) iP t nD).1 Mn
          rw[show i+(n+2)=i+1+n+1 by omega]at this;exact this
         have Hd:(tr (i+1+n+1)).tm d=v0:=by
          have:=mK ht (t:=d) (n+1) (i+1) (by omega) fun k o' h1 h2 iP nD=>(h.calm k o' (by omega) (by omega) iP d nD).2 Tb;rw[show i+1+(n+1)=i+1+n+1 by omega]at this;rw[this,VQ];simp[jL,fX,Tb]
         unfold Px at Dq;rw[P3 hm P6]at Dq;rcases tN with⟨e3,e4⟩|⟨m,e3,e4⟩
         ·rw[e4]at Dq;obtain⟨k,g1,g2⟩:=Dq;rw[Hd,e3]at g1;cases g1
          exact g2
         ·rw[e4]at Dq;obtain⟨k,g1,g2⟩:=Dq;rw[Hd,e3]at g1;cases g1
          exact g2
   have Yk:gB o=true-> ∀n,i+1+n<=q-> ∀v,aV cf (tr i).tm (tr i).hp o.op=some (.val v (tr i).hp)->aV cf (tr i).tm (tr (i+1+n)).hp o.op=some (.val v (tr (i+1+n)).hp):=by
    intro hl n
    have hnm:mB o=false:=by
     cases hm:mB o with
     |false=>rfl
     |true=>rw[J7 hm]at hl;cases hl
    have dN:=(ht i o ho).load hl;obtain⟨v0,xF,VQ⟩:=dN;have Yl:(tr (i+1)).hp=(tr i).hp:=by rw[VQ]
    induction n with
    |zero=>intro _ v hv;rw[Nat.add_zero,Yl];exact hv
    |succ n ih=>
     intro hle v hv;have jf:=ih (by omega) v hv;have fK:i+1+n<ops.size:=by have:=inv.Yd;omega
     obtain⟨oj,SZ⟩:=Mm _ fK;have GZ:=ht _ oj SZ;rw[show i+1+(n+1)=i+1+n+1 by omega]
     cases Ta:uM cf.M oj.op with
     |true=>exact Ny hl (GZ.Dm Ta) jf
     |false=>
      have SY:=inv.wl _ oj (by omega) SZ Ta;rcases sP i _ o oj (by omega) ho SZ with h|⟨_,h⟩
      ·exact absurd SY (Ye _ h)
      ·have Yi:eR cf.P oj.op=false:=by
        cases hf:eR cf.P oj.op with
        |false=>rfl
        |true=>simp[uM,mJ hf]at Ta
       rcases h with h|h|h|h
       ·rw[Ev hl]at h;cases h
       ·rw[Yi]at h;cases h
       ·rw[Ta]at h;cases h.2
       ·rcases Dp _ oj SZ h.fc with h1|h1
        ·rw[h1];exact jf
        ·have Dq:=AN _ _ h1 i o (by rw[aby,if_pos (by omega)];simpa using ho) h.late (by rw[aaK];exact h.un);obtain⟨d,Tb,ZK⟩:=h.self;unfold Ej at Dq;simp only[Tb,hnm]at Dq
         have P6: ∀t∈o.looksAt ops,(tr (i+1+n+1)).tm t=(tr i).tm t:=by
          intro t Mn
          have:=mK ht (t:=t) (n+2) i (by omega) fun k o' h1 h2 iP nD=>by
           by_cases e:k=i
           ·subst e;rw[ho]at iP;cases iP;rw[Tb]at nD;cases nD;exact ZK Mn
           ·exact(h.calm k o' (by omega) (by omega) iP t nD).1 Mn
          rw[show i+(n+2)=i+1+n+1 by omega]at this;exact this
         have Hd:(tr (i+1+n+1)).tm d=v:=by
          have:=mK ht (t:=d) (n+1) (i+1) (by omega) fun k o' h1 h2 iP nD=>(h.calm k o' (by omega) (by omega) iP d nD).2 Tb;rw[show i+1+(n+1)=i+1+n+1 by omega]at this;rw[this,VQ];rw[hv]at xF;cases xF
          simp[jL,fX,Tb]
         rw[Hd]at Dq;exact SV hl P6 Dq
   unfold wpOp;simp only[ho]
   have pick: ∀{A B:Prop},(if Region.wanted o (yielded ops a.tmps)then A else B)-> ∀D:Prop,if Region.wanted o (yielded ops a.tmps)then A∨D else B:=by
    intro A B h D;split
    ·rename_i hw;rw[if_pos hw]at h;exact .inl h
    ·rename_i hw;rw[if_neg hw]at h;exact h
   refine pick ?_ _
   cases hx:uM cf.M o.op with
   |true=>
    have P7:eR cf.P o.op=true∨i<q:=by
     by_cases Pf:i<q
     ·exact .inr Pf
     ·left
      have hqn:q<ops.size:=by omega
      obtain⟨⟨oq,Pg,Ew⟩,Ym⟩:=inv.wq hqn
      by_cases e:q=i
      ·subst e;rw[ho]at Pg;cases Pg;rw[hx]at Ew;cases Ew
      ·rcases sP q i oq o (by omega) Pg ho with h|⟨_,h⟩
       ·exact absurd (ZI q h) Ym
       ·rcases h with h|h|h|h
        ·rw[show uM cf.M oq.op=true by simp[uM,mJ h]]at Ew;cases Ew
        ·exact h
        ·rw[h.1]at Ew;cases Ew
        ·rw[AL h.late]at Ew;cases Ew
    have qB:(tr (i+1)).hp <+:(tr q).hp∨eR cf.P o.op=true∨(gB o=true/\ ∀v,aV cf (tr i).tm (tr i).hp o.op=some (.val v (tr i).hp)->aV cf (tr i).tm (tr q).hp o.op=some (.val v (tr q).hp))∨
      (mB o=true/\ ∀v ob,aV cf (tr i).tm (tr i).hp o.op=some (.val v ((tr i).hp++[ob]))->(tr q).hp[(tr i).hp.length]?=some ob):=by
       cases hf:eR cf.P o.op with
       |true=>exact .inr (.inl rfl)
       |false=>
        have Pf:i<q:=P7.elim (fun h=>by rw[hf]at h;cases h) id
        cases zQ:gB o with
        |true=>
         refine .inr (.inr (.inl ⟨rfl,fun v hv=>?_⟩));have:=Yk zQ (q-(i+1)) (by omega) v hv;rw[show i+1+(q-(i+1))=q by omega]at this
         exact this
        |false=>
        cases Xp:mB o with
        |true=>
         refine .inr (.inr (.inr ⟨rfl,fun v ob hv=>?_⟩));obtain⟨v0,ZJ,xF,VQ⟩:=(ht i o ho).mk Xp;rw[hv]at xF
         have e1:ZJ=ob:=by
          have:=Option.some.inj xF;have e2:=congrArg (fun x=>match x with|JD.val v h=>h|_=>[]) this;have e3:=List.append_cancel_left e2;cases e3
          rfl
         subst e1;have:=Yj Xp ZJ (by rw[VQ]) (q-(i+1)) (by omega);rw[show i+1+(q-(i+1))=q by omega]at this
         exact this
        |false=>
        left
        have zQ:j8 o=false:=by simp[j8,zQ,Xp]
        have:=tM ht (q-(i+1)) (i+1) (by have:=inv.Yd;omega) fun k o' h1 h2 iP=>seg i o Pf ho Mj hf zQ k o' (by omega) (by omega) iP;rw[show i+1+(q-(i+1))=q by omega]at this;exact this
    have Ex: ∀k,(tr i).hp.length<=k->k<(tr (i+1)).hp.length->i<q/\eR cf.P o.op=false/\gB o=false:=by
     intro k h1 h2
     cases hf:eR cf.P o.op with
     |true=>rw[(ht i o ho).free hf]at h2;omega
     |false=>
      cases zQ:gB o with
      |true=>
       obtain⟨_,_,hq⟩:=(ht i o ho).load zQ;rw[show(tr (i+1)).hp=(tr i).hp by rw[hq]]at h2
       omega
      |false=>exact⟨P7.elim (fun h=>by rw[hf]at h;cases h) id,rfl,rfl⟩
    refine Nz hS (ht i o ho) hx qB inv.qj inv.g (fun k h1 h2=>inv.nn i (Ex k h1 h2).1 Mj k h1 h2) Yf Yg fun v u w' E' dN s' x' r' ja=>?_
    have hi1:i<q->(tr (i+1)).hp.length<=(tr q).hp.length:=fun Pf=>by
     have:=chain (q-(i+1)) (i+1) (by omega);rw[show i+1+(q-(i+1))=q by omega]at this;exact this
    refine hK E' q _ _ ⟨by simpa using inv.size,Mo,inv.Yd,fun k o' hk iP ZL=>(rq k).2 (.inr (inv.wl k o' hk iP ZL)),fun hq=>?_,s',fun k hk=>?_,fun k ZH UJ j h1 h2=>?_,UH v u w' E' dN (fun x y h=>h.SD x' inv.qj) r',inv.g.mono x'.S fun b hb=>x'.PE inv.qj hb,by rw[put_defers];exact inv.df,by rw[qC];exact inv.sz,inv.ext.PD x' fun id g1 g2=>?_,inv.mono,inv.VP⟩
    rotate_left 3
    ·rcases ja id with h|⟨h1,h2⟩
     ·exact h.trans g2
     ·exfalso;obtain⟨Pf,_,_⟩:=Ex id h1 h2;have:=chain i 0 (by omega);rw[aaK]at this;have:=inv.VP;omega
    ·obtain⟨⟨oq,Pg,Ew⟩,Ym⟩:=inv.wq hq;refine⟨⟨oq,Pg,Ew⟩,fun hl=>?_⟩;rcases(rq q).1 hl with h|h
     ·subst h;rw[ho]at Pg;cases Pg;rw[hx]at Ew;cases Ew
     ·exact Ym h
    ·rcases ja k with h|⟨h1,h2⟩
     ·rw[h];exact inv.full k hk
     ·exfalso;obtain⟨Pf,hf,zQ⟩:=Ex k h1 h2;have:=hi1 Pf;omega
    ·have Tc: ¬rB cM k:=fun h=>UJ ((rq k).2 (.inr h));have hki:k≠i:=fun e=>UJ ((rq k).2 (.inl e));rcases ja j with h|⟨g1,g2⟩
     ·rw[h];exact inv.nn k ZH Tc j h1 h2
     ·exfalso;obtain⟨Pf,ZM,aeF⟩:=Ex j g1 g2;rcases Nat.lt_or_gt_of_ne hki with fK|fK
      ·have:=chain (i-(k+1)) (k+1) (by omega);rw[show k+1+(i-(k+1))=i by omega]at this;omega
      ·have:=chain (k-(i+1)) (i+1) (by omega);rw[show i+1+(k-(i+1))=k by omega]at this
       omega
   |false=>
    have bG:eR cf.P o.op=false:=by
     cases hf:eR cf.P o.op with
     |false=>rfl
     |true=>simp[uM,mJ hf]at hx
    have Pf:i=q:=by
     rcases Nat.lt_trichotomy i q with h|h|h
     ·exact absurd (inv.wl i o h ho hx) Mj
     ·exact h
     ·exfalso;obtain⟨⟨oq,Pg,Ew⟩,Ym⟩:=inv.wq (by omega)
      have hfq:eR cf.P oq.op=false:=by
       cases hf:eR cf.P oq.op with
       |false=>rfl
       |true=>simp[uM,mJ hf]at Ew
      rcases sP q i oq o h Pg ho with h|⟨_,h⟩
      ·exact Ym (ZI q h)
      ·rcases h with h|h|h|h
       ·rw[hfq]at h;cases h
       ·rw[bG]at h;cases h
       ·rw[hx]at h;cases h.2
       ·rw[AL h.late]at Ew;cases Ew
    have Td: ∀k o',i<k->ops[k]?=some o'->eR cf.P o'.op=false-> ¬rB cM k:=by
     intro k o' hk iP hf;rcases sP i k o o' hk ho iP with h|⟨_,h⟩
     ·exact Ye k h
     ·rcases h with h|h|h|h
      ·rw[bG]at h;cases h
      ·rw[hf]at h;cases h
      ·rw[hx]at h;cases h.1
      ·rw[AL h.late]at hx;cases hx
    have Te: ∀k o',k<i->ops[k]?=some o'->eR cf.P o'.op=false->j8 o'=false->rB cM k:=by
     intro k o' hk iP hf zQ;rcases sP k i o' o hk iP ho with h|⟨_,h⟩
     ·exact ZI k h
     ·rcases h with h|h|h|h
      ·rw[hf]at h;cases h
      ·rw[bG]at h;cases h
      ·rw[hx]at h;cases h.2
      ·have:=h.late;rw[zQ]at this;cases this
    have hsi:eG E (tr i).hp w:=by rw[Pf];exact inv.qj
    have ZM:Full E (tr i).hp:=by rw[Pf];exact inv.full
    refine NA hC (ht i o ho) hsi ZM inv.g Yf Yg fun v u w' E' dN s' f' x' r'=>?_;obtain⟨q',AO,qD,Cp,Xq⟩:=P5 cf.M ops (ops.size-(i+1)) (i+1) (by omega)
    have qB:(tr (i+1)).hp <+:(tr q').hp:=by
     have:=tM ht (q'-(i+1)) (i+1) (by omega) fun k o' h1 h2 iP=>Cp k o' h1 (by omega) iP;rw[show i+1+(q'-(i+1))=q' by omega]at this;exact this
    have yQ:Ext E (tr i).hp w E' (tr q').hp w':=⟨⟨x'.S,x'.SN,x'.mem,x'.m,x'.new,aa3 x'.len qB.length_le,x'.size,x'.os,x'.tape,x'.output⟩,x'.fresh⟩;have aaF:Ext E0 h0 w0 E (tr i).hp w:=by rw[Pf];exact inv.ext
    refine hK E' q' _ _ ⟨by simpa using inv.size,Mo,qD,fun k o' hk iP ZL=>(rq k).2 ?_,fun hq=>?_,s'.more qB f',fun k hk=>f' k (aa3 qB.length_le hk),fun k ZH UJ j h1 h2=>?_,UH v u w' E' dN (fun x y h=>h.ext x' hsi) r',inv.g.ext hsi x',by rw[put_defers];exact inv.df,by rw[qC];exact inv.sz,aaF.trans yQ,fun m hm=>?_,inv.VP⟩
    rotate_left 3
    ·rcases Nat.lt_trichotomy m i with h|h|h
     ·exact inv.mono m (by omega)
     ·subst h;exact x'.len
     ·obtain⟨om,hom⟩:=Mm m (by omega);exact((ht m om hom).Dm (Cp m om (by omega) hm hom)).length_le
    ·rcases Nat.lt_trichotomy k i with h|h|h
     ·exact .inr (inv.wl k o' (by omega) iP ZL)
     ·exact .inl h
     ·have:=Cp k o' (by omega) hk iP;rw[ZL]at this;cases this
    ·obtain⟨oq,Pg,Ew⟩:=Xq hq;refine⟨⟨oq,Pg,Ew⟩,fun hl=>?_⟩;rcases(rq q').1 hl with h|h
     ·omega
     ·refine Td q' oq (by omega) Pg ?_ h
      cases hf:eR cf.P oq.op with
      |false=>rfl
      |true=>simp[uM,mJ hf]at Ew
    ·have Tc: ¬rB cM k:=fun h=>UJ ((rq k).2 (.inr h));have hki:k≠i:=fun e=>UJ ((rq k).2 (.inl e));obtain⟨ok,VS⟩:=Mm k (by omega)
     cases JW:eR cf.P ok.op with
     |true=>rw[(ht k ok VS).free JW]at h2;omega
     |false=>
      cases Yn:gB ok with
      |true=>
       obtain⟨_,_,hq⟩:=(ht k ok VS).load Yn;rw[show(tr (k+1)).hp=(tr k).hp by rw[hq]]at h2
       omega
      |false=>
      rcases Nat.lt_or_gt_of_ne hki with fK|fK
      ·cases Xm:mB ok with
       |false=>exact absurd (Te k ok fK VS JW (by simp[j8,Yn,Xm])) Tc
       |true=>
        have:=chain (i-(k+1)) (k+1) (by omega);rw[show k+1+(i-(k+1))=i by omega]at this;exact x'.fresh j (by omega) (inv.nn k (by omega) Tc j h1 h2)
      ·have:=(tM ht (k-(i+1)) (i+1) (by omega) fun m o' h1 h2 iP=>Cp m o' h1 (by omega) iP).length_le;rw[show i+1+(k-(i+1))=k by omega]at this;exact f' j (by omega)
end
end
end Go.Am

/- Ranges over functions: rounds and calls. -/
import Derived.Test.YtfepbikckfehlaaGreatGH17
set_option linter.unusedVariables false
set_option linter.unusedSimpArgs false
set_option maxHeartbeats 4000000
namespace Go.Am
open Go
theorem Rw{N:Nat}{E:Env}{w:World}: ∀(ps:List Tmp)(as:List af)(vs:List Value)(tm:Nat->af)(t:Array Value),as.length=vs.length->(∀(i:Nat)(c:af)(v:Value),as[i]?=some c->vs[i]?=some v->ck E w c v)->
  kp E w tm {tmps:=t,defers:=[]}->t.size=N->(∀p∈ps,p<N)->
  kp E w ((ps.zip as).foldl (fun tm pa=>eU tm pa.1 pa.2) tm) {tmps:=(ps.zip vs).foldl (fun t(p,v)=>t.setIfInBounds p v) t,defers:=[]}/\((ps.zip vs).foldl (fun t(p,v)=>t.setIfInBounds p v) t).size=N:=by
   intro ps
   induction ps with
   |nil=>intro as vs tm t _ _ ht hN _;exact⟨by simpa using ht,by simpa using hN⟩
   |cons p ps ih=>
    intro as vs tm t hl hr ht hN hp
    cases as with
    |nil=>cases vs with
     |nil=>exact⟨by simpa using ht,by simpa using hN⟩
     |cons v vs=>simp at hl
    |cons a as=>cases vs with
     |nil=>simp at hl
     |cons v vs=>
      have h0:=hr 0 a v rfl rfl;have:=ih as vs (eU tm p a) (t.setIfInBounds p v) (by simpa using hl) (fun i c u h1 h2=>hr (i+1) c u (by simpa using h1) (by simpa using h2)) (kp.put (dst:=some p) ht h0 fun d hd=>by cases hd;rw[hN];exact hp p (by simp)) (by simpa using hN) fun q hq=>hp q (by simp[hq]);simpa using this
theorem Du{cf:dS}(hC:ia cf (call cf)){c:Lp}{args:List af}{h:aC}{g:LS}{Q:af->aC->LS->Prop}{N:Nat}(hg:g.st= .ready)(hl:args.length=c.rc.params.size)(hN:N<=c.rc.tmps.size)(hp: ∀p∈c.rc.params.toList,p<N)(h1:iW N c.rc.assign=true)(h2:iW N c.rc.body=true)
  (hw: ∀B,wj ⟨cf,fun _=>false,some c,N,B⟩ c.rc.assign (fun o=>match o with
   | .norm tm h g1=>g1.st= .ready/\wj ⟨cf,fun _=>false,some c,N,B⟩ c.rc.body (fun o=>match o with
    | .norm _ h _=>Q (.bool true) h ⟨.ready,none⟩
    | .ret _ h _=>Q (.bool false) h ⟨.done,some .ret⟩
    | .exit id _ h _=>Q (.bool false) h ⟨.done,some (.exit id)⟩) tm h ⟨.busy,g1.l7⟩
   |_=>False) ((c.rc.params.toList.zip args).foldl (fun tm pa=>eU tm pa.1 pa.2) c.Fg) h g):nj cf c args h g Q:=by
    refine⟨hl,fun E w vs s f Ui hr Kf=>?_⟩;have hF:KI (Fence.wide.inRound c.l):=⟨some c.l,rfl⟩;obtain⟨t1,t2⟩:=Rw (N:=c.rc.tmps.size) c.rc.params.toList args vs.toList c.Fg c.rc.tmps (by simpa using hr.1) (fun i a v h1 h2=>hr.2 i a v h1 (by simpa using h2)) Kf.2.2.2 rfl (fun p TN=>Nat.lt_of_lt_of_le (hp p TN) hN)
    have hz:(c.rc.params.zip vs).foldl (fun t(p,v)=>t.setIfInBounds p v) c.rc.tmps=(c.rc.params.toList.zip vs.toList).foldl (fun t(p,v)=>t.setIfInBounds p v) c.rc.tmps:=by
     rw[<-Array.foldl_toList,Array.toList_zip]
    rw[hz];refine roundIn_of_wpIn trivial ?_;refine wpIn_mono (tG (y:=⟨cf,fun _=>false,some c,N,w.heap.size⟩) hF (fun h=>by cases h) hC (N:=c.rc.tmps.size) hN c.rc.assign _ _ h g (hw w.heap.size) (tF hN _ h1) E w _ ⟨s,f,Ui,t1,trivial,Kf,fun d hd=>by simp at hd,aB _,fun d hd=>by simp at hd⟩ t2) fun e a1 w1 he=>?_
    cases e with
    |exit id=>obtain⟨_,_,_,_,hq,_⟩:=he;exact hq.elim
    |ret=>obtain⟨_,_,_,_,hq,_⟩:=he;exact hq.elim
    |panic ch=>exact he.elim
    |goto l=>exact he.elim
    |outgrown=>exact he.elim
    |normal=>
     obtain⟨tm1,Ew,g1,E1,⟨cY,hq⟩,qU,x1,hN1⟩:=he;have HD:w1.heap[c.l]?=some (.loop {c.rc with state:=g1.st,pending:=g1.l7}):=qU.ln.1;refine⟨_,run_beginRound HD cY,?_⟩;obtain⟨s2,r2⟩:=qU.oJ.oN (.loop {c.rc with state:=.busy,pending:=g1.l7}) qU.ln.2.1 qU.ln.2.2.1;have x2:ij (some c) E1 Ew w1 E1 Ew (w1.putObj c.l (.loop {c.rc with state:=.busy,pending:=g1.l7})):=ij.oN _
     have CY:qT ⟨cf,fun _=>false,some c,N,w.heap.size⟩ E1 (w1.putObj c.l (.loop {c.rc with state:=.busy,pending:=g1.l7})) tm1 Ew ⟨.busy,g1.l7⟩ a1:=
      ⟨s2,qU.full,qU.O7.Dm qU.oJ qU.ln x2,qU.tm.Dm qU.oJ qU.ln x2,qU.df.ext x2 qU.nl,qU.ln.oN qU.oJ,qU.nl,bw qU.bl.1 x2.size,qU.bl.2⟩
     refine wpIn_mono (tG (y:=⟨cf,fun _=>false,some c,N,w.heap.size⟩) hF (fun h=>by cases h) hC (N:=c.rc.tmps.size) hN c.rc.body _ _ Ew _ hq (tF hN _ h2) E1 _ _ CY hN1) fun e a3 w3 he=>?_
     have fin: ∀(zL:Option Code)(Ta:Nat->af)(Nv:aC)(g3:LS)(E3:Env),qT ⟨cf,fun _=>false,some c,N,w.heap.size⟩ E3 w3 Ta Nv g3 a3->ij (some c) E1 Ew (w1.putObj c.l (.loop {c.rc with state:=.busy,pending:=g1.l7})) E3 Nv w3->Q (.bool zL.isNone) Nv ⟨if zL.isNone then .ready else .done,zL⟩->
       ∃v w',(Instr.endRound c.l zL).run cf.P w3= .ok v w'/\uL (some c) E h w Q (.returned v) w':=by
        intro zL Ta Nv g3 E3 wo x3 A2;have X7:w3.heap[c.l]?=some (.loop {c.rc with state:=g3.st,pending:=g3.l7}):=wo.ln.1;refine⟨_,_,run_endRound zL X7,.bool zL.isNone,Nv,⟨if zL.isNone then .ready else .done,zL⟩,E3,A2,(wo.oJ.oN _ wo.ln.2.1 wo.ln.2.2.1).1,wo.full,?_,.eG (.bool _),wo.ln.oN (g':=⟨if zL.isNone then .ready else .done,zL⟩) wo.oJ⟩;exact((x1.trans x2).trans x3).trans (ij.oN _)
     cases e with
     |normal=>obtain⟨Ta,Nv,g3,E3,A2,wo,x3,hN3⟩:=he;exact fin none Ta Nv g3 E3 wo x3 A2
     |ret=>obtain⟨Ta,Nv,g3,E3,A2,wo,x3,hN3⟩:=he;exact fin (some .ret) Ta Nv g3 E3 wo x3 A2
     |exit id=>obtain⟨Ta,Nv,g3,E3,A2,wo,x3,hN3⟩:=he;exact fin (some (.exit id)) Ta Nv g3 E3 wo x3 A2
     |panic ch=>exact he.elim
     |goto l=>exact he.elim
     |outgrown=>exact he.elim
theorem Dv{P:Program}{fn:Func}{tmps:Array Value}{R:Ending->World->Prop}{Γ:Option Lp}{E0 E:Env}{h0 h:aC}{w0:World}: ∀(ds:List Deferred)(w:World),oS E w ds->(∀d∈ds,∀D,d.target= .collected D->w0.heap.size<=D)->(∀d∈ds,∀D,d.target= .collected D-> ¬Ld Γ D)->dL E h w->ij Γ E0 h0 w0 E h w->
  (∀w',dL E h w'->ij Γ E0 h0 w0 E h w'->(∀a v,ck E w a v->ck E w' a v)->(∀b,Ld Γ b->w'.heap[b]?=w.heap[b]?)-> ∃v,(results fn tmps).run P w'= .ok v w'/\R (.returned v) w')->LeavesInM Fence.wide 0 P fn tmps R ds .returning w:=by
   intro ds
   induction ds with
   |nil=>intro w _ _ _ s x hk;exact hk w s x (fun _ _ h=>h) fun _ _=>rfl
   |cons d ds ih=>
    intro w hd hb hn s x hk;obtain⟨⟨D,h1,h2,h3,h4,h5⟩,hr⟩:=hd;have hD0:=hb d (by simp) D h1;refine⟨(fun e=>by cases e),.inl ⟨D,_,h1,run_takeDeferred h2,?_⟩⟩;obtain⟨s',r'⟩:=s.oN (.deferred none) h3 h4
    have keep: ∀ds,oS E w ds->(∀d'∈ds,d'.target≠ .collected D)->oS E (w.putObj D (.deferred none)) ds:=by
     intro ds
     induction ds with
     |nil=>intro _ _;trivial
     |cons d' ds Zr=>
      rintro ⟨⟨D',g1,g2,g3,g4,g5⟩,gr⟩ kY
      exact⟨⟨D',g1,(World.putObj_heap_other (fun e=>kY d' (by simp) (by rw[g1,e]))).trans g2,g3,g4,g5⟩,Zr gr fun d'' Zs=>kY d'' (by simp[Zs])⟩
    refine ih _ (keep ds hr h5) (fun d' HF=>hb d' (by simp[HF])) (fun d' HF=>hn d' (by simp[HF])) s' ⟨x.S,x.SN,fun b NQ hi hl=>?_,x.m,x.new,x.len,by rw[World.putObj_size];exact x.size,x.os,x.tape,x.output,x.fresh⟩ fun w' s2 x2 r2 l2=>hk w' s2 x2 (fun a v h=>r2 a v (r' a v h)) fun b hl=>(l2 b hl).trans (World.putObj_heap_other fun e=>hn d (by simp) D h1 (e▸hl));exact(World.putObj_heap_other (by omega)).trans (x.mem b NQ hi hl)
theorem Dw{cf:dS}(hC:ia cf (call cf)){IX:FuncId->Bool}{Γ:Option Lp}{f:FuncId}{fn:Func}{c:Code}(HC:cf.P.funcs[f]?=some fn)(Vv:fn.body=some c)(dt:iW fn.ntmps c=true){args:List af}{h:aC}{g:LS}{Q:af->aC->LS->Prop}
  (hw: ∀B,wj ⟨cf,IX,Γ,fn.ntmps,B⟩ c (fun o=>match o with
   | .norm tm h g=>∃vs,cp (i6 cf.P ⟨tm,h⟩) fn.results.toList=some vs/\Q (CG vs) h g
   | .ret tm h g=>∃vs,cp (i6 cf.P ⟨tm,h⟩) fn.results.toList=some vs/\Q (CG vs) h g
   |_=>False) (ko args) h g):ik cf Γ f args h g Q:=by
    intro E w vs s hf hg hr hl;refine(callsIn_wide (n:=0)).1 (callsIn_of_wp_marks HC Vv trivial ?_);have je:fn.ntmps<=(vs++Array.replicate (fn.ntmps-vs.size) undef).size:=by simp;omega
    have ht:kp E w (ko args) {tmps:=vs++Array.replicate (fn.ntmps-vs.size) undef,defers:=[]}:=by
     intro k;show ck E w (ko args k) _;unfold ko
     by_cases hk:k<args.length
     ·obtain⟨c,hc⟩:=bD hk;have y6:k<vs.size:=by rw[<-hr.1];exact hk
      obtain⟨u,hu⟩:=dQ y6;rw[hc]
      have:(vs++Array.replicate (fn.ntmps-vs.size) undef).getD k undef=u:=by
       rw[Array.getD_eq_getD_getElem?,Array.getElem?_append_left y6,hu];rfl
      rw[this];exact hr.2 k c u hc hu
     ·rw[List.getElem?_eq_none (by omega)]
      have:(vs++Array.replicate (fn.ntmps-vs.size) undef).getD k undef=undef:=by
       rw[Array.getD_eq_getD_getElem?,Array.getElem?_append_right (by rw[<-hr.1];omega),Array.getElem?_replicate];split<;>rfl
      rw[this];exact mI
    have fin: ∀(tm:Nat->af)(h':aC)(g':LS)(E':Env)(a:Act)(w':World),qT ⟨cf,IX,Γ,fn.ntmps,w.heap.size⟩ E' w' tm h' g' a->ij Γ E h w E' h' w'->(∃vs,cp (i6 cf.P ⟨tm,h'⟩) fn.results.toList=some vs/\Q (CG vs) h' g')->
      LeavesInM Fence.wide 0 cf.P fn a.tmps (uL Γ E h w Q) a.defers .returning w':=by
       rintro tm h' g' E' a w' rel x ⟨vs,sF,hq⟩
       refine Dv a.defers w' rel.df rel.bl.2 rel.nl rel.oJ x fun w2 s2 x2 r2 l2=>?_;have WK:kp E' w2 tm a:=fun k=>r2 _ _ (rel.tm k)
       have hgS: ∀b v,cf.G b=some v->eA E'.S w2 (.eY [v] 0 0) (.pointer (some ⟨b,0,none⟩)):=fun b v hb=>by
        have:=hg b v hb;exact this.mono x2.S fun b hb=>x2.mem b (s.nQ b hb) (fun hi=>s.nS b hi hb) (hl.Uh hb)
       obtain⟨u,hu,vM⟩:=oM (cf:=cf) (E:=E') (w:=w2) (st:=⟨tm,h'⟩) (a:=⟨a.tmps,[]⟩) ⟨s2,rel.full,hgS,fun k=>WK k,rfl⟩ sF;refine⟨u,hu,CG vs,h',g',E',hq,s2,rel.full,x2,vM,?_⟩;have ln:=rel.ln
       cases Γ with
       |none=>trivial
       |some c=>
        exact⟨(l2 c.l rfl).trans ln.1,ln.2.1,ln.2.2.1,fun k=>r2 _ _ (ln.2.2.2 k)⟩
    refine wpIn_mono (tG (y:=⟨cf,IX,Γ,fn.ntmps,w.heap.size⟩) ⟨none,rfl⟩ (fun _=>rfl) hC je c _ _ h g (hw w.heap.size) (tF je c dt) E w _ ⟨s,hf,hg,ht,trivial,hl,fun d hd=>by simp at hd,aB _,fun d hd=>by simp at hd⟩ rfl) fun e a w' he=>?_
    cases e with
    |normal=>obtain⟨tm,h',g',E',hq,rel,x,_⟩:=he;exact fin tm h' g' E' a w' rel x hq
    |ret=>obtain⟨tm,h',g',E',hq,rel,x,_⟩:=he;exact fin tm h' g' E' a w' rel x hq
    |exit id=>obtain⟨tm,h',g',E',hq,rel,x,_⟩:=he;exact hq.elim
    |panic ch=>exact he.elim
    |goto l=>exact he.elim
    |outgrown=>exact he.elim
def WO(cf:dS)(IX:FuncId->Bool)(Γ:Option Lp)(B:Nat)(f:FuncId)(args:List af)(h:aC)(g:LS)(Q:af->aC->LS->Prop):Prop:=
 match cf.P.funcs[f]? with
 |some fn=>match fn.body with
  |some c=>wj ⟨cf,IX,Γ,fn.ntmps,B⟩ c (fun o=>match o with
   | .norm tm h g=>∃vs,cp (i6 cf.P ⟨tm,h⟩) fn.results.toList=some vs/\Q (CG vs) h g
   | .ret tm h g=>∃vs,cp (i6 cf.P ⟨tm,h⟩) fn.results.toList=some vs/\Q (CG vs) h g
   |_=>False) (ko args) h g
  |none=>False
 |none=>False
def O9(cf:dS)(f:FuncId):Bool:=match cf.P.funcs[f]? with
 |some fn=>match fn.body with
  |some c=>iW fn.ntmps c
  |none=>false
 |none=>false
theorem sm{cf:dS}(hC:ia cf (call cf)){IX:FuncId->Bool}{Γ:Option Lp}{f:FuncId}(dt:O9 cf f=true){args:List af}{h:aC}{g:LS}{Q:af->aC->LS->Prop}(hw: ∀B,WO cf IX Γ B f args h g Q):ik cf Γ f args h g Q:=by
 unfold O9 at dt;split at dt
 ·rename_i fn HC;split at dt
  ·rename_i c hc;refine Dw (IX:=IX) hC HC hc dt fun B=>?_;have:=hw B;unfold WO at this;simp only[HC,hc]at this;exact this
  ·cases dt
 ·cases dt
end Go.Am

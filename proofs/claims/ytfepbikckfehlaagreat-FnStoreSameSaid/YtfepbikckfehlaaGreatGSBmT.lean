/- Ranges over functions: rounds and calls. -/
import Derived.Test.YtfepbikckfehlaaGreatGH16
set_option linter.unusedVariables false
set_option linter.unusedSimpArgs false
set_option maxHeartbeats 4000000
namespace Go.Am
open Go
theorem Ty{N:Nat}{E:Env}{w:World}: ∀(ps:List Tmp)(as:List af)(vs:List Value)(tm:Nat->af)(t:Array Value),as.length=vs.length->(∀(i:Nat)(c:af)(v:Value),as[i]?=some c->vs[i]?=some v->de E w c v)->
  lQ E w tm {tmps:=t,defers:=[]}->t.size=N->(∀p∈ps,p<N)->
  lQ E w ((ps.zip as).foldl (fun tm pa=>fX tm pa.1 pa.2) tm) {tmps:=(ps.zip vs).foldl (fun t(p,v)=>t.setIfInBounds p v) t,defers:=[]}/\((ps.zip vs).foldl (fun t(p,v)=>t.setIfInBounds p v) t).size=N:=by
   intro ps
   induction ps with
   |nil=>intro as vs tm t _ _ ht hN _;exact⟨by simpa using ht,by simpa using hN⟩
   |cons p ps ih=>
    intro as vs tm t hl hr ht hN hp
    cases as with
    |nil=>cases vs with
     |nil=>exact⟨by simpa using ht,by simpa using hN⟩
     |cons v vs=>simp at hl
    |cons a as=>cases vs with
     |nil=>simp at hl
     |cons v vs=>
      have h0:=hr 0 a v rfl rfl;have:=ih as vs (fX tm p a) (t.setIfInBounds p v) (by simpa using hl) (fun i c u h1 h2=>hr (i+1) c u (by simpa using h1) (by simpa using h2)) (lQ.put (dst:=some p) ht h0 fun d hd=>by cases hd;rw[hN];exact hp p (by simp)) (by simpa using hN) fun q hq=>hp q (by simp[hq]);simpa using this
theorem EV{cf:eP}(hC:jl cf (call cf)){c:Lp}{args:List af}{h:aG}{g:LS}{Q:af->aG->LS->Prop}{N:Nat}(hg:g.st= .ready)(hl:args.length=c.rc.params.size)(hN:N<=c.rc.tmps.size)(hp: ∀p∈c.rc.params.toList,p<N)(h1:jV N c.rc.assign=true)(h2:jV N c.rc.body=true)
  (hw: ∀B,xS ⟨cf,fun _=>false,some c,N,B⟩ c.rc.assign (fun o=>match o with
   | .norm tm h g1=>g1.st= .ready/\xS ⟨cf,fun _=>false,some c,N,B⟩ c.rc.body (fun o=>match o with
    | .norm _ h _=>Q (.bool true) h ⟨.ready,none⟩
    | .ret _ h _=>Q (.bool false) h ⟨.done,some .ret⟩
    | .exit id _ h _=>Q (.bool false) h ⟨.done,some (.exit id)⟩) tm h ⟨.busy,g1.nC⟩
   |_=>False) ((c.rc.params.toList.zip args).foldl (fun tm pa=>fX tm pa.1 pa.2) c.Ho) h g):oR cf c args h g Q:=by
    refine⟨hl,fun E w vs s f V6 hr L8=>?_⟩;have hF:Mw (Fence.wide.inRound c.l):=⟨some c.l,rfl⟩;obtain⟨t1,t2⟩:=Ty (N:=c.rc.tmps.size) c.rc.params.toList args vs.toList c.Ho c.rc.tmps (by simpa using hr.1) (fun i a v h1 h2=>hr.2 i a v h1 (by simpa using h2)) L8.2.2.2 rfl (fun p Vy=>abc (hp p Vy) hN)
    have hz:(c.rc.params.zip vs).foldl (fun t(p,v)=>t.setIfInBounds p v) c.rc.tmps=(c.rc.params.toList.zip vs.toList).foldl (fun t(p,v)=>t.setIfInBounds p v) c.rc.tmps:=by
     rw[<-Array.foldl_toList,Array.toList_zip]
    rw[hz];refine roundIn_of_wpIn trivial ?_;refine wpIn_mono (uV (y:=⟨cf,fun _=>false,some c,N,w.heap.size⟩) hF (fun h=>by cases h) hC (N:=c.rc.tmps.size) hN c.rc.assign _ _ h g (hw w.heap.size) (uU hN _ h1) E w _ ⟨s,f,V6,t1,trivial,L8,fun d hd=>by simp at hd,aah _,fun d hd=>by simp at hd⟩ t2) fun e a1 w1 he=>?_
    cases e with
    |exit id=>obtain⟨_,_,_,_,hq,_⟩:=he;exact hq.elim
    |ret=>obtain⟨_,_,_,_,hq,_⟩:=he;exact hq.elim
    |panic ch=>exact he.elim
    |goto l=>exact he.elim
    |outgrown=>exact he.elim
    |normal=>
     obtain⟨tm1,GB,g1,E1,⟨dN,hq⟩,sk,x1,hN1⟩:=he;have Jy:w1.heap[c.l]?=some (.loop {c.rc with state:=g1.st,pending:=g1.nC}):=sk.ln.1;refine⟨_,run_beginRound Jy dN,?_⟩;obtain⟨s2,r2⟩:=sk.qj.qo (.loop {c.rc with state:=.busy,pending:=g1.nC}) sk.ln.2.1 sk.ln.2.2.1;have x2:jq (some c) E1 GB w1 E1 GB (w1.putObj c.l (.loop {c.rc with state:=.busy,pending:=g1.nC})):=jq.qo _
     have EB:sh ⟨cf,fun _=>false,some c,N,w.heap.size⟩ E1 (w1.putObj c.l (.loop {c.rc with state:=.busy,pending:=g1.nC})) tm1 GB ⟨.busy,g1.nC⟩ a1:=
      ⟨s2,sk.full,sk.QC.EO sk.qj sk.ln x2,sk.tm.EO sk.qj sk.ln x2,sk.df.ext x2 sk.nl,sk.ln.qo sk.qj,sk.nl,aa3 sk.bl.1 x2.size,sk.bl.2⟩
     refine wpIn_mono (uV (y:=⟨cf,fun _=>false,some c,N,w.heap.size⟩) hF (fun h=>by cases h) hC (N:=c.rc.tmps.size) hN c.rc.body _ _ GB _ hq (uU hN _ h2) E1 _ _ EB hN1) fun e a3 w3 he=>?_
     have fin: ∀(A8:Option Code)(UR:Nat->af)(Ph:aG)(g3:LS)(E3:Env),sh ⟨cf,fun _=>false,some c,N,w.heap.size⟩ E3 w3 UR Ph g3 a3->jq (some c) E1 GB (w1.putObj c.l (.loop {c.rc with state:=.busy,pending:=g1.nC})) E3 Ph w3->Q (.bool A8.isNone) Ph ⟨if A8.isNone then .ready else .done,A8⟩->
       ∃v w',(Instr.endRound c.l A8).run cf.P w3= .ok v w'/\wz (some c) E h w Q (.returned v) w':=by
        intro A8 UR Ph g3 E3 xU x3 Cp;have ZQ:w3.heap[c.l]?=some (.loop {c.rc with state:=g3.st,pending:=g3.nC}):=xU.ln.1;refine⟨_,_,run_endRound A8 ZQ,.bool A8.isNone,Ph,⟨if A8.isNone then .ready else .done,A8⟩,E3,Cp,(xU.qj.qo _ xU.ln.2.1 xU.ln.2.2.1).1,xU.full,?_,.fJ (.bool _),xU.ln.qo (g':=⟨if A8.isNone then .ready else .done,A8⟩) xU.qj⟩;exact((x1.trans x2).trans x3).trans (jq.qo _)
     cases e with
     |normal=>obtain⟨UR,Ph,g3,E3,Cp,xU,x3,hN3⟩:=he;exact fin none UR Ph g3 E3 xU x3 Cp
     |ret=>obtain⟨UR,Ph,g3,E3,Cp,xU,x3,hN3⟩:=he;exact fin (some .ret) UR Ph g3 E3 xU x3 Cp
     |exit id=>obtain⟨UR,Ph,g3,E3,Cp,xU,x3,hN3⟩:=he;exact fin (some (.exit id)) UR Ph g3 E3 xU x3 Cp
     |panic ch=>exact he.elim
     |goto l=>exact he.elim
     |outgrown=>exact he.elim
theorem EW{P:Program}{fn:Func}{tmps:Array Value}{R:Ending->World->Prop}{Γ:Option Lp}{E0 E:Env}{h0 h:aG}{w0:World}: ∀(ds:List Deferred)(w:World),qn E w ds->(∀d∈ds,∀D,d.target= .collected D->w0.heap.size<=D)->(∀d∈ds,∀D,d.target= .collected D-> ¬Ld Γ D)->eG E h w->jq Γ E0 h0 w0 E h w->
  (∀w',eG E h w'->jq Γ E0 h0 w0 E h w'->(∀a v,de E w a v->de E w' a v)->(∀b,Ld Γ b->w'.heap[b]?=w.heap[b]?)-> ∃v,(results fn tmps).run P w'= .ok v w'/\R (.returned v) w')->LeavesInM Fence.wide 0 P fn tmps R ds .returning w:=by
   intro ds
   induction ds with
   |nil=>intro w _ _ _ s x hk;exact hk w s x (fun _ _ h=>h) fun _ _=>rfl
   |cons d ds ih=>
    intro w hd hb hn s x hk;obtain⟨⟨D,h1,h2,h3,h4,h5⟩,hr⟩:=hd;have hD0:=hb d (by simp) D h1;refine⟨(fun e=>by cases e),.inl ⟨D,_,h1,run_takeDeferred h2,?_⟩⟩;obtain⟨s',r'⟩:=s.qo (.deferred none) h3 h4
    have keep: ∀ds,qn E w ds->(∀d'∈ds,d'.target≠ .collected D)->qn E (w.putObj D (.deferred none)) ds:=by
     intro ds
     induction ds with
     |nil=>intro _ _;trivial
     |cons d' ds ih'=>
      rintro ⟨⟨D',g1,g2,g3,g4,g5⟩,gr⟩ mD
      exact⟨⟨D',g1,(World.putObj_heap_other (fun e=>mD d' (by simp) (by rw[g1,e]))).trans g2,g3,g4,g5⟩,ih' gr fun d'' aa8=>mD d'' (by simp[aa8])⟩
    refine ih _ (keep ds hr h5) (fun d' JA=>hb d' (by simp[JA])) (fun d' JA=>hn d' (by simp[JA])) s' ⟨x.S,x.SN,fun b PF hi hl=>?_,x.m,x.new,x.len,by rw[World.putObj_size];exact x.size,x.os,x.tape,x.output,x.fresh⟩ fun w' s2 x2 r2 l2=>hk w' s2 x2 (fun a v h=>r2 a v (r' a v h)) fun b hl=>(l2 b hl).trans (World.putObj_heap_other fun e=>hn d (by simp) D h1 (e▸hl));exact(World.putObj_heap_other (by omega)).trans (x.mem b PF hi hl)
theorem EX{cf:eP}(hC:jl cf (call cf)){Ky:FuncId->Bool}{Γ:Option Lp}{f:FuncId}{fn:Func}{c:Code}(Jw:cf.P.funcs[f]?=some fn)(Xr:fn.body=some c)(eb:jV fn.ntmps c=true){args:List af}{h:aG}{g:LS}{Q:af->aG->LS->Prop}
  (hw: ∀B,xS ⟨cf,Ky,Γ,fn.ntmps,B⟩ c (fun o=>match o with
   | .norm tm h g=>∃vs,di (kM cf.P ⟨tm,h⟩) fn.results.toList=some vs/\Q (Ek vs) h g
   | .ret tm h g=>∃vs,di (kM cf.P ⟨tm,h⟩) fn.results.toList=some vs/\Q (Ek vs) h g
   |_=>False) (lP args) h g):jr cf Γ f args h g Q:=by
    intro E w vs s hf hg hr hl;refine(callsIn_wide (n:=0)).1 (callsIn_of_wp_marks Jw Xr trivial ?_);have jP:fn.ntmps<=(vs++Array.replicate (fn.ntmps-vs.size) undef).size:=by simp;omega
    have ht:lQ E w (lP args) {tmps:=vs++Array.replicate (fn.ntmps-vs.size) undef,defers:=[]}:=by
     intro k;show de E w (lP args k) _;unfold lP
     by_cases hk:k<args.length
     ·obtain⟨c,hc⟩:=bP hk;have zE:k<vs.size:=by rw[<-hr.1];exact hk
      obtain⟨u,hu⟩:=eM zE;rw[hc]
      have:(vs++Array.replicate (fn.ntmps-vs.size) undef).getD k undef=u:=by
       rw[Array.getD_eq_getD_getElem?,Array.getElem?_append_left zE,hu];rfl
      rw[this];exact hr.2 k c u hc hu
     ·rw[List.getElem?_eq_none (by omega)]
      have:(vs++Array.replicate (fn.ntmps-vs.size) undef).getD k undef=undef:=by
       rw[Array.getD_eq_getD_getElem?,Array.getElem?_append_right (by rw[<-hr.1];omega),Array.getElem?_replicate];split<;>rfl
      rw[this];exact n8
    have fin: ∀(tm:Nat->af)(h':aG)(g':LS)(E':Env)(a:Act)(w':World),sh ⟨cf,Ky,Γ,fn.ntmps,w.heap.size⟩ E' w' tm h' g' a->jq Γ E h w E' h' w'->(∃vs,di (kM cf.P ⟨tm,h'⟩) fn.results.toList=some vs/\Q (Ek vs) h' g')->
      LeavesInM Fence.wide 0 cf.P fn a.tmps (wz Γ E h w Q) a.defers .returning w':=by
       rintro tm h' g' E' a w' rel x ⟨vs,uh,hq⟩
       refine EW a.defers w' rel.df rel.bl.2 rel.nl rel.qj x fun w2 s2 x2 r2 l2=>?_;have Yz:lQ E' w2 tm a:=fun k=>r2 _ _ (rel.tm k)
       have hgS: ∀b v,cf.G b=some v->fD E'.S w2 (.fQ [v] 0 0) (.pointer (some ⟨b,0,none⟩)):=fun b v hb=>by
        have:=hg b v hb;exact this.mono x2.S fun b hb=>x2.mem b (s.pM b hb) (fun hi=>s.nS b hi hb) (hl.V5 hb)
       obtain⟨u,hu,xA⟩:=qm (cf:=cf) (E:=E') (w:=w2) (st:=⟨tm,h'⟩) (a:=⟨a.tmps,[]⟩) ⟨s2,rel.full,hgS,fun k=>Yz k,rfl⟩ uh;refine⟨u,hu,Ek vs,h',g',E',hq,s2,rel.full,x2,xA,?_⟩;have ln:=rel.ln
       cases Γ with
       |none=>trivial
       |some c=>
        exact⟨(l2 c.l rfl).trans ln.1,ln.2.1,ln.2.2.1,fun k=>r2 _ _ (ln.2.2.2 k)⟩
    refine wpIn_mono (uV (y:=⟨cf,Ky,Γ,fn.ntmps,w.heap.size⟩) ⟨none,rfl⟩ (fun _=>rfl) hC jP c _ _ h g (hw w.heap.size) (uU jP c eb) E w _ ⟨s,hf,hg,ht,trivial,hl,fun d hd=>by simp at hd,aah _,fun d hd=>by simp at hd⟩ rfl) fun e a w' he=>?_
    cases e with
    |normal=>obtain⟨tm,h',g',E',hq,rel,x,_⟩:=he;exact fin tm h' g' E' a w' rel x hq
    |ret=>obtain⟨tm,h',g',E',hq,rel,x,_⟩:=he;exact fin tm h' g' E' a w' rel x hq
    |exit id=>obtain⟨tm,h',g',E',hq,rel,x,_⟩:=he;exact hq.elim
    |panic ch=>exact he.elim
    |goto l=>exact he.elim
    |outgrown=>exact he.elim
def YD(cf:eP)(Ky:FuncId->Bool)(Γ:Option Lp)(B:Nat)(f:FuncId)(args:List af)(h:aG)(g:LS)(Q:af->aG->LS->Prop):Prop:=
 match cf.P.funcs[f]? with
 |some fn=>match fn.body with
  |some c=>xS ⟨cf,Ky,Γ,fn.ntmps,B⟩ c (fun o=>match o with
   | .norm tm h g=>∃vs,di (kM cf.P ⟨tm,h⟩) fn.results.toList=some vs/\Q (Ek vs) h g
   | .ret tm h g=>∃vs,di (kM cf.P ⟨tm,h⟩) fn.results.toList=some vs/\Q (Ek vs) h g
   |_=>False) (lP args) h g
  |none=>False
 |none=>False
def QE(cf:eP)(f:FuncId):Bool:=match cf.P.funcs[f]? with
 |some fn=>match fn.body with
  |some c=>jV fn.ntmps c
  |none=>false
 |none=>false
theorem tP{cf:eP}(hC:jl cf (call cf)){Ky:FuncId->Bool}{Γ:Option Lp}{f:FuncId}(eb:QE cf f=true){args:List af}{h:aG}{g:LS}{Q:af->aG->LS->Prop}(hw: ∀B,YD cf Ky Γ B f args h g Q):jr cf Γ f args h g Q:=by
 unfold QE at eb;split at eb
 ·rename_i fn Jw;split at eb
  ·rename_i c hc;refine EX (Ky:=Ky) hC Jw hc eb fun B=>?_;have:=hw B;unfold YD at this;simp only[Jw,hc]at this;exact this
  ·cases eb
 ·cases eb
end Go.Am

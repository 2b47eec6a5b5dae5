/- Ranges over functions: code, rounds, the statement itself, calls. -/
import Derived.Test.YtfepbikckfehlaaGreatGH9
import Derived.Test.YtfepbikckfehlaaGreatGSBmW
import Derived.RangeFuncRecord
set_option linter.unusedVariables false
set_option linter.unusedSimpArgs false
set_option maxHeartbeats 4000000
namespace Go.Am
open Go
structure Lp where
 l:Nat
 rc:Loop
 Ho:Nat->af
structure LS where
 st:LoopState
 nC:Option Code
def rF(Γ:Option Lp)(g:LS)(E:Env)(w:World):Prop:=match Γ with
 |none=>True
 |some c=>w.heap[c.l]?=some (.loop {c.rc with state:=g.st,pending:=g.nC})/\ ¬E.S c.l/\ ¬E.im c.l/\lQ E w c.Ho {tmps:=c.rc.tmps,defers:=[]}
def Ld(Γ:Option Lp)(b:Nat):Prop:=match Γ with
 |none=>False
 |some c=>b=c.l
structure jq(Γ:Option Lp)(E:Env)(h:aG)(w:World)(E':Env)(h':aG)(w':World):Prop where
 S: ∀b,E.S b->E'.S b
 SN: ∀b,E'.S b->E.S b∨E.im b∨w.heap.size<=b
 mem: ∀b,b<w.heap.size-> ¬E.im b-> ¬Ld Γ b->w'.heap[b]?=w.heap[b]?
 m: ∀id s,E.m id=some s->E'.m id=some s∨E'.m id=some .dead
 new: ∀b,E'.im b->E.im b∨w.heap.size<=b
 len:h.length<=h'.length
 size:w.heap.size<=w'.heap.size
 os:w'.os=w.os
 tape:w'.tape=w.tape
 output:w'.output=w.output
 fresh: ∀id,id<h.length->E.m id=none->E'.m id=none
theorem Ext.ZO{Γ:Option Lp}{E E':Env}{h h':aG}{w w':World}(x:Ext E h w E' h' w'):jq Γ E h w E' h' w':=
 ⟨x.S,x.SN,fun b h1 h2 _=>x.mem b h1 h2,x.m,x.new,x.len,x.size,x.os,x.tape,x.output,x.fresh⟩
theorem jq.refl(Γ:Option Lp)(E:Env)(h:aG)(w:World):jq Γ E h w E h w:=(Ext.refl E h w).ZO
theorem jq.trans{Γ:Option Lp}{E E1 E2:Env}{h h1 h2:aG}{w w1 w2:World}(a:jq Γ E h w E1 h1 w1)(b:jq Γ E1 h1 w1 E2 h2 w2):jq Γ E h w E2 h2 w2 where
 S:=fun x hx=>b.S x (a.S x hx)
 SN:=fun x hx=>by
  rcases b.SN x hx with h|h|h
  ·exact a.SN x h
  ·exact .inr (a.new x h)
  ·exact .inr (.inr (aa3 a.size h))
 mem:=fun x hx hn hd=>by
  have h1: ¬E1.im x:=fun hi=>by
   rcases a.new x hi with h|h
   ·exact hn h
   ·omega
  exact(b.mem x (abc hx a.size) h1 hd).trans (a.mem x hx hn hd)
 m:=fun id s hs=>by
  rcases a.m id s hs with h|h
  ·exact b.m id s h
  ·rcases b.m id _ h with h|h<;>exact .inr h
 new:=fun x hx=>by
  rcases b.new x hx with h|h
  ·exact a.new x h
  ·exact .inr (aa3 a.size h)
 len:=aa3 a.len b.len
 size:=aa3 a.size b.size
 os:=b.os.trans a.os
 tape:=b.tape.trans a.tape
 output:=b.output.trans a.output
 fresh:=fun id h1 h2=>b.fresh id (abc h1 a.len) (a.fresh id h1 h2)
section
variable{cf:eP}{Γ:Option Lp}{g:LS}{E E':Env}{h h':aG}{w w':World}
theorem rF.V5(hl:rF Γ g E w){b:Nat}(hb:E.S b): ¬Ld Γ b:=by
 cases Γ with
 |none=>exact id
 |some c=>intro e;simp only[Ld]at e;subst e;exact hl.2.1 hb
theorem de.EO(x:jq Γ E h w E' h' w')(s:eG E h w)(hl:rF Γ g E w){a:af}{v:Value}(hr:de E w a v):de E' w' a v:=
 hr.mono x.S (fun b hb=>x.mem b (s.pM b hb) (fun hi=>s.nS b hi hb) (hl.V5 hb)) x.m
theorem ug.EO{G:Nat->Option af}(hg:ug G E.S w)(s:eG E h w)(hl:rF Γ g E w)(x:jq Γ E h w E' h' w'):ug G E'.S w':=
 hg.mono x.S fun b hb=>x.mem b (s.pM b hb) (fun hi=>s.nS b hi hb) (hl.V5 hb)
theorem lQ.EO{tm:Nat->af}{a:Act}(ht:lQ E w tm a)(s:eG E h w)(hl:rF Γ g E w)(x:jq Γ E h w E' h' w'):lQ E' w' tm a:=fun k=>(ht k).EO x s hl
theorem rF.lt{c:Lp}(hl:rF (some c) g E w):c.l<w.heap.size:=by
 have h:w.heap[c.l]?=some (.loop {c.rc with state:=g.st,pending:=g.nC}):=hl.1;exact(aaR.1 h).1
theorem rF.ext(hl:rF Γ g E w)(s:eG E h w)(x:Ext E h w E' h' w'):rF Γ g E' w':=by
 cases Γ with
 |none=>trivial
 |some c=>
  have fK:=hl.lt;obtain⟨h1,h2,h3,h4⟩:=hl;refine⟨(x.mem _ fK h3).trans h1,fun hS=>?_,fun hi=>?_,h4.ext s x⟩
  ·rcases x.SN _ hS with h|h|h
   ·exact h2 h
   ·exact h3 h
   ·omega
  ·rcases x.new _ hi with h|h
   ·exact h3 h
   ·omega
end
def qn(E:Env)(w:World):List Deferred->Prop
 | []=>True
 |d::ds=>(∃D,d.target= .collected D/\w.heap[D]?=some (.deferred (some []))/\ ¬E.S D/\ ¬E.im D/\ ∀d'∈ds,d'.target≠ .collected D)/\qn E w ds
theorem qn.ext{Γ:Option Lp}{E E':Env}{h h':aG}{w w':World}(x:jq Γ E h w E' h' w'): ∀{ds:List Deferred},(∀d∈ds,∀D,d.target= .collected D-> ¬Ld Γ D)->qn E w ds->qn E' w' ds
 | [],_,_=>trivial
 |d::ds,hn,⟨⟨D,h1,h2,h3,h4,h5⟩,hr⟩=>by
  have fK:D<w.heap.size:=(aaR.1 h2).1;refine⟨⟨D,h1,(x.mem D fK h4 (hn d (by simp) D h1)).trans h2,fun hS=>?_,fun hi=>?_,h5⟩,qn.ext x (fun d' JA=>hn d' (by simp[JA])) hr⟩
  ·rcases x.SN _ hS with h|h|h
   ·exact h3 h
   ·exact h4 h
   ·omega
  ·rcases x.new _ hi with h|h
   ·exact h4 h
   ·omega
def wz(Γ:Option Lp)(E:Env)(h:aG)(w:World)(Q:af->aG->LS->Prop):Ending->World->Prop
 | .returned u,w'=>∃v h' g' E',Q v h' g'/\eG E' h' w'/\Full E' h'/\jq Γ E h w E' h' w'/\de E' w' v u/\rF Γ g' E' w'
 |_,_=>False
theorem wz.mono{Γ:Option Lp}{E:Env}{h:aG}{w:World}{Q Q':af->aG->LS->Prop}(hq: ∀v h g,Q v h g->Q' v h g): ∀e w',wz Γ E h w Q e w'->wz Γ E h w Q' e w'
 | .returned u,w',⟨v,h',g',E',h1,h2⟩=>⟨v,h',g',E',hq _ _ _ h1,h2⟩
 | .panicked _,_,h=>h.elim
 | .outgrown,_,h=>h.elim
def jr(cf:eP)(Γ:Option Lp)(f:FuncId)(args:List af)(h:aG)(g:LS)(Q:af->aG->LS->Prop):Prop:=
 ∀(E:Env)(w:World)(vs:Array Value),eG E h w->Full E h->ug cf.G E.S w->hH E w args vs->rF Γ g E w->Calls cf.P f vs w (wz Γ E h w Q)
theorem jr.mono{cf:eP}{Γ:Option Lp}{f:FuncId}{args:List af}{h:aG}{g:LS}{Q Q':af->aG->LS->Prop}(hc:jr cf Γ f args h g Q)(hq: ∀v h g,Q v h g->Q' v h g):jr cf Γ f args h g Q':=
 fun E w vs h1 h2 h3 h4 h5=>Calls.mono (hc E w vs h1 h2 h3 h4 h5) (wz.mono hq)
def oR(cf:eP)(c:Lp)(args:List af)(h:aG)(g:LS)(Q:af->aG->LS->Prop):Prop:=
 args.length=c.rc.params.size/\ ∀(E:Env)(w:World)(vs:Array Value),eG E h w->Full E h->ug cf.G E.S w->hH E w args vs->rF (some c) g E w->
  RoundIn Fence.wide 0 cf.P c.l c.rc.fn ((c.rc.params.zip vs).foldl (fun t(p,v)=>t.setIfInBounds p v) c.rc.tmps) c.rc.assign c.rc.body w (wz (some c) E h w Q)
theorem oR.mono{cf:eP}{c:Lp}{args:List af}{h:aG}{g:LS}{Q Q':af->aG->LS->Prop}(hc:oR cf c args h g Q)(hq: ∀v h g,Q v h g->Q' v h g):oR cf c args h g Q':=
 ⟨hc.1,fun E w vs h1 h2 h3 h4 h5=>RoundIn.mono (hc.2 E w vs h1 h2 h3 h4 h5) (wz.mono hq)⟩
structure EP where
 cf:eP
 Ky:FuncId->Bool
 Γ:Option Lp
 N:Nat
 B:Nat
def ER(G:Nat->Option af)(tm:Nat->af):Op->Option (Nat×List af)
 | .call {callee:=.value fo,args,..}=>match ev G tm fo,di (ev G tm) args.toList with
  |some (.func (.yield l) [] []),some as=>some (l,as)
  |_,_=>none
 |_=>none
def ES(o:Oper)(tm:Nat->af)(K:(Nat->af)->aG->LS->Prop)(v:af)(h:aG)(g:LS):Prop:=Qk v fun v=>kE v fun v=>nE tm o.dst v fun tm=>K tm h g
theorem sU{o:Oper}{tm:Nat->af}{K:(Nat->af)->aG->LS->Prop}{v:af}{h:aG}{g:LS}(hh:ES o tm K v h g):K (jL tm o.dst v) h g:=by
 have h1:=jU (K:=fun v=>kE v fun v=>nE tm o.dst v fun tm=>K tm h g) hh;exact jJ (K:=fun tm=>K tm h g) (gG (K:=fun v=>nE tm o.dst v fun tm=>K tm h g) h1)
def QA(cf:eP)(tm:Nat->af):Op->Bool
 | .binOp .eql t x y _=>match Eg y,ev cf.G tm x,cf.P.underlying t with
  |true,some (.sl []),some (.slice _)=>true
  |_,_,_=>false
 |_=>false
def QB(y:EP)(o:Oper)(tm:Nat->af)(hp:aG)(g:LS)(K:(Nat->af)->aG->LS->Prop):Prop:=
 match sQ o.op with
 |true=>match ER y.cf.G tm o.op with
  |some (l,as)=>match y.Γ with
   |some c=>nX as fun as=>l=c.l/\oR y.cf c as hp g (ES o tm K)
   |none=>False
  |none=>match aV y.cf tm hp o.op with
   |some (.call f args)=>match y.Ky f with
    |true=>nX args fun args=>jr y.cf y.Γ f args hp g (ES o tm K)
    |false=>nX args fun args=>∃r,cj y.cf (call y.cf) f args hp=some r/\match r with
     | .ret v h=>ES o tm K v h g
     | .jI _ _=>False
   |_=>False
 |false=>match QA y.cf tm o.op with
  |true=>∀b:Bool,nE tm o.dst (.bool b) fun tm=>K tm hp g
  |false=>VY y.cf tm hp o.op fun v h=>kE v fun v=>nE tm o.dst v fun tm=>K tm h g
def A7(y:EP)(ops:Array Oper)(Q:(Nat->af)->aG->LS->Prop):List Oper->(Nat->af)->aG->LS->Prop
 | [],tm,hp,g=>Q tm hp g
 |o::rest,tm,hp,g=>match eL ops o tm with
  |none=>QB y o tm hp g (A7 y ops Q rest)
  |some t=>rC t (QB y o tm hp g (A7 y ops Q rest)) (nE tm o.dst (.eT []) fun tm=>A7 y ops Q rest tm hp g)
inductive NV where
 |norm (tm:Nat->af) (hp:aG) (g:LS)
 |exit (id:Nat) (tm:Nat->af) (hp:aG) (g:LS)
 |ret (tm:Nat->af) (hp:aG) (g:LS)
def xS(y:EP):Code->(NV->Prop)->(Nat->af)->aG->LS->Prop
 | .skip,Q,tm,hp,g=>Q (.norm tm hp g)
 | .label _,Q,tm,hp,g=>Q (.norm tm hp g)
 | .region _ ops false,Q,tm,hp,g=>A7 y ops (fun tm hp g=>Q (.norm tm hp g)) ops.toList tm hp g
 | .seq a b,Q,tm,hp,g=>xS y a (fun o=>match o with
  | .norm tm hp g=>xS y b Q tm hp g
  |o=>Q o) tm hp g
 | .cond c a b,Q,tm,hp,g=>match ev y.cf.G tm c with
  |some (.bool t)=>rC t (xS y a Q tm hp g) (xS y b Q tm hp g)
  |_=>False
 | .block id c,Q,tm,hp,g=>xS y c (fun o=>match o with
  | .exit j tm hp g=>match Nat.decEq j id with
   |isTrue _=>Q (.norm tm hp g)
   |isFalse _=>Q (.exit j tm hp g)
  |o=>Q o) tm hp g
 | .loop c,Q,tm,hp,g=>∃(I:Nat->(Nat->af)->aG->LS->Prop)(n:Nat),I n tm hp g/\ ∀n tm hp g,I n tm hp g->xS y c (fun o=>match o with
  | .norm tm hp g=>∃m,m<n/\I m tm hp g
  |o=>Q o) tm hp g
 | .exit id,Q,tm,hp,g=>Q (.exit id tm hp g)
 | .ret,Q,tm,hp,g=>Q (.ret tm hp g)
 | .rangeFunc f params assign body,Q,tm,hp,g=>match y.Γ with
  |some _=>False
  |none=>match ev y.cf.G tm f with
   |some (.func (.func gf) [] cap)=>ia y.cf.P gf=true/\ ∀c:Lp,c.rc.params=params->c.rc.assign=assign->c.rc.body=body->c.Ho=tm->y.N<=c.rc.tmps.size->
    jr y.cf (some c) gf (.func (.yield c.l) [] []::cap) hp ⟨.ready,none⟩ fun _ h g'=>g'.st≠ .busy/\match g'.nC with
     |none=>Q (.norm tm h g)
     |some .ret=>Q (.ret tm h g)
     |some (.exit id)=>Q (.exit id tm h g)
     |_=>False
   |_=>False
 |_,_,_,_,_=>False
structure sh(y:EP)(E:Env)(w:World)(tm:Nat->af)(hp:aG)(g:LS)(a:Act):Prop where
 qj:eG E hp w
 full:Full E hp
 QC:ug y.cf.G E.S w
 tm:lQ E w tm a
 df:qn E w a.defers
 ln:rF y.Γ g E w
 nl: ∀d∈a.defers,∀D,d.target= .collected D-> ¬Ld y.Γ D
 bl:y.B<=w.heap.size/\ ∀d∈a.defers,∀D,d.target= .collected D->y.B<=D
def uA(y:EP)(E:Env)(h:aG)(w:World)(N:Nat)(Q:NV->Prop):Exit->Act->World->Prop
 | .normal,a,w'=>∃tm hp g E',Q (.norm tm hp g)/\sh y E' w' tm hp g a/\jq y.Γ E h w E' hp w'/\a.tmps.size=N
 | .exit id,a,w'=>∃tm hp g E',Q (.exit id tm hp g)/\sh y E' w' tm hp g a/\jq y.Γ E h w E' hp w'/\a.tmps.size=N
 | .ret,a,w'=>∃tm hp g E',Q (.ret tm hp g)/\sh y E' w' tm hp g a/\jq y.Γ E h w E' hp w'/\a.tmps.size=N
 |_,_,_=>False
theorem uA.from{y:EP}{E E1:Env}{h h1:aG}{w w1:World}{N:Nat}{Q:NV->Prop}(x:jq y.Γ E h w E1 h1 w1): ∀(e:Exit)(a:Act)(w':World),uA y E1 h1 w1 N Q e a w'->uA y E h w N Q e a w':=by
 intro e a w' hq
 cases e with
 |normal=>obtain⟨tm,hp,g,E',g1,g2,g3,g4⟩:=hq;exact⟨tm,hp,g,E',g1,g2,x.trans g3,g4⟩
 |exit id=>obtain⟨tm,hp,g,E',g1,g2,g3,g4⟩:=hq;exact⟨tm,hp,g,E',g1,g2,x.trans g3,g4⟩
 |ret=>obtain⟨tm,hp,g,E',g1,g2,g3,g4⟩:=hq;exact⟨tm,hp,g,E',g1,g2,x.trans g3,g4⟩
 |panic chain=>exact hq
 |goto l=>exact hq
 |outgrown=>exact hq
theorem sh.skip{y:EP}{E:Env}{w:World}{tm:Nat->af}{hp:aG}{g:LS}{a:Act}{dst:Option Tmp}(rel:sh y E w tm hp g a)(hd: ∀d,dst=some d->d<a.tmps.size):sh y E w (jL tm dst (.eT [])) hp g (a.put dst undef):=
 ⟨rel.qj,rel.full,rel.QC,rel.tm.put n8 hd,by rw[put_defers];exact rel.df,rel.ln,by rw[put_defers];exact rel.nl,rel.bl.1,by rw[put_defers];exact rel.bl.2⟩
def Mw(F:Fence):Prop:=∃ro,F={Fence.wide with round:=ro}
theorem Mw.fn{F:Fence}(h:Mw F)(f:FuncId):F.fn f:=by obtain⟨ro,rfl⟩:=h;trivial
theorem Mw.depth{F:Fence}(h:Mw F){n:Nat}:F.depth.isSome=true->1<=n:=by obtain⟨ro,rfl⟩:=h;intro h;cases h
theorem Mw.calls{F:Fence}(h:Mw F){P:Program}{f:FuncId}{args:Array Value}{w:World}{R:Ending->World->Prop}(hc:Calls P f args w R):CallsIn F 0 P f args w R:=by
 obtain⟨ro,rfl⟩:=h;exact callsIn_wide.2 hc
theorem Mw.round{F:Fence}(h:Mw F){P:Program}{l:Nat}{f:FuncId}{tmps:Array Value}{assign body:Code}{w:World}{R:Ending->World->Prop}(hc:RoundIn Fence.wide 0 P l f tmps assign body w R):RoundIn F 0 P l f tmps assign body w R:=by
 obtain⟨ro,rfl⟩:=h;exact hc
theorem ET{cf:eP}{tm:Nat->af}{h:aG}{c:Call}:aV cf tm h (.defer c)=none:=by simp[aV]
theorem EU{G:Nat->Option af}{tm:Nat->af}{o:Op}{l:Nat}{as:List af}(h:ER G tm o=some (l,as)):
  ∃fo args ui,o= .call ⟨.value fo,args,ui⟩/\ev G tm fo=some (.func (.yield l) [] [])/\di (ev G tm) args.toList=some as:=by
   unfold ER at h;split at h
   ·rename_i fo args ui;split at h
    ·rename_i l' as' h1 h2;cases h
     exact⟨fo,args,ui,rfl,h1,h2⟩
    ·cases h
   ·cases h
section
variable{y:EP}{F:Fence}{N:Nat}{E:Env}{w:World}
theorem HK(hF:Mw F)(hC:jl y.cf (call y.cf)){o:Oper}{tm:Nat->af}{hp:aG}{g:LS}{K:(Nat->af)->aG->LS->Prop}{a:Act}{next:Act->World->Prop}{Q:NV->Prop}(hs:QB y o tm hp g K)(rel:sh y E w tm hp g a)(hN:a.tmps.size=N)
  (hd: ∀d,o.dst=some d->d<N)
  (hK: ∀(p0:Nat->af)(su:aG)(g':LS)(E':Env)(w':World)(a':Act),K p0 su g'->sh y E' w' p0 su g' a'->jq y.Γ E hp w E' su w'->a'.tmps.size=N->next a' w'):o.wpIn F 0 y.cf.P a w next (uA y E hp w N Q):=by
   refine⟨fun f _=>hF.fn f,?_⟩
   have fin: ∀(v:af)(h':aG)(g':LS)(u:Value)(w':World)(E':Env),K (jL tm o.dst v) h' g'->eG E' h' w'->Full E' h'->jq y.Γ E hp w E' h' w'->de E' w' v u->rF y.Γ g' E' w'->next (a.put o.dst u) w':=by
    intro v h' g' u w' E' hk s' f' x' r' l';exact hK _ _ g' E' w' _ hk ⟨s',f',rel.QC.EO rel.qj rel.ln x',(rel.tm.EO rel.qj rel.ln x').put r' (by rw[hN];exact hd),by rw[put_defers];exact rel.df.ext x' rel.nl,l',by rw[put_defers];exact rel.nl,aa3 rel.bl.1 x'.size,by rw[put_defers];exact rel.bl.2⟩ x' (by rw[qC];exact hN)
   have ops: ∀xs,iA y.cf.G E w tm a.eval xs:=fun xs=>⟨fun x _ v hv=>Aq rel.QC rel.tm hv,fun _=>rfl⟩;unfold QB at hs;split at hs
   ·rename_i yM;have UN: ∀c,o.op≠ .defer c:=fun c e=>by rw[e]at yM;cases yM
    rw[Oper.semAt_eq _ _ _ UN];split at hs
    ·rename_i l as hy;obtain⟨fo,args,ui,ho,JJ,has⟩:=EU hy;split at hs
     ·rename_i c hc;obtain⟨rfl,hyt⟩:=jn hs;obtain⟨dst,op,ty,pos,after,guard⟩:=o;simp only at ho;subst ho;have hl:=rel.ln;rw[hc]at hl;have PV:hH E w as (args.map a.eval):=iA.list (ops (Op.call ⟨.value fo,args,ui⟩).operands) (ys:=args) (fun y hy=>by simp[Op.operands,Call.operands,hy]) has;obtain⟨va,vb,X6,l1,l2,r1,r2⟩:=(ops (Op.call ⟨.value fo,args,ui⟩).operands fo (by simp[Op.operands,Call.operands]) _ JJ).func2;have O7:va= #[]:=by simpa using l1.symm
      have Xc:vb= #[]:=by simpa using l2.symm
      subst O7 Xc;have jP:(args.map a.eval).size=c.rc.params.size:=by rw[<-hyt.1];exact PV.1.symm
      have gq:(execOp a.eval {dst,op:=.call ⟨.value fo,args,ui⟩,type:=ty,pos,after,guard}).run y.cf.P w= .ok (.round c.l c.rc.fn ((c.rc.params.zip (args.map a.eval)).foldl (fun t(p,v)=>t.setIfInBounds p v) c.rc.tmps) c.rc.assign c.rc.body) w:=by
       have:=run_yield (P:=y.cf.P) (args:=args.map a.eval) hl.1 jP;simp only[execOp,resolve,X6,Deferred.ofValue,aa7,Sem.run_pure,aaE,invoke];simpa using this
      rw[gq];refine⟨hF.depth,?_⟩;refine RoundIn.mono (hF.round (hyt.2 E w _ rel.qj rel.full rel.QC PV hl)) fun e w' he=>?_
      cases e with
      |returned u=>
       obtain⟨v,h',g',E',hq,s',f',x',r',l'⟩:=he
       exact fin v h' g' u w' E' (sU hq) s' f' (by rw[hc];exact x') r' (by rw[hc];exact l')
      |panicked chain=>exact he.elim
      |outgrown=>exact he.elim
     ·exact hs.elim
    ·split at hs
     ·rename_i f args hv;obtain⟨vs,gq,lU,hb⟩:=nW (ops _) hv;rw[gq];refine⟨hF.depth,?_⟩;split at hs
      ·have hcy:=jn hs;refine CallsIn.mono (hF.calls (hcy E w vs rel.qj rel.full rel.QC lU rel.ln)) fun e w' he=>?_
       cases e with
       |returned u=>
        obtain⟨v,h',g',E',hq,s',f',x',r',l'⟩:=he
        exact fin v h' g' u w' E' (sU hq) s' f' x' r' l'
       |panicked chain=>exact he.elim
       |outgrown=>exact he.elim
      ·obtain⟨r,hr,hq⟩:=jn hs;refine CallsIn.mono (hF.calls (hC f args hp r hr E w vs hb rel.qj rel.full rel.QC lU)) fun e w' he=>?_
       cases e with
       |returned u=>
        obtain⟨v,h',E',rfl,s',f',x',r'⟩:=he
        exact fin v h' g u w' E' (sU hq) s' f' x'.ZO r' (rel.ln.ext rel.qj x')
       |panicked chain=>
        obtain⟨v,h',E',u,rfl,_⟩:=he
        exact hq.elim
       |outgrown=>exact he.elim
     ·exact hs.elim
   ·split at hs
    ·rename_i hu;obtain⟨dst,op,ty,pos,after,guard⟩:=o;simp only at hu hs;unfold QA at hu;split at hu
     ·rename_i t x yo t2 _;split at hu
      ·rename_i e hn hx ht;have O7:=(ops (Op.binOp .eql t x yo t2).operands) x (by simp[Op.operands]) _ hx;have Xc:a.eval yo= .slice none 0 0:=by rw[Df hn];rfl
       have UN: ∀c,(Op.binOp BinOp.eql t x yo t2)≠ .defer c:=fun c e=>by cases e
       rw[Oper.semAt_eq _ _ _ UN]
       cases O7 with
       |fJ hc=>
        generalize ZP:a.eval x=vx at hc
        cases hc with
        |sl _ ad cap s b o' vs h1 h2 h3 h4 h5=>
         have gq:(execOp a.eval {dst,op:=.binOp .eql t x yo t2,type:=ty,pos,after,guard}).run y.cf.P w= .ok (.value (.bool ad.isNone)) w:=by
          simp only[execOp,ZP,Xc,aa7];rw[show(eqGuard .eql t x yo (.slice ad ([]:List af).length cap) (.slice none 0 0)).run y.cf.P w= .ok () w from rfl];simp only[aaE];rw[vN t e ad _ cap ht];rfl
         rw[gq];exact fin (.bool ad.isNone) hp g _ w E (jJ (K:=fun tm=>K tm hp g) (hs ad.isNone)) rel.qj rel.full (jq.refl _ _ _ _) (.fJ (.bool _)) rel.ln
      ·cases hu
     ·cases hu
    obtain⟨v,h',hv,hk⟩:=Kl hs;have zE:K (jL tm o.dst v) h' g:=jJ (K:=fun tm=>K tm h' g) (gG (K:=fun v=>nE tm o.dst v fun tm=>K tm h' g) hk);have UN: ∀c,o.op≠ .defer c:=fun c e=>by rw[e,ET]at hv;cases hv
    rw[Oper.semAt_eq _ _ _ UN];obtain⟨u,w',E',gq,s',f',x',r'⟩:=AF rel.qj rel.full (ops _) hv;rcases gq with gq|⟨gq,rfl⟩
    ·rw[gq];exact fin v h' g u w' E' zE s' f' x'.ZO r' (rel.ln.ext rel.qj x')
    ·rw[gq];exact fin v h' g undef w' E' zE s' f' x'.ZO r' (rel.ln.ext rel.qj x')
theorem xT{P:Program}{id:Nat}{ops:Array Oper}{Q:Exit->Act->World->Prop}{n:Nat}(R:List Oper->Act->World->Prop)(JT: ∀a w,R [] a w->Q .normal a w)
  (Yy: ∀o rest a w,R (o::rest) a w->(Region.wanted o (yielded ops a.tmps)=true/\o.wpIn F n P a w (R rest) Q)∨(Region.wanted o (yielded ops a.tmps)=false/\R rest (a.put o.dst undef) w)) (hF:Mw F)
  {a:Act} {w:World} (h:R ops.toList a w):(Code.region id ops false).wpIn F n P Q a w:=by
   refine wpIn_region ?_
   have key: ∀(m i:Nat)(a:Act)(w:World),i+m=ops.size->R (ops.toList.drop i) a w->wpOpsIn F n P ops Q (List.range' i m) a w:=by
    intro m
    induction m with
    |zero=>
     intro i a w hi hr;rw[List.drop_of_length_le (by simp;omega)]at hr
     exact JT a w hr
    |succ m ih=>
     intro i a w hi hr;have fK:i<ops.size:=by omega
     have hd:ops.toList.drop i=ops[i]::ops.toList.drop (i+1):=by
      rw[aaf (by simpa using fK)];simp
     rw[hd]at hr;simp only[List.range'_succ,wpOpsIn,abb fK];rcases Yy _ _ a w hr with⟨hw,h1⟩|⟨hw,h1⟩
     ·rw[if_pos hw];refine⟨h1.1,?_⟩;have h2:=h1.2;generalize(Oper.semAt F.round a.eval ops[i]).run P w=q at h2⊢
      cases q with
      |ok x w'=>
       cases x<;>simp only[Oper.uponIn]at h2⊢ <;>first
        |exact ih _ _ _ (by omega) h2
        |exact⟨h2.1,CallsIn.mono h2.2 (fun e ZF he=>by cases e with
         |returned v=>exact ih _ _ _ (by omega) he
         |panicked c=>exact he
         |outgrown=>exact he)⟩
        |exact⟨h2.1,RowsIn.mono h2.2 (fun _ _ he=>ih _ _ _ (by omega) he)⟩
        |exact⟨h2.1,RoundIn.mono h2.2 (fun e ZF he=>by cases e with
         |returned v=>exact ih _ _ _ (by omega) he
         |panicked c=>exact he
         |outgrown=>exact he)⟩
      |halt x w'=>cases x<;>simp only[Oper.uponIn]at h2⊢ <;>exact h2
     ·rw[if_neg (by rw[hw];exact Bool.false_ne_true)];exact⟨fun f _=>hF.fn f,ih _ _ _ (by omega) h1⟩
   have:=key ops.size 0 a w (by omega) (by simpa using h);rw[List.range_eq_range'];exact this
theorem Kz(hF:Mw F)(hC:jl y.cf (call y.cf)){id:Nat}{ops:Array Oper}(hd: ∀o∈ops.toList,∀d,o.dst=some d->d<N){Q:NV->Prop}{tm:Nat->af}{hp:aG}{g:LS}{a:Act}(h:A7 y ops (fun tm hp g=>Q (.norm tm hp g)) ops.toList tm hp g)(rel:sh y E w tm hp g a)(hN:a.tmps.size=N):
  (Code.region id ops false).wpIn F 0 y.cf.P (uA y E hp w N Q) a w:=by
   refine xT (fun l a' w'=>(∀o∈l,∀d,o.dst=some d->d<N)/\ ∃p0 su g' E',A7 y ops (fun tm hp g=>Q (.norm tm hp g)) l p0 su g'/\sh y E' w' p0 su g' a'/\jq y.Γ E hp w E' su w'/\a'.tmps.size=N) (fun a' w'=>?_) (fun o rest a' w'=>?_) hF ⟨hd,tm,hp,g,E,h,rel,jq.refl _ _ _ _,hN⟩
   ·rintro ⟨_,p0,su,g',E',h1,h2,h3,h4⟩
    exact⟨p0,su,g',E',h1,h2,h3,h4⟩
   ·rintro ⟨JA,p0,su,g',E',h1,h2,h3,h4⟩
    have X8:=JA o (by simp);have hdr: ∀o∈rest,∀d,o.dst=some d->d<N:=fun o' iP=>JA o' (by simp[iP]);obtain⟨VO,PY⟩:=v8 (ops:=ops) (o:=o) h2.tm
    have go:QB y o p0 su g' (A7 y ops (fun tm hp g=>Q (.norm tm hp g)) rest)->o.wpIn F 0 y.cf.P a' w' (fun a' w'=>(∀o∈rest,∀d,o.dst=some d->d<N)/\ ∃p0 su g' E',A7 y ops (fun tm hp g=>Q (.norm tm hp g)) rest p0 su g'/\sh y E' w' p0 su g' a'/\jq y.Γ E hp w E' su w'/\a'.tmps.size=N) (uA y E hp w N Q):=by
     intro hs;have:=HK (Q:=Q) hF hC (next:=fun a' w'=>(∀o∈rest,∀d,o.dst=some d->d<N)/\ ∃p0 su g' E',A7 y ops (fun tm hp g=>Q (.norm tm hp g)) rest p0 su g'/\sh y E' w' p0 su g' a'/\jq y.Γ E hp w E' su w'/\a'.tmps.size=N) hs h2 h4 X8 fun Yz Jv g2 E2 w2 a2 k1 k2 k3 k4=>⟨hdr,Yz,Jv,g2,E2,k1,k2,h3.trans k3,k4⟩;refine⟨this.1,?_⟩;have h5:=this.2;generalize(Oper.semAt F.round a'.eval o).run y.cf.P w'=q at h5⊢
     cases q with
     |ok x w2=>
      cases x<;>simp only[Oper.uponIn]at h5⊢ <;>first
       |exact h5
       |exact⟨h5.1,CallsIn.mono h5.2 (fun e ZF he=>by cases e with
        |returned v=>exact he
        |panicked c=>exact he.elim
        |outgrown=>obtain⟨_,_,h⟩:=he;exact h.elim)⟩
       |exact⟨h5.1,RoundIn.mono h5.2 (fun e ZF he=>by cases e with
        |returned v=>exact he
        |panicked c=>exact he.elim
        |outgrown=>obtain⟨_,_,h⟩:=he;exact h.elim)⟩
     |halt x w2=>cases x<;>simp only[Oper.uponIn]at h5⊢ <;>first|exact h5|exact h5.elim
    simp only[A7]at h1
    cases hg:eL ops o p0 with
    |none=>
     rw[hg]at h1
     exact .inl ⟨VO hg,go h1⟩
    |some t=>
     rw[hg]at h1;rcases fT h1 with⟨rfl,h1⟩|⟨rfl,h1⟩
     ·exact .inl ⟨PY true hg,go h1⟩
     ·exact .inr ⟨PY false hg,hdr,_,su,g',E',jJ (K:=fun tm=>A7 y ops (fun tm hp g=>Q (.norm tm hp g)) rest tm su g') h1,h2.skip (by rw[h4];exact X8),h3,by rw[qC];exact h4⟩
end
end Go.Am
set_option maxHeartbeats 4000000
namespace Go.Am
open Go
def jV(N:Nat):Code->Bool
 | .region _ ops _=>ops.toList.all fun o=>match o.dst with|some d=>decide (d<N)|none=>true
 | .seq a b=>jV N a&&jV N b
 | .cond _ a b=>jV N a&&jV N b
 | .block _ c=>jV N c
 | .loop c=>jV N c
 |_=>true
theorem uU{N N':Nat}(hN:N<=N'): ∀c:Code,jV N c=true->jV N' c=true:=by
 intro c
 induction c with
 |region id ops d=>
  intro h;simp only[jV]at h⊢;refine aaj.2 fun o ho=>?_;have:=aaj.1 h o ho
  cases hd:o.dst with
  |none=>rfl
  |some d=>simp only[hd,decide_eq_true_eq]at this⊢;exact abc this hN
 |seq a b sC sD=>intro h;simp only[jV,xz]at h⊢;exact⟨sC h.1,sD h.2⟩
 |cond c a b sC sD=>intro h;simp only[jV,xz]at h⊢;exact⟨sC h.1,sD h.2⟩
 |block id c ih=>intro h;simp only[jV]at h⊢;exact ih h
 |loop c ih=>intro h;simp only[jV]at h⊢;exact ih h
 |_=>intro _;rfl
theorem CF{F:Fence}{n:Nat}{P:Program}{Q:Exit->Act->World->Prop}{c:Code}(hF:Mw F)(J:Nat->Act->World->Prop)(round: ∀m a w,J m a w->c.wpIn F n P (Exit.then (fun a' w'=>∃k,k<m/\J k a' w') Q) a w): ∀m a w,J m a w->(Code.loop c).wpIn F n P Q a w:=by
 intro m a w h0 b k cs X7 hb hr
 have key: ∀m a w,J m a w-> ∃e a' w',Q e a' w'/\ArrivesIn (Machine.fenced P F) P (lone (b.atR a (.code c:: .inLoop c::k)) cs w) b k cs e a' w':=by
  intro m
  induction m using Nat.strongRecOn with
  |_ m ih=>
   intro a w hJ;obtain⟨e,a₁,w₁,hq,ox⟩:=round m a w hJ b (.inLoop c::k) cs X7 hb hr
   cases e with
   |normal=>
    obtain⟨k',hk,hJ₁⟩:=hq;obtain⟨e₂,a₂,w₂,hq₂,Qd⟩:=ih k' hk a₁ w₁ hJ₁
    exact⟨e₂,a₂,w₂,hq₂,.of_steps (StepsIn.trans ox (.one (fenced_calm hb hr rfl) stepR_inLoop)) Qd⟩
   |exit id=>exact⟨_,a₁,w₁,hq,.pass (x:=.inLoop c) rfl (fun _ _=>.inl (by simp)) ox⟩
   |goto l=>exact⟨_,a₁,w₁,hq,.pass (x:=.inLoop c) rfl (fun _ _=>.inl (by simp)) ox⟩
   |ret=>exact⟨_,a₁,w₁,hq,.pass (x:=.inLoop c) rfl (fun _ _=>.inl (by simp)) ox⟩
   |panic ch=>exact⟨_,a₁,w₁,hq,.pass (x:=.inLoop c) rfl (fun _ _=>.inl (by simp)) ox⟩
   |outgrown=>exact⟨_,a₁,w₁,hq,.pass (x:=.inLoop c) rfl (fun _ _=>.inl (by simp)) ox⟩
 obtain⟨e,a',w',hq,ox⟩:=key m a w h0;exact⟨e,a',w',hq,.of_steps (.one (fenced_calm hb hr rfl) stepR_loop) ox⟩
theorem eG.grow{E:Env}{h:aG}{w w':World}(s:eG E h w)(hw: ∀b,b<w.heap.size->w'.heap[b]?=w.heap[b]?)(hs:w.heap.size<=w'.heap.size)(VC:w'.os=w.os)(ht:w'.tape=w.tape)(ho:w'.output=w.output):
  eG E h w'/\Ext E h w E h w':=by
   have hx:Ext E h w E h w':=⟨⟨fun _ h=>h,fun _ h=>.inl h,fun b hb _=>hw b hb,fun _ _ h=>.inl h,fun _ h=>.inl h,aah _,hs,VC,ht,ho⟩,fun _ _ h=>h⟩;exact⟨⟨fun id o sl dm hm=>(s.obj id o sl dm hm).mono (fun a v hr=>hr.ext hx s) fun b hb=>hw b (s.lt b ⟨id,sl,hm,hb⟩),s.inj,s.nS,fun b hb=>abc (s.lt b hb) hs,fun b hb=>abc (s.pM b hb) hs⟩,hx⟩
theorem eG.qo{E:Env}{h:aG}{w:World}(s:eG E h w){l:Nat}(o:Obj)(h1: ¬E.S l)(h2: ¬E.im l):eG E h (w.putObj l o)/\(∀a v,de E w a v->de E (w.putObj l o) a v):=by
 have hw: ∀b,b≠l->(w.putObj l o).heap[b]?=w.heap[b]?:=fun b hb=>World.putObj_heap_other hb;have hr: ∀a v,de E w a v->de E (w.putObj l o) a v:=fun a v hr=>hr.mono (fun _ h=>h) (fun b hb=>hw b fun e=>h1 (e▸hb)) fun _ _ h=>.inl h;refine⟨⟨fun id ob sl dm hm=>(s.obj id ob sl dm hm).mono hr fun b hb=>hw b fun e=>h2 (e▸⟨id,sl,hm,hb⟩),s.inj,s.nS,fun b hb=>?_,fun b hb=>?_⟩,hr⟩
 ·rw[World.putObj_size];exact s.lt b hb
 ·rw[World.putObj_size];exact s.pM b hb
theorem jq.qo{c:Lp}{E:Env}{h:aG}{w:World}(o:Obj):jq (some c) E h w E h (w.putObj c.l o):=
 ⟨fun _ h=>h,fun _ h=>.inl h,fun b _ _ hb=>World.putObj_heap_other hb,fun _ _ h=>.inl h,fun _ h=>.inl h,aah _,by rw[World.putObj_size];exact aah _,rfl,rfl,rfl,fun _ _ h=>h⟩
theorem rF.qo{c:Lp}{g g':LS}{E:Env}{h:aG}{w:World}(s:eG E h w)(hl:rF (some c) g E w):rF (some c) g' E (w.putObj c.l (.loop {c.rc with state:=g'.st,pending:=g'.nC})):=by
 have fK:=hl.lt;obtain⟨h1,h2,h3,h4⟩:=hl;exact⟨World.putObj_heap_same fK,h2,h3,fun k=>(s.qo _ h2 h3).2 _ _ (h4 k)⟩
section
variable{y:EP}{F:Fence}
theorem uV(hF:Mw F)(X7:y.Γ=none->F.round=none)(hC:jl y.cf (call y.cf)){N:Nat}(hN0:y.N<=N): ∀(c:Code)(Q:NV->Prop)(tm:Nat->af)(hp:aG)(g:LS),xS y c Q tm hp g->jV N c=true-> ∀(E:Env)(w:World)(a:Act),sh y E w tm hp g a->a.tmps.size=N->
  c.wpIn F 0 y.cf.P (uA y E hp w N Q) a w:=by
   intro c
   induction c with
   |skip=>intro Q tm hp g h eb E w a rel hN;exact wpIn_skip ⟨tm,hp,g,E,h,rel,jq.refl _ _ _ _,hN⟩
   |label l=>intro Q tm hp g h eb E w a rel hN;exact wpIn_label ⟨tm,hp,g,E,h,rel,jq.refl _ _ _ _,hN⟩
   |exit id=>intro Q tm hp g h eb E w a rel hN;exact wpIn_exit ⟨tm,hp,g,E,h,rel,jq.refl _ _ _ _,hN⟩
   |ret=>intro Q tm hp g h eb E w a rel hN;exact wpIn_ret ⟨tm,hp,g,E,h,rel,jq.refl _ _ _ _,hN⟩
   |region id ops d=>
    intro Q tm hp g h eb E w a rel hN
    cases d with
    |true=>exact h.elim
    |false=>
     simp only[jV]at eb;refine Kz hF hC (fun o ho d hd=>?_) h rel hN;have:=aaj.1 eb o ho
     simpa[hd]using this
   |seq x z VU ihz=>
    intro Q tm hp g h eb E w a rel hN;simp only[jV,xz]at eb;refine wpIn_seq (wpIn_mono (VU _ tm hp g h eb.1 E w a rel hN) fun e a' w' he=>?_)
    cases e with
    |normal=>
     obtain⟨p0,su,g',E',hq,jT,x',zH⟩:=he
     exact wpIn_mono (ihz Q p0 su g' hq eb.2 E' w' a' jT zH) (uA.from x')
    |exit id=>exact he
    |ret=>exact he
    |panic ch=>exact he
    |goto l=>exact he
    |outgrown=>exact he
   |cond c x z VU ihz=>
    intro Q tm hp g h eb E w a rel hN;simp only[jV,xz]at eb;simp only[xS]at h;split at h
    ·rename_i t ht;have hc:a.eval c= .bool t:=(Aq rel.QC rel.tm ht).bool;refine wpIn_cond hc ?_;rcases fT h with⟨rfl,h⟩|⟨rfl,h⟩
     ·exact VU Q tm hp g h eb.1 E w a rel hN
     ·exact ihz Q tm hp g h eb.2 E w a rel hN
    ·exact h.elim
   |block id x ih=>
    intro Q tm hp g h eb E w a rel hN;simp only[jV]at eb;refine wpIn_block (wpIn_mono (ih _ tm hp g h eb E w a rel hN) fun e a' w' he=>?_)
    cases e with
    |normal=>exact he
    |exit j=>
     obtain⟨p0,su,g',E',hq,jT,x',zH⟩:=he;simp only[Exit.inBlock]
     by_cases hj:j=id
     ·rw[if_pos hj];refine⟨p0,su,g',E',?_,jT,x',zH⟩;simp only at hq
      cases hd:Nat.decEq j id with
      |isTrue _=>simpa only[hd]using hq
      |isFalse n=>exact(n hj).elim
     ·rw[if_neg hj];refine⟨p0,su,g',E',?_,jT,x',zH⟩;simp only at hq
      cases hd:Nat.decEq j id with
      |isTrue n=>exact(hj n).elim
      |isFalse n=>simpa only[hd]using hq
    |ret=>exact he
    |panic ch=>exact he
    |goto l=>exact he
    |outgrown=>exact he
   |loop x ih=>
    intro Q tm hp g h eb E w a rel hN;simp only[jV]at eb;obtain⟨I,n,hI,hr⟩:=h;refine CF hF (fun m a' w'=>∃p0 su g' E',I m p0 su g'/\sh y E' w' p0 su g' a'/\jq y.Γ E hp w E' su w'/\a'.tmps.size=N) (fun m a' w' hJ=>?_) n a w ⟨tm,hp,g,E,hI,rel,jq.refl _ _ _ _,hN⟩;obtain⟨p0,su,g',E',V0,jT,x',zH⟩:=hJ;refine wpIn_mono (ih _ p0 su g' (hr m p0 su g' V0) eb E' w' a' jT zH) fun e a2 w2 he=>?_
    cases e with
    |normal=>
     obtain⟨Yz,Jv,g2,E2,⟨k,hk,hIk⟩,EB,x2,VV⟩:=he
     exact⟨k,hk,Yz,Jv,g2,E2,hIk,EB,x'.trans x2,VV⟩
    |exit id=>exact uA.from x' (.exit id) a2 w2 he
    |ret=>exact uA.from x' .ret a2 w2 he
    |panic ch=>exact he
    |goto l=>exact he
    |outgrown=>exact he
   |scope x ih=>intro Q tm hp g h;exact h.elim
   |goto l=>intro Q tm hp g h;exact h.elim
   |refuse wy=>intro Q tm hp g h;exact h.elim
   |rangeFunc f params assign body _ _=>
    intro Q tm hp g h eb E w a rel hN;simp only[xS]at h;split at h
    ·exact h.elim
    ·rename_i hΓ;split at h
     ·rename_i gf cap hf;obtain⟨aa4,h⟩:=h;refine wpIn_rangeFunc fun fn Jw=>?_;rw[X7 hΓ];obtain⟨va,vb,X6,l1,l2,r1,r2⟩:=(Aq rel.QC rel.tm hf).func2;have O7:va= #[]:=by simpa using l1.symm
      subst O7
      let c:Lp:={l:=w.heap.size+1,rc:={state:=.ready,pending:=none,fn,tmps:=a.tmps,params,assign,body,defers:=w.heap.size},Ho:=tm}
      let w1:World:=(w.alloc (.deferred (some []))).alloc (.loop c.rc)
      have YA: ∀b,b<w.heap.size->w1.heap[b]?=w.heap[b]?:=fun b hb=>(eX _ _ (by rw[World.size_alloc];omega)).trans (eX _ _ hb);have XK:w1.heap.size=w.heap.size+2:=by show((w.alloc _).alloc _).heap.size=_;rw[World.size_alloc,World.size_alloc]
      obtain⟨s1,x1⟩:=rel.qj.grow (w':=w1) YA (by omega) rfl rfl rfl
      have hL1:w1.heap[w.heap.size+1]?=some (.loop c.rc):=by
       have:=World.alloc_heap_new (w.alloc (.deferred (some []))) (.loop c.rc)
       rwa [World.size_alloc]at this
      have Gh:w1.heap[w.heap.size]?=some (.deferred (some [])):=(eX _ _ (by rw[World.size_alloc];omega)).trans (World.alloc_heap_new w _);have nS: ∀b,w.heap.size<=b-> ¬E.S b:=fun b hb hS=>by have:=rel.qj.pM b hS;omega
      have nI: ∀b,w.heap.size<=b-> ¬E.im b:=fun b hb hS=>by have:=rel.qj.lt b hS;omega
      have Jy:rF (some c) ⟨.ready,none⟩ E w1:=⟨hL1,nS _ (by show _<=w.heap.size+1;omega),nI _ (by show _<=w.heap.size+1;omega),fun k=>(rel.tm k).ext x1 rel.qj⟩;refine⟨w.heap.size+1,[{target:=.collected w.heap.size,args:=#[]}],w1,{target:=.fn (.func gf) vb,args:=#[.func (.yield (w.heap.size+1)) #[] #[]]},w1,gf,#[.func (.yield (w.heap.size+1)) #[] #[]]++vb,w1,?_,?_,fun f' _=>hF.fn f',?_,hF.depth,?_⟩
      ·exact run_enterLoop_outer _ _ _ _ _
      ·have aa5:a.eval f=Value.func (.func gf) #[] vb:=X6;simp only[resolve,aa5,Deferred.ofValue,aa7,Sem.run_pure,aaE,List.map_toArray,aao,abA];simp;rfl
      ·simp only[invoke];exact rz aa4 _
      ·have lU:hH E w1 (.func (.yield (w.heap.size+1)) [] []::cap) (#[.func (.yield (w.heap.size+1)) #[] #[]]++vb):=by
        refine hH.cons (.func _ [] [] #[] #[] rfl rfl (fun i c v hc=>by simp at hc) (fun i c v hc=>by simp at hc)) ⟨l2,fun i c v hc hv=>(r2 i c v hc hv).ext x1 rel.qj⟩
       have yM:=h c rfl rfl rfl rfl (by show y.N<=a.tmps.size;omega) E w1 _ s1 rel.full (rel.QC.ext rel.qj x1) lU Jy;refine CallsIn.mono (hF.calls yM) fun e w3 he=>?_
       cases e with
       |panicked chain=>exact he.elim
       |outgrown=>exact he.elim
       |returned u=>
        obtain⟨v,h',g',E',⟨YB,hq⟩,s',f',x',r',l'⟩:=he;have ZQ:w3.heap[c.l]?=some (.loop {c.rc with state:=g'.st,pending:=g'.nC}):=l'.1;refine⟨g'.nC,_,run_endLoop ZQ (by exact YB),?_⟩;obtain⟨s4,r4⟩:=s'.qo (.loop {c.rc with state:=.exhausted,pending:=g'.nC}) l'.2.1 l'.2.2.1;have hD3:w3.heap[w.heap.size]?=some (.deferred (some [])):=(x'.mem _ (by omega) (nI _ (aah _)) (by show¬w.heap.size=w.heap.size+1;omega)).trans Gh
        have x4:jq y.Γ E hp w E' h' (w3.putObj c.l (.loop {c.rc with state:=.exhausted,pending:=g'.nC})):=by
         rw[hΓ];refine⟨x'.S,fun b hb=>?_,fun b hb hi _=>?_,x'.m,fun b hb=>?_,x'.len,?_,x'.os,x'.tape,x'.output,x'.fresh⟩
         ·rcases x'.SN b hb with h|h|h
          ·exact .inl h
          ·exact .inr (.inl h)
          ·exact .inr (.inr (by omega))
         ·have mD:b≠c.l:=by show b≠w.heap.size+1;omega
          exact(World.putObj_heap_other mD).trans ((x'.mem b (by omega) hi (fun e=>mD e)).trans (YA b hb))
         ·rcases x'.new b hb with h|h
          ·exact .inl h
          ·exact .inr (by omega)
         ·rw[World.putObj_size];have:=x'.size;omega
        have aa6: ∀d∈a.defers,d.target≠ .collected w.heap.size:=by
         have: ∀ds,qn E w ds-> ∀d∈ds,d.target≠ .collected w.heap.size:=by
          intro ds
          induction ds with
          |nil=>intro _ d hd;simp at hd
          |cons d0 ds ih=>
           intro eb d hd he;obtain⟨⟨D,h1,h2,_⟩,Au⟩:=eb;rcases aaz.1 hd with rfl|hd
           ·rw[h1]at he;cases he
            have:=(aaR.1 h2).1;omega
           ·exact ih Au d hd he
         exact this _ rel.df
        have YC: ∀(D:Nat),¬Ld y.Γ D:=fun D=>by rw[hΓ];exact id
        have QD:sh y E' (w3.putObj c.l (.loop {c.rc with state:=.exhausted,pending:=g'.nC})) tm h' g {a with defers:=[{target:=.collected w.heap.size,args:=#[]}]++a.defers}:=by
         refine⟨s4,f',rel.QC.EO rel.qj rel.ln x4,rel.tm.EO rel.qj rel.ln x4,⟨⟨w.heap.size,rfl,?_,fun hS=>?_,fun hi=>?_,aa6⟩,?_⟩,by rw[hΓ];trivial,fun d _ D _=>YC D,aa3 rel.bl.1 x4.size,fun d hd D hD=>?_⟩
         ·exact(World.putObj_heap_other (by show w.heap.size≠w.heap.size+1;omega)).trans hD3
         ·rcases x'.SN _ hS with h|h|h
          ·exact nS _ (aah _) h
          ·exact nI _ (aah _) h
          ·omega
         ·rcases x'.new _ hi with h|h
          ·exact nI _ (aah _) h
          ·omega
         ·exact rel.df.ext x4 fun d hd D hD=>YC D
         ·rcases aaz.1 hd with rfl|hd
          ·cases hD;exact rel.bl.1
          ·exact rel.bl.2 d hd D hD
        cases su:g'.nC with
        |none=>
         rw[su]at hq QD x4
         exact⟨tm,h',g,E',hq,QD,x4,hN⟩
        |some j=>
         rw[su]at hq QD x4
         cases j<;>first
          |exact hq.elim
          |exact wpIn_ret ⟨tm,h',g,E',hq,QD,x4,hN⟩
          |exact wpIn_exit ⟨tm,h',g,E',hq,QD,x4,hN⟩
     ·exact h.elim
end
end Go.Am

/- Ranges over functions: code, rounds, the statement itself, calls. -/
import Derived.Test.YtfepbikckfehlaaGreatGH9
import Derived.Test.YtfepbikckfehlaaGreatGSBmW
import Derived.RangeFuncRecord
set_option linter.unusedVariables false
set_option linter.unusedSimpArgs false
set_option maxHeartbeats 4000000
namespace Go.Am
open Go
structure Lp where
 l:Nat
 rc:Loop
 Fg:Nat->af
structure LS where
 st:LoopState
 l7:Option Code
def qe(Γ:Option Lp)(g:LS)(E:Env)(w:World):Prop:=match Γ with
 |none=>True
 |some c=>w.heap[c.l]?=some (.loop {c.rc with state:=g.st,pending:=g.l7})/\ ¬E.S c.l/\ ¬E.im c.l/\kp E w c.Fg {tmps:=c.rc.tmps,defers:=[]}
def Ld(Γ:Option Lp)(b:Nat):Prop:=match Γ with
 |none=>False
 |some c=>b=c.l
structure ij(Γ:Option Lp)(E:Env)(h:aC)(w:World)(E':Env)(h':aC)(w':World):Prop where
 S: ∀b,E.S b->E'.S b
 SN: ∀b,E'.S b->E.S b∨E.im b∨w.heap.size<=b
 mem: ∀b,b<w.heap.size-> ¬E.im b-> ¬Ld Γ b->w'.heap[b]?=w.heap[b]?
 m: ∀id s,E.m id=some s->E'.m id=some s∨E'.m id=some .dead
 new: ∀b,E'.im b->E.im b∨w.heap.size<=b
 len:h.length<=h'.length
 size:w.heap.size<=w'.heap.size
 os:w'.os=w.os
 tape:w'.tape=w.tape
 output:w'.output=w.output
 fresh: ∀id,id<h.length->E.m id=none->E'.m id=none
theorem Ext.X5{Γ:Option Lp}{E E':Env}{h h':aC}{w w':World}(x:Ext E h w E' h' w'):ij Γ E h w E' h' w':=
 ⟨x.S,x.SN,fun b h1 h2 _=>x.mem b h1 h2,x.m,x.new,x.len,x.size,x.os,x.tape,x.output,x.fresh⟩
theorem ij.refl(Γ:Option Lp)(E:Env)(h:aC)(w:World):ij Γ E h w E h w:=(Ext.refl E h w).X5
theorem ij.trans{Γ:Option Lp}{E E1 E2:Env}{h h1 h2:aC}{w w1 w2:World}(a:ij Γ E h w E1 h1 w1)(b:ij Γ E1 h1 w1 E2 h2 w2):ij Γ E h w E2 h2 w2 where
 S:=fun x hx=>b.S x (a.S x hx)
 SN:=fun x hx=>by
  rcases b.SN x hx with h|h|h
  ·exact a.SN x h
  ·exact .inr (a.new x h)
  ·exact .inr (.inr (bw a.size h))
 mem:=fun x hx hn hd=>by
  have h1: ¬E1.im x:=fun hi=>by
   rcases a.new x hi with h|h
   ·exact hn h
   ·omega
  exact(b.mem x (Nat.lt_of_lt_of_le hx a.size) h1 hd).trans (a.mem x hx hn hd)
 m:=fun id s hs=>by
  rcases a.m id s hs with h|h
  ·exact b.m id s h
  ·rcases b.m id _ h with h|h<;>exact .inr h
 new:=fun x hx=>by
  rcases b.new x hx with h|h
  ·exact a.new x h
  ·exact .inr (bw a.size h)
 len:=bw a.len b.len
 size:=bw a.size b.size
 os:=b.os.trans a.os
 tape:=b.tape.trans a.tape
 output:=b.output.trans a.output
 fresh:=fun id h1 h2=>b.fresh id (Nat.lt_of_lt_of_le h1 a.len) (a.fresh id h1 h2)
section
variable{cf:dS}{Γ:Option Lp}{g:LS}{E E':Env}{h h':aC}{w w':World}
theorem qe.Uh(hl:qe Γ g E w){b:Nat}(hb:E.S b): ¬Ld Γ b:=by
 cases Γ with
 |none=>exact id
 |some c=>intro e;simp only[Ld]at e;subst e;exact hl.2.1 hb
theorem ck.Dm(x:ij Γ E h w E' h' w')(s:dL E h w)(hl:qe Γ g E w){a:af}{v:Value}(hr:ck E w a v):ck E' w' a v:=
 hr.mono x.S (fun b hb=>x.mem b (s.nQ b hb) (fun hi=>s.nS b hi hb) (hl.Uh hb)) x.m
theorem sE.Dm{G:Nat->Option af}(hg:sE G E.S w)(s:dL E h w)(hl:qe Γ g E w)(x:ij Γ E h w E' h' w'):sE G E'.S w':=
 hg.mono x.S fun b hb=>x.mem b (s.nQ b hb) (fun hi=>s.nS b hi hb) (hl.Uh hb)
theorem kp.Dm{tm:Nat->af}{a:Act}(ht:kp E w tm a)(s:dL E h w)(hl:qe Γ g E w)(x:ij Γ E h w E' h' w'):kp E' w' tm a:=fun k=>(ht k).Dm x s hl
theorem qe.lt{c:Lp}(hl:qe (some c) g E w):c.l<w.heap.size:=by
 have h:w.heap[c.l]?=some (.loop {c.rc with state:=g.st,pending:=g.l7}):=hl.1;exact(Array.getElem?_eq_some_iff.1 h).1
theorem qe.ext(hl:qe Γ g E w)(s:dL E h w)(x:Ext E h w E' h' w'):qe Γ g E' w':=by
 cases Γ with
 |none=>trivial
 |some c=>
  have eH:=hl.lt;obtain⟨h1,h2,h3,h4⟩:=hl;refine⟨(x.mem _ eH h3).trans h1,fun hS=>?_,fun hi=>?_,h4.ext s x⟩
  ·rcases x.SN _ hS with h|h|h
   ·exact h2 h
   ·exact h3 h
   ·omega
  ·rcases x.new _ hi with h|h
   ·exact h3 h
   ·omega
end
def oS(E:Env)(w:World):List Deferred->Prop
 | []=>True
 |d::ds=>(∃D,d.target= .collected D/\w.heap[D]?=some (.deferred (some []))/\ ¬E.S D/\ ¬E.im D/\ ∀d'∈ds,d'.target≠ .collected D)/\oS E w ds
theorem oS.ext{Γ:Option Lp}{E E':Env}{h h':aC}{w w':World}(x:ij Γ E h w E' h' w'): ∀{ds:List Deferred},(∀d∈ds,∀D,d.target= .collected D-> ¬Ld Γ D)->oS E w ds->oS E' w' ds
 | [],_,_=>trivial
 |d::ds,hn,⟨⟨D,h1,h2,h3,h4,h5⟩,hr⟩=>by
  have eH:D<w.heap.size:=(Array.getElem?_eq_some_iff.1 h2).1;refine⟨⟨D,h1,(x.mem D eH h4 (hn d (by simp) D h1)).trans h2,fun hS=>?_,fun hi=>?_,h5⟩,oS.ext x (fun d' HF=>hn d' (by simp[HF])) hr⟩
  ·rcases x.SN _ hS with h|h|h
   ·exact h3 h
   ·exact h4 h
   ·omega
  ·rcases x.new _ hi with h|h
   ·exact h4 h
   ·omega
def uL(Γ:Option Lp)(E:Env)(h:aC)(w:World)(Q:af->aC->LS->Prop):Ending->World->Prop
 | .returned u,w'=>∃v h' g' E',Q v h' g'/\dL E' h' w'/\Full E' h'/\ij Γ E h w E' h' w'/\ck E' w' v u/\qe Γ g' E' w'
 |_,_=>False
theorem uL.mono{Γ:Option Lp}{E:Env}{h:aC}{w:World}{Q Q':af->aC->LS->Prop}(hq: ∀v h g,Q v h g->Q' v h g): ∀e w',uL Γ E h w Q e w'->uL Γ E h w Q' e w'
 | .returned u,w',⟨v,h',g',E',h1,h2⟩=>⟨v,h',g',E',hq _ _ _ h1,h2⟩
 | .panicked _,_,h=>h.elim
 | .outgrown,_,h=>h.elim
def ik(cf:dS)(Γ:Option Lp)(f:FuncId)(args:List af)(h:aC)(g:LS)(Q:af->aC->LS->Prop):Prop:=
 ∀(E:Env)(w:World)(vs:Array Value),dL E h w->Full E h->sE cf.G E.S w->fS E w args vs->qe Γ g E w->Calls cf.P f vs w (uL Γ E h w Q)
theorem ik.mono{cf:dS}{Γ:Option Lp}{f:FuncId}{args:List af}{h:aC}{g:LS}{Q Q':af->aC->LS->Prop}(hc:ik cf Γ f args h g Q)(hq: ∀v h g,Q v h g->Q' v h g):ik cf Γ f args h g Q':=
 fun E w vs h1 h2 h3 h4 h5=>Calls.mono (hc E w vs h1 h2 h3 h4 h5) (uL.mono hq)
def nj(cf:dS)(c:Lp)(args:List af)(h:aC)(g:LS)(Q:af->aC->LS->Prop):Prop:=
 args.length=c.rc.params.size/\ ∀(E:Env)(w:World)(vs:Array Value),dL E h w->Full E h->sE cf.G E.S w->fS E w args vs->qe (some c) g E w->
  RoundIn Fence.wide 0 cf.P c.l c.rc.fn ((c.rc.params.zip vs).foldl (fun t(p,v)=>t.setIfInBounds p v) c.rc.tmps) c.rc.assign c.rc.body w (uL (some c) E h w Q)
theorem nj.mono{cf:dS}{c:Lp}{args:List af}{h:aC}{g:LS}{Q Q':af->aC->LS->Prop}(hc:nj cf c args h g Q)(hq: ∀v h g,Q v h g->Q' v h g):nj cf c args h g Q':=
 ⟨hc.1,fun E w vs h1 h2 h3 h4 h5=>RoundIn.mono (hc.2 E w vs h1 h2 h3 h4 h5) (uL.mono hq)⟩
structure Dp where
 cf:dS
 IX:FuncId->Bool
 Γ:Option Lp
 N:Nat
 B:Nat
def Dq(G:Nat->Option af)(tm:Nat->af):Op->Option (Nat×List af)
 | .call {callee:=.value fo,args,..}=>match ev G tm fo,cp (ev G tm) args.toList with
  |some (.func (.yield l) [] []),some as=>some (l,as)
  |_,_=>none
 |_=>none
def Dr(o:Oper)(tm:Nat->af)(K:(Nat->af)->aC->LS->Prop)(v:af)(h:aC)(g:LS):Prop:=Ox v fun v=>jj v fun v=>l9 tm o.dst v fun tm=>K tm h g
theorem rG{o:Oper}{tm:Nat->af}{K:(Nat->af)->aC->LS->Prop}{v:af}{h:aC}{g:LS}(hh:Dr o tm K v h g):K (iN tm o.dst v) h g:=by
 have h1:=iT (K:=fun v=>jj v fun v=>l9 tm o.dst v fun tm=>K tm h g) hh;exact iL (K:=fun tm=>K tm h g) (fE (K:=fun v=>l9 tm o.dst v fun tm=>K tm h g) h1)
def O5(cf:dS)(tm:Nat->af):Op->Bool
 | .binOp .eql t x y _=>match CC y,ev cf.G tm x,cf.P.underlying t with
  |true,some (.sl []),some (.slice _)=>true
  |_,_,_=>false
 |_=>false
def O6(y:Dp)(o:Oper)(tm:Nat->af)(hp:aC)(g:LS)(K:(Nat->af)->aC->LS->Prop):Prop:=
 match rB o.op with
 |true=>match Dq y.cf.G tm o.op with
  |some (l,as)=>match y.Γ with
   |some c=>mF as fun as=>l=c.l/\nj y.cf c as hp g (Dr o tm K)
   |none=>False
  |none=>match aT y.cf tm hp o.op with
   |some (.call f args)=>match y.IX f with
    |true=>mF args fun args=>ik y.cf y.Γ f args hp g (Dr o tm K)
    |false=>mF args fun args=>∃r,bN y.cf (call y.cf) f args hp=some r/\match r with
     | .ret v h=>Dr o tm K v h g
     | .iK _ _=>False
   |_=>False
 |false=>match O5 y.cf tm o.op with
  |true=>∀b:Bool,l9 tm o.dst (.bool b) fun tm=>K tm hp g
  |false=>Ua y.cf tm hp o.op fun v h=>jj v fun v=>l9 tm o.dst v fun tm=>K tm h g
def zK(y:Dp)(ops:Array Oper)(Q:(Nat->af)->aC->LS->Prop):List Oper->(Nat->af)->aC->LS->Prop
 | [],tm,hp,g=>Q tm hp g
 |o::rest,tm,hp,g=>match dP ops o tm with
  |none=>O6 y o tm hp g (zK y ops Q rest)
  |some t=>qa t (O6 y o tm hp g (zK y ops Q rest)) (l9 tm o.dst (.dX []) fun tm=>zK y ops Q rest tm hp g)
inductive Mb where
 |norm (tm:Nat->af) (hp:aC) (g:LS)
 |exit (id:Nat) (tm:Nat->af) (hp:aC) (g:LS)
 |ret (tm:Nat->af) (hp:aC) (g:LS)
def wj(y:Dp):Code->(Mb->Prop)->(Nat->af)->aC->LS->Prop
 | .skip,Q,tm,hp,g=>Q (.norm tm hp g)
 | .label _,Q,tm,hp,g=>Q (.norm tm hp g)
 | .region _ ops false,Q,tm,hp,g=>zK y ops (fun tm hp g=>Q (.norm tm hp g)) ops.toList tm hp g
 | .seq a b,Q,tm,hp,g=>wj y a (fun o=>match o with
  | .norm tm hp g=>wj y b Q tm hp g
  |o=>Q o) tm hp g
 | .cond c a b,Q,tm,hp,g=>match ev y.cf.G tm c with
  |some (.bool t)=>qa t (wj y a Q tm hp g) (wj y b Q tm hp g)
  |_=>False
 | .block id c,Q,tm,hp,g=>wj y c (fun o=>match o with
  | .exit j tm hp g=>match Nat.decEq j id with
   |isTrue _=>Q (.norm tm hp g)
   |isFalse _=>Q (.exit j tm hp g)
  |o=>Q o) tm hp g
 | .loop c,Q,tm,hp,g=>∃(I:Nat->(Nat->af)->aC->LS->Prop)(n:Nat),I n tm hp g/\ ∀n tm hp g,I n tm hp g->wj y c (fun o=>match o with
  | .norm tm hp g=>∃m,m<n/\I m tm hp g
  |o=>Q o) tm hp g
 | .exit id,Q,tm,hp,g=>Q (.exit id tm hp g)
 | .ret,Q,tm,hp,g=>Q (.ret tm hp g)
 | .rangeFunc f params assign body,Q,tm,hp,g=>match y.Γ with
  |some _=>False
  |none=>match ev y.cf.G tm f with
   |some (.func (.func gf) [] cap)=>fW y.cf.P gf=true/\ ∀c:Lp,c.rc.params=params->c.rc.assign=assign->c.rc.body=body->c.Fg=tm->y.N<=c.rc.tmps.size->
    ik y.cf (some c) gf (.func (.yield c.l) [] []::cap) hp ⟨.ready,none⟩ fun _ h g'=>g'.st≠ .busy/\match g'.l7 with
     |none=>Q (.norm tm h g)
     |some .ret=>Q (.ret tm h g)
     |some (.exit id)=>Q (.exit id tm h g)
     |_=>False
   |_=>False
 |_,_,_,_,_=>False
structure qT(y:Dp)(E:Env)(w:World)(tm:Nat->af)(hp:aC)(g:LS)(a:Act):Prop where
 oJ:dL E hp w
 full:Full E hp
 O7:sE y.cf.G E.S w
 tm:kp E w tm a
 df:oS E w a.defers
 ln:qe y.Γ g E w
 nl: ∀d∈a.defers,∀D,d.target= .collected D-> ¬Ld y.Γ D
 bl:y.B<=w.heap.size/\ ∀d∈a.defers,∀D,d.target= .collected D->y.B<=D
def sX(y:Dp)(E:Env)(h:aC)(w:World)(N:Nat)(Q:Mb->Prop):Exit->Act->World->Prop
 | .normal,a,w'=>∃tm hp g E',Q (.norm tm hp g)/\qT y E' w' tm hp g a/\ij y.Γ E h w E' hp w'/\a.tmps.size=N
 | .exit id,a,w'=>∃tm hp g E',Q (.exit id tm hp g)/\qT y E' w' tm hp g a/\ij y.Γ E h w E' hp w'/\a.tmps.size=N
 | .ret,a,w'=>∃tm hp g E',Q (.ret tm hp g)/\qT y E' w' tm hp g a/\ij y.Γ E h w E' hp w'/\a.tmps.size=N
 |_,_,_=>False
theorem sX.from{y:Dp}{E E1:Env}{h h1:aC}{w w1:World}{N:Nat}{Q:Mb->Prop}(x:ij y.Γ E h w E1 h1 w1): ∀(e:Exit)(a:Act)(w':World),sX y E1 h1 w1 N Q e a w'->sX y E h w N Q e a w':=by
 intro e a w' hq
 cases e with
 |normal=>obtain⟨tm,hp,g,E',g1,g2,g3,g4⟩:=hq;exact⟨tm,hp,g,E',g1,g2,x.trans g3,g4⟩
 |exit id=>obtain⟨tm,hp,g,E',g1,g2,g3,g4⟩:=hq;exact⟨tm,hp,g,E',g1,g2,x.trans g3,g4⟩
 |ret=>obtain⟨tm,hp,g,E',g1,g2,g3,g4⟩:=hq;exact⟨tm,hp,g,E',g1,g2,x.trans g3,g4⟩
 |panic chain=>exact hq
 |goto l=>exact hq
 |outgrown=>exact hq
theorem qT.skip{y:Dp}{E:Env}{w:World}{tm:Nat->af}{hp:aC}{g:LS}{a:Act}{dst:Option Tmp}(rel:qT y E w tm hp g a)(hd: ∀d,dst=some d->d<a.tmps.size):qT y E w (iN tm dst (.dX [])) hp g (a.put dst undef):=
 ⟨rel.oJ,rel.full,rel.O7,rel.tm.put mI hd,by rw[put_defers];exact rel.df,rel.ln,by rw[put_defers];exact rel.nl,rel.bl.1,by rw[put_defers];exact rel.bl.2⟩
def KI(F:Fence):Prop:=∃ro,F={Fence.wide with round:=ro}
theorem KI.fn{F:Fence}(h:KI F)(f:FuncId):F.fn f:=by obtain⟨ro,rfl⟩:=h;trivial
theorem KI.depth{F:Fence}(h:KI F){n:Nat}:F.depth.isSome=true->1<=n:=by obtain⟨ro,rfl⟩:=h;intro h;cases h
theorem KI.calls{F:Fence}(h:KI F){P:Program}{f:FuncId}{args:Array Value}{w:World}{R:Ending->World->Prop}(hc:Calls P f args w R):CallsIn F 0 P f args w R:=by
 obtain⟨ro,rfl⟩:=h;exact callsIn_wide.2 hc
theorem KI.round{F:Fence}(h:KI F){P:Program}{l:Nat}{f:FuncId}{tmps:Array Value}{assign body:Code}{w:World}{R:Ending->World->Prop}(hc:RoundIn Fence.wide 0 P l f tmps assign body w R):RoundIn F 0 P l f tmps assign body w R:=by
 obtain⟨ro,rfl⟩:=h;exact hc
theorem Ds{cf:dS}{tm:Nat->af}{h:aC}{c:Call}:aT cf tm h (.defer c)=none:=by simp[aT]
theorem Dt{G:Nat->Option af}{tm:Nat->af}{o:Op}{l:Nat}{as:List af}(h:Dq G tm o=some (l,as)):
  ∃fo args sG,o= .call ⟨.value fo,args,sG⟩/\ev G tm fo=some (.func (.yield l) [] [])/\cp (ev G tm) args.toList=some as:=by
   unfold Dq at h;split at h
   ·rename_i fo args sG;split at h
    ·rename_i l' YG h1 h2;cases h
     exact⟨fo,args,sG,rfl,h1,h2⟩
    ·cases h
   ·cases h
section
variable{y:Dp}{F:Fence}{N:Nat}{E:Env}{w:World}
theorem FZ(hF:KI F)(hC:ia y.cf (call y.cf)){o:Oper}{tm:Nat->af}{hp:aC}{g:LS}{K:(Nat->af)->aC->LS->Prop}{a:Act}{next:Act->World->Prop}{Q:Mb->Prop}(hs:O6 y o tm hp g K)(rel:qT y E w tm hp g a)(hN:a.tmps.size=N)
  (hd: ∀d,o.dst=some d->d<N)
  (hK: ∀(od:Nat->af)(qY:aC)(g':LS)(E':Env)(w':World)(a':Act),K od qY g'->qT y E' w' od qY g' a'->ij y.Γ E hp w E' qY w'->a'.tmps.size=N->next a' w'):o.wpIn F 0 y.cf.P a w next (sX y E hp w N Q):=by
   refine⟨fun f _=>hF.fn f,?_⟩
   have fin: ∀(v:af)(h':aC)(g':LS)(u:Value)(w':World)(E':Env),K (iN tm o.dst v) h' g'->dL E' h' w'->Full E' h'->ij y.Γ E hp w E' h' w'->ck E' w' v u->qe y.Γ g' E' w'->next (a.put o.dst u) w':=by
    intro v h' g' u w' E' hk s' f' x' r' l';exact hK _ _ g' E' w' _ hk ⟨s',f',rel.O7.Dm rel.oJ rel.ln x',(rel.tm.Dm rel.oJ rel.ln x').put r' (by rw[hN];exact hd),by rw[put_defers];exact rel.df.ext x' rel.nl,l',by rw[put_defers];exact rel.nl,bw rel.bl.1 x'.size,by rw[put_defers];exact rel.bl.2⟩ x' (by rw[pf];exact hN)
   have ops: ∀xs,gn y.cf.G E w tm a.eval xs:=fun xs=>⟨fun x _ v hv=>yT rel.O7 rel.tm hv,fun _=>rfl⟩;unfold O6 at hs;split at hs
   ·rename_i xi;have SW: ∀c,o.op≠ .defer c:=fun c e=>by rw[e]at xi;cases xi
    rw[Oper.semAt_eq _ _ _ SW];split at hs
    ·rename_i l as hy;obtain⟨fo,args,sG,ho,HP,has⟩:=Dt hy;split at hs
     ·rename_i c hc;obtain⟨rfl,hyt⟩:=ic hs;obtain⟨dst,op,ty,pos,after,guard⟩:=o;simp only at ho;subst ho;have hl:=rel.ln;rw[hc]at hl;have N6:fS E w as (args.map a.eval):=gn.list (ops (Op.call ⟨.value fo,args,sG⟩).operands) (ys:=args) (fun y hy=>by simp[Op.operands,Call.operands,hy]) has;obtain⟨va,vb,Wb,l1,l2,r1,r2⟩:=(ops (Op.call ⟨.value fo,args,sG⟩).operands fo (by simp[Op.operands,Call.operands]) _ HP).Kr;have Nh:va= #[]:=by simpa using l1.symm
      have Vf:vb= #[]:=by simpa using l2.symm
      subst Nh Vf;have je:(args.map a.eval).size=c.rc.params.size:=by rw[<-hyt.1];exact N6.1.symm
      have fl:(execOp a.eval {dst,op:=.call ⟨.value fo,args,sG⟩,type:=ty,pos,after,guard}).run y.cf.P w= .ok (.round c.l c.rc.fn ((c.rc.params.zip (args.map a.eval)).foldl (fun t(p,v)=>t.setIfInBounds p v) c.rc.tmps) c.rc.assign c.rc.body) w:=by
       have:=run_yield (P:=y.cf.P) (args:=args.map a.eval) hl.1 je;simp only[execOp,resolve,Wb,Deferred.ofValue,Sem.run_bind,Sem.run_pure,Result.andThen_ok,invoke];simpa using this
      rw[fl];refine⟨hF.depth,?_⟩;refine RoundIn.mono (hF.round (hyt.2 E w _ rel.oJ rel.full rel.O7 N6 hl)) fun e w' he=>?_
      cases e with
      |returned u=>
       obtain⟨v,h',g',E',hq,s',f',x',r',l'⟩:=he
       exact fin v h' g' u w' E' (rG hq) s' f' (by rw[hc];exact x') r' (by rw[hc];exact l')
      |panicked chain=>exact he.elim
      |outgrown=>exact he.elim
     ·exact hs.elim
    ·split at hs
     ·rename_i f args hv;obtain⟨vs,fl,kz,hb⟩:=mE (ops _) hv;rw[fl];refine⟨hF.depth,?_⟩;split at hs
      ·have hcy:=ic hs;refine CallsIn.mono (hF.calls (hcy E w vs rel.oJ rel.full rel.O7 kz rel.ln)) fun e w' he=>?_
       cases e with
       |returned u=>
        obtain⟨v,h',g',E',hq,s',f',x',r',l'⟩:=he
        exact fin v h' g' u w' E' (rG hq) s' f' x' r' l'
       |panicked chain=>exact he.elim
       |outgrown=>exact he.elim
      ·obtain⟨r,hr,hq⟩:=ic hs;refine CallsIn.mono (hF.calls (hC f args hp r hr E w vs hb rel.oJ rel.full rel.O7 kz)) fun e w' he=>?_
       cases e with
       |returned u=>
        obtain⟨v,h',E',rfl,s',f',x',r'⟩:=he
        exact fin v h' g u w' E' (rG hq) s' f' x'.X5 r' (rel.ln.ext rel.oJ x')
       |panicked chain=>
        obtain⟨v,h',E',u,rfl,_⟩:=he
        exact hq.elim
       |outgrown=>exact he.elim
     ·exact hs.elim
   ·split at hs
    ·rename_i hu;obtain⟨dst,op,ty,pos,after,guard⟩:=o;simp only at hu hs;unfold O5 at hu;split at hu
     ·rename_i t x yo t2 _;split at hu
      ·rename_i e hn hx ht;have Nh:=(ops (Op.binOp .eql t x yo t2).operands) x (by simp[Op.operands]) _ hx;have Vf:a.eval yo= .slice none 0 0:=by rw[BH hn];rfl
       have SW: ∀c,(Op.binOp BinOp.eql t x yo t2)≠ .defer c:=fun c e=>by cases e
       rw[Oper.semAt_eq _ _ _ SW]
       cases Nh with
       |eG hc=>
        generalize X6:a.eval x=vx at hc
        cases hc with
        |sl _ ad cap s b o' vs h1 h2 h3 h4 h5=>
         have fl:(execOp a.eval {dst,op:=.binOp .eql t x yo t2,type:=ty,pos,after,guard}).run y.cf.P w= .ok (.value (.bool ad.isNone)) w:=by
          simp only[execOp,X6,Vf,Sem.run_bind];rw[show(eqGuard .eql t x yo (.slice ad ([]:List af).length cap) (.slice none 0 0)).run y.cf.P w= .ok () w from rfl];simp only[Result.andThen_ok];rw[ud t e ad _ cap ht];rfl
         rw[fl];exact fin (.bool ad.isNone) hp g _ w E (iL (K:=fun tm=>K tm hp g) (hs ad.isNone)) rel.oJ rel.full (ij.refl _ _ _ _) (.eG (.bool _)) rel.ln
      ·cases hu
     ·cases hu
    obtain⟨v,h',hv,hk⟩:=IE hs;have y6:K (iN tm o.dst v) h' g:=iL (K:=fun tm=>K tm h' g) (fE (K:=fun v=>l9 tm o.dst v fun tm=>K tm h' g) hk);have SW: ∀c,o.op≠ .defer c:=fun c e=>by rw[e,Ds]at hv;cases hv
    rw[Oper.semAt_eq _ _ _ SW];obtain⟨u,w',E',fl,s',f',x',r'⟩:=ze rel.oJ rel.full (ops _) hv;rcases fl with fl|⟨fl,rfl⟩
    ·rw[fl];exact fin v h' g u w' E' y6 s' f' x'.X5 r' (rel.ln.ext rel.oJ x')
    ·rw[fl];exact fin v h' g undef w' E' y6 s' f' x'.X5 r' (rel.ln.ext rel.oJ x')
theorem wm{P:Program}{id:Nat}{ops:Array Oper}{Q:Exit->Act->World->Prop}{n:Nat}(R:List Oper->Act->World->Prop)(HZ: ∀a w,R [] a w->Q .normal a w)
  (WJ: ∀o rest a w,R (o::rest) a w->(Region.wanted o (yielded ops a.tmps)=true/\o.wpIn F n P a w (R rest) Q)∨(Region.wanted o (yielded ops a.tmps)=false/\R rest (a.put o.dst undef) w)) (hF:KI F)
  {a:Act} {w:World} (h:R ops.toList a w):(Code.region id ops false).wpIn F n P Q a w:=by
   refine wpIn_region ?_
   have key: ∀(m i:Nat)(a:Act)(w:World),i+m=ops.size->R (ops.toList.drop i) a w->wpOpsIn F n P ops Q (List.range' i m) a w:=by
    intro m
    induction m with
    |zero=>
     intro i a w hi hr;rw[List.drop_of_length_le (by simp;omega)]at hr
     exact HZ a w hr
    |succ m ih=>
     intro i a w hi hr;have eH:i<ops.size:=by omega
     have hd:ops.toList.drop i=ops[i]::ops.toList.drop (i+1):=by
      rw[ar (by simpa using eH)];simp
     rw[hd]at hr;simp only[List.range'_succ,wpOpsIn,Array.getElem?_eq_getElem eH];rcases WJ _ _ a w hr with⟨hw,h1⟩|⟨hw,h1⟩
     ·rw[if_pos hw];refine⟨h1.1,?_⟩;have h2:=h1.2;generalize(Oper.semAt F.round a.eval ops[i]).run P w=q at h2⊢
      cases q with
      |ok x w'=>
       cases x<;>simp only[Oper.uponIn]at h2⊢ <;>first
        |exact ih _ _ _ (by omega) h2
        |exact⟨h2.1,CallsIn.mono h2.2 (fun e XS he=>by cases e with
         |returned v=>exact ih _ _ _ (by omega) he
         |panicked c=>exact he
         |outgrown=>exact he)⟩
        |exact⟨h2.1,RowsIn.mono h2.2 (fun _ _ he=>ih _ _ _ (by omega) he)⟩
        |exact⟨h2.1,RoundIn.mono h2.2 (fun e XS he=>by cases e with
         |returned v=>exact ih _ _ _ (by omega) he
         |panicked c=>exact he
         |outgrown=>exact he)⟩
      |halt x w'=>cases x<;>simp only[Oper.uponIn]at h2⊢ <;>exact h2
     ·rw[if_neg (by rw[hw];exact Bool.false_ne_true)];exact⟨fun f _=>hF.fn f,ih _ _ _ (by omega) h1⟩
   have:=key ops.size 0 a w (by omega) (by simpa using h);rw[List.range_eq_range'];exact this
theorem IY(hF:KI F)(hC:ia y.cf (call y.cf)){id:Nat}{ops:Array Oper}(hd: ∀o∈ops.toList,∀d,o.dst=some d->d<N){Q:Mb->Prop}{tm:Nat->af}{hp:aC}{g:LS}{a:Act}(h:zK y ops (fun tm hp g=>Q (.norm tm hp g)) ops.toList tm hp g)(rel:qT y E w tm hp g a)(hN:a.tmps.size=N):
  (Code.region id ops false).wpIn F 0 y.cf.P (sX y E hp w N Q) a w:=by
   refine wm (fun l a' w'=>(∀o∈l,∀d,o.dst=some d->d<N)/\ ∃od qY g' E',zK y ops (fun tm hp g=>Q (.norm tm hp g)) l od qY g'/\qT y E' w' od qY g' a'/\ij y.Γ E hp w E' qY w'/\a'.tmps.size=N) (fun a' w'=>?_) (fun o rest a' w'=>?_) hF ⟨hd,tm,hp,g,E,h,rel,ij.refl _ _ _ _,hN⟩
   ·rintro ⟨_,od,qY,g',E',h1,h2,h3,h4⟩
    exact⟨od,qY,g',E',h1,h2,h3,h4⟩
   ·rintro ⟨HF,od,qY,g',E',h1,h2,h3,h4⟩
    have Wd:=HF o (by simp);have hdr: ∀o∈rest,∀d,o.dst=some d->d<N:=fun o' gI=>HF o' (by simp[gI]);obtain⟨TZ,N9⟩:=uv (ops:=ops) (o:=o) h2.tm
    have go:O6 y o od qY g' (zK y ops (fun tm hp g=>Q (.norm tm hp g)) rest)->o.wpIn F 0 y.cf.P a' w' (fun a' w'=>(∀o∈rest,∀d,o.dst=some d->d<N)/\ ∃od qY g' E',zK y ops (fun tm hp g=>Q (.norm tm hp g)) rest od qY g'/\qT y E' w' od qY g' a'/\ij y.Γ E hp w E' qY w'/\a'.tmps.size=N) (sX y E hp w N Q):=by
     intro hs;have:=FZ (Q:=Q) hF hC (next:=fun a' w'=>(∀o∈rest,∀d,o.dst=some d->d<N)/\ ∃od qY g' E',zK y ops (fun tm hp g=>Q (.norm tm hp g)) rest od qY g'/\qT y E' w' od qY g' a'/\ij y.Γ E hp w E' qY w'/\a'.tmps.size=N) hs h2 h4 Wd fun WK HB g2 E2 w2 a2 k1 k2 k3 k4=>⟨hdr,WK,HB,g2,E2,k1,k2,h3.trans k3,k4⟩;refine⟨this.1,?_⟩;have h5:=this.2;generalize(Oper.semAt F.round a'.eval o).run y.cf.P w'=q at h5⊢
     cases q with
     |ok x w2=>
      cases x<;>simp only[Oper.uponIn]at h5⊢ <;>first
       |exact h5
       |exact⟨h5.1,CallsIn.mono h5.2 (fun e XS he=>by cases e with
        |returned v=>exact he
        |panicked c=>exact he.elim
        |outgrown=>obtain⟨_,_,h⟩:=he;exact h.elim)⟩
       |exact⟨h5.1,RoundIn.mono h5.2 (fun e XS he=>by cases e with
        |returned v=>exact he
        |panicked c=>exact he.elim
        |outgrown=>obtain⟨_,_,h⟩:=he;exact h.elim)⟩
     |halt x w2=>cases x<;>simp only[Oper.uponIn]at h5⊢ <;>first|exact h5|exact h5.elim
    simp only[zK]at h1
    cases hg:dP ops o od with
    |none=>
     rw[hg]at h1
     exact .inl ⟨TZ hg,go h1⟩
    |some t=>
     rw[hg]at h1;rcases eP h1 with⟨rfl,h1⟩|⟨rfl,h1⟩
     ·exact .inl ⟨N9 true hg,go h1⟩
     ·exact .inr ⟨N9 false hg,hdr,_,qY,g',E',iL (K:=fun tm=>zK y ops (fun tm hp g=>Q (.norm tm hp g)) rest tm qY g') h1,h2.skip (by rw[h4];exact Wd),h3,by rw[pf];exact h4⟩
end
end Go.Am
set_option maxHeartbeats 4000000
namespace Go.Am
open Go
def iW(N:Nat):Code->Bool
 | .region _ ops _=>ops.toList.all fun o=>match o.dst with|some d=>decide (d<N)|none=>true
 | .seq a b=>iW N a&&iW N b
 | .cond _ a b=>iW N a&&iW N b
 | .block _ c=>iW N c
 | .loop c=>iW N c
 |_=>true
theorem tF{N N':Nat}(hN:N<=N'): ∀c:Code,iW N c=true->iW N' c=true:=by
 intro c
 induction c with
 |region id ops d=>
  intro h;simp only[iW]at h⊢;refine aG.2 fun o ho=>?_;have:=aG.1 h o ho
  cases hd:o.dst with
  |none=>rfl
  |some d=>simp only[hd,decide_eq_true_eq]at this⊢;exact Nat.lt_of_lt_of_le this hN
 |seq a b rf rh=>intro h;simp only[iW,aj]at h⊢;exact⟨rf h.1,rh h.2⟩
 |cond c a b rf rh=>intro h;simp only[iW,aj]at h⊢;exact⟨rf h.1,rh h.2⟩
 |block id c ih=>intro h;simp only[iW]at h⊢;exact ih h
 |loop c ih=>intro h;simp only[iW]at h⊢;exact ih h
 |_=>intro _;rfl
theorem Bi{F:Fence}{n:Nat}{P:Program}{Q:Exit->Act->World->Prop}{c:Code}(hF:KI F)(J:Nat->Act->World->Prop)(round: ∀m a w,J m a w->c.wpIn F n P (Exit.then (fun a' w'=>∃k,k<m/\J k a' w') Q) a w): ∀m a w,J m a w->(Code.loop c).wpIn F n P Q a w:=by
 intro m a w h0 b k cs Wc hb hr
 have key: ∀m a w,J m a w-> ∃e a' w',Q e a' w'/\ArrivesIn (Machine.fenced P F) P (lone (b.atR a (.code c:: .inLoop c::k)) cs w) b k cs e a' w':=by
  intro m
  induction m using Nat.strongRecOn with
  |_ m ih=>
   intro a w hJ;obtain⟨e,a₁,w₁,hq,mT⟩:=round m a w hJ b (.inLoop c::k) cs Wc hb hr
   cases e with
   |normal=>
    obtain⟨k',hk,Y0⟩:=hq;obtain⟨e₂,a₂,w₂,Y1,On⟩:=ih k' hk a₁ w₁ Y0
    exact⟨e₂,a₂,w₂,Y1,.of_steps (StepsIn.trans mT (.one (fenced_calm hb hr rfl) stepR_inLoop)) On⟩
   |exit id=>exact⟨_,a₁,w₁,hq,.pass (x:=.inLoop c) rfl (fun _ _=>.inl (by simp)) mT⟩
   |goto l=>exact⟨_,a₁,w₁,hq,.pass (x:=.inLoop c) rfl (fun _ _=>.inl (by simp)) mT⟩
   |ret=>exact⟨_,a₁,w₁,hq,.pass (x:=.inLoop c) rfl (fun _ _=>.inl (by simp)) mT⟩
   |panic ch=>exact⟨_,a₁,w₁,hq,.pass (x:=.inLoop c) rfl (fun _ _=>.inl (by simp)) mT⟩
   |outgrown=>exact⟨_,a₁,w₁,hq,.pass (x:=.inLoop c) rfl (fun _ _=>.inl (by simp)) mT⟩
 obtain⟨e,a',w',hq,mT⟩:=key m a w h0;exact⟨e,a',w',hq,.of_steps (.one (fenced_calm hb hr rfl) stepR_loop) mT⟩
theorem dL.grow{E:Env}{h:aC}{w w':World}(s:dL E h w)(hw: ∀b,b<w.heap.size->w'.heap[b]?=w.heap[b]?)(hs:w.heap.size<=w'.heap.size)(TP:w'.os=w.os)(ht:w'.tape=w.tape)(ho:w'.output=w.output):
  dL E h w'/\Ext E h w E h w':=by
   have hx:Ext E h w E h w':=⟨⟨fun _ h=>h,fun _ h=>.inl h,fun b hb _=>hw b hb,fun _ _ h=>.inl h,fun _ h=>.inl h,aB _,hs,TP,ht,ho⟩,fun _ _ h=>h⟩;exact⟨⟨fun id o sl cq hm=>(s.obj id o sl cq hm).mono (fun a v hr=>hr.ext hx s) fun b hb=>hw b (s.lt b ⟨id,sl,hm,hb⟩),s.inj,s.nS,fun b hb=>Nat.lt_of_lt_of_le (s.lt b hb) hs,fun b hb=>Nat.lt_of_lt_of_le (s.nQ b hb) hs⟩,hx⟩
theorem dL.oN{E:Env}{h:aC}{w:World}(s:dL E h w){l:Nat}(o:Obj)(h1: ¬E.S l)(h2: ¬E.im l):dL E h (w.putObj l o)/\(∀a v,ck E w a v->ck E (w.putObj l o) a v):=by
 have hw: ∀b,b≠l->(w.putObj l o).heap[b]?=w.heap[b]?:=fun b hb=>World.putObj_heap_other hb;have hr: ∀a v,ck E w a v->ck E (w.putObj l o) a v:=fun a v hr=>hr.mono (fun _ h=>h) (fun b hb=>hw b fun e=>h1 (e▸hb)) fun _ _ h=>.inl h;refine⟨⟨fun id ob sl cq hm=>(s.obj id ob sl cq hm).mono hr fun b hb=>hw b fun e=>h2 (e▸⟨id,sl,hm,hb⟩),s.inj,s.nS,fun b hb=>?_,fun b hb=>?_⟩,hr⟩
 ·rw[World.putObj_size];exact s.lt b hb
 ·rw[World.putObj_size];exact s.nQ b hb
theorem ij.oN{c:Lp}{E:Env}{h:aC}{w:World}(o:Obj):ij (some c) E h w E h (w.putObj c.l o):=
 ⟨fun _ h=>h,fun _ h=>.inl h,fun b _ _ hb=>World.putObj_heap_other hb,fun _ _ h=>.inl h,fun _ h=>.inl h,aB _,by rw[World.putObj_size];exact aB _,rfl,rfl,rfl,fun _ _ h=>h⟩
theorem qe.oN{c:Lp}{g g':LS}{E:Env}{h:aC}{w:World}(s:dL E h w)(hl:qe (some c) g E w):qe (some c) g' E (w.putObj c.l (.loop {c.rc with state:=g'.st,pending:=g'.l7})):=by
 have eH:=hl.lt;obtain⟨h1,h2,h3,h4⟩:=hl;exact⟨World.putObj_heap_same eH,h2,h3,fun k=>(s.oN _ h2 h3).2 _ _ (h4 k)⟩
section
variable{y:Dp}{F:Fence}
theorem tG(hF:KI F)(Wc:y.Γ=none->F.round=none)(hC:ia y.cf (call y.cf)){N:Nat}(hN0:y.N<=N): ∀(c:Code)(Q:Mb->Prop)(tm:Nat->af)(hp:aC)(g:LS),wj y c Q tm hp g->iW N c=true-> ∀(E:Env)(w:World)(a:Act),qT y E w tm hp g a->a.tmps.size=N->
  c.wpIn F 0 y.cf.P (sX y E hp w N Q) a w:=by
   intro c
   induction c with
   |skip=>intro Q tm hp g h dt E w a rel hN;exact wpIn_skip ⟨tm,hp,g,E,h,rel,ij.refl _ _ _ _,hN⟩
   |label l=>intro Q tm hp g h dt E w a rel hN;exact wpIn_label ⟨tm,hp,g,E,h,rel,ij.refl _ _ _ _,hN⟩
   |exit id=>intro Q tm hp g h dt E w a rel hN;exact wpIn_exit ⟨tm,hp,g,E,h,rel,ij.refl _ _ _ _,hN⟩
   |ret=>intro Q tm hp g h dt E w a rel hN;exact wpIn_ret ⟨tm,hp,g,E,h,rel,ij.refl _ _ _ _,hN⟩
   |region id ops d=>
    intro Q tm hp g h dt E w a rel hN
    cases d with
    |true=>exact h.elim
    |false=>
     simp only[iW]at dt;refine IY hF hC (fun o ho d hd=>?_) h rel hN;have:=aG.1 dt o ho
     simpa[hd]using this
   |seq x z T5 Zn=>
    intro Q tm hp g h dt E w a rel hN;simp only[iW,aj]at dt;refine wpIn_seq (wpIn_mono (T5 _ tm hp g h dt.1 E w a rel hN) fun e a' w' he=>?_)
    cases e with
    |normal=>
     obtain⟨od,qY,g',E',hq,iS,x',yf⟩:=he
     exact wpIn_mono (Zn Q od qY g' hq dt.2 E' w' a' iS yf) (sX.from x')
    |exit id=>exact he
    |ret=>exact he
    |panic ch=>exact he
    |goto l=>exact he
    |outgrown=>exact he
   |cond c x z T5 Zn=>
    intro Q tm hp g h dt E w a rel hN;simp only[iW,aj]at dt;simp only[wj]at h;split at h
    ·rename_i t ht;have hc:a.eval c= .bool t:=(yT rel.O7 rel.tm ht).bool;refine wpIn_cond hc ?_;rcases eP h with⟨rfl,h⟩|⟨rfl,h⟩
     ·exact T5 Q tm hp g h dt.1 E w a rel hN
     ·exact Zn Q tm hp g h dt.2 E w a rel hN
    ·exact h.elim
   |block id x ih=>
    intro Q tm hp g h dt E w a rel hN;simp only[iW]at dt;refine wpIn_block (wpIn_mono (ih _ tm hp g h dt E w a rel hN) fun e a' w' he=>?_)
    cases e with
    |normal=>exact he
    |exit j=>
     obtain⟨od,qY,g',E',hq,iS,x',yf⟩:=he;simp only[Exit.inBlock]
     by_cases hj:j=id
     ·rw[if_pos hj];refine⟨od,qY,g',E',?_,iS,x',yf⟩;simp only at hq
      cases hd:Nat.decEq j id with
      |isTrue _=>simpa only[hd]using hq
      |isFalse n=>exact(n hj).elim
     ·rw[if_neg hj];refine⟨od,qY,g',E',?_,iS,x',yf⟩;simp only at hq
      cases hd:Nat.decEq j id with
      |isTrue n=>exact(hj n).elim
      |isFalse n=>simpa only[hd]using hq
    |ret=>exact he
    |panic ch=>exact he
    |goto l=>exact he
    |outgrown=>exact he
   |loop x ih=>
    intro Q tm hp g h dt E w a rel hN;simp only[iW]at dt;obtain⟨I,n,hI,hr⟩:=h;refine Bi hF (fun m a' w'=>∃od qY g' E',I m od qY g'/\qT y E' w' od qY g' a'/\ij y.Γ E hp w E' qY w'/\a'.tmps.size=N) (fun m a' w' hJ=>?_) n a w ⟨tm,hp,g,E,hI,rel,ij.refl _ _ _ _,hN⟩;obtain⟨od,qY,g',E',Uc,iS,x',yf⟩:=hJ;refine wpIn_mono (ih _ od qY g' (hr m od qY g' Uc) dt E' w' a' iS yf) fun e a2 w2 he=>?_
    cases e with
    |normal=>
     obtain⟨WK,HB,g2,E2,⟨k,hk,hIk⟩,CY,x2,T6⟩:=he
     exact⟨k,hk,WK,HB,g2,E2,hIk,CY,x'.trans x2,T6⟩
    |exit id=>exact sX.from x' (.exit id) a2 w2 he
    |ret=>exact sX.from x' .ret a2 w2 he
    |panic ch=>exact he
    |goto l=>exact he
    |outgrown=>exact he
   |scope x ih=>intro Q tm hp g h;exact h.elim
   |goto l=>intro Q tm hp g h;exact h.elim
   |refuse wy=>intro Q tm hp g h;exact h.elim
   |rangeFunc f params assign body _ _=>
    intro Q tm hp g h dt E w a rel hN;simp only[wj]at h;split at h
    ·exact h.elim
    ·rename_i hΓ;split at h
     ·rename_i gf cap hf;obtain⟨Zo,h⟩:=h;refine wpIn_rangeFunc fun fn HC=>?_;rw[Wc hΓ];obtain⟨va,vb,Wb,l1,l2,r1,r2⟩:=(yT rel.O7 rel.tm hf).Kr;have Nh:va= #[]:=by simpa using l1.symm
      subst Nh
      let c:Lp:={l:=w.heap.size+1,rc:={state:=.ready,pending:=none,fn,tmps:=a.tmps,params,assign,body,defers:=w.heap.size},Fg:=tm}
      let w1:World:=(w.alloc (.deferred (some []))).alloc (.loop c.rc)
      have WL: ∀b,b<w.heap.size->w1.heap[b]?=w.heap[b]?:=fun b hb=>(d7 _ _ (by rw[World.size_alloc];omega)).trans (d7 _ _ hb);have VS:w1.heap.size=w.heap.size+2:=by show((w.alloc _).alloc _).heap.size=_;rw[World.size_alloc,World.size_alloc]
      obtain⟨s1,x1⟩:=rel.oJ.grow (w':=w1) WL (by omega) rfl rfl rfl
      have hL1:w1.heap[w.heap.size+1]?=some (.loop c.rc):=by
       have:=World.alloc_heap_new (w.alloc (.deferred (some []))) (.loop c.rc)
       rwa [World.size_alloc]at this
      have Ec:w1.heap[w.heap.size]?=some (.deferred (some [])):=(d7 _ _ (by rw[World.size_alloc];omega)).trans (World.alloc_heap_new w _);have nS: ∀b,w.heap.size<=b-> ¬E.S b:=fun b hb hS=>by have:=rel.oJ.nQ b hS;omega
      have nI: ∀b,w.heap.size<=b-> ¬E.im b:=fun b hb hS=>by have:=rel.oJ.lt b hS;omega
      have HD:qe (some c) ⟨.ready,none⟩ E w1:=⟨hL1,nS _ (by show _<=w.heap.size+1;omega),nI _ (by show _<=w.heap.size+1;omega),fun k=>(rel.tm k).ext x1 rel.oJ⟩;refine⟨w.heap.size+1,[{target:=.collected w.heap.size,args:=#[]}],w1,{target:=.fn (.func gf) vb,args:=#[.func (.yield (w.heap.size+1)) #[] #[]]},w1,gf,#[.func (.yield (w.heap.size+1)) #[] #[]]++vb,w1,?_,?_,fun f' _=>hF.fn f',?_,hF.depth,?_⟩
      ·exact run_enterLoop_outer _ _ _ _ _
      ·have Zp:a.eval f=Value.func (.func gf) #[] vb:=Wb;simp only[resolve,Zp,Deferred.ofValue,Sem.run_bind,Sem.run_pure,Result.andThen_ok,List.map_toArray,aM,List.map_nil];simp;rfl
      ·simp only[invoke];exact p7 Zo _
      ·have kz:fS E w1 (.func (.yield (w.heap.size+1)) [] []::cap) (#[.func (.yield (w.heap.size+1)) #[] #[]]++vb):=by
        refine fS.cons (.func _ [] [] #[] #[] rfl rfl (fun i c v hc=>by simp at hc) (fun i c v hc=>by simp at hc)) ⟨l2,fun i c v hc hv=>(r2 i c v hc hv).ext x1 rel.oJ⟩
       have xi:=h c rfl rfl rfl rfl (by show y.N<=a.tmps.size;omega) E w1 _ s1 rel.full (rel.O7.ext rel.oJ x1) kz HD;refine CallsIn.mono (hF.calls xi) fun e w3 he=>?_
       cases e with
       |panicked chain=>exact he.elim
       |outgrown=>exact he.elim
       |returned u=>
        obtain⟨v,h',g',E',⟨WM,hq⟩,s',f',x',r',l'⟩:=he;have X7:w3.heap[c.l]?=some (.loop {c.rc with state:=g'.st,pending:=g'.l7}):=l'.1;refine⟨g'.l7,_,run_endLoop X7 (by exact WM),?_⟩;obtain⟨s4,r4⟩:=s'.oN (.loop {c.rc with state:=.exhausted,pending:=g'.l7}) l'.2.1 l'.2.2.1;have hD3:w3.heap[w.heap.size]?=some (.deferred (some [])):=(x'.mem _ (by omega) (nI _ (aB _)) (by show¬w.heap.size=w.heap.size+1;omega)).trans Ec
        have x4:ij y.Γ E hp w E' h' (w3.putObj c.l (.loop {c.rc with state:=.exhausted,pending:=g'.l7})):=by
         rw[hΓ];refine⟨x'.S,fun b hb=>?_,fun b hb hi _=>?_,x'.m,fun b hb=>?_,x'.len,?_,x'.os,x'.tape,x'.output,x'.fresh⟩
         ·rcases x'.SN b hb with h|h|h
          ·exact .inl h
          ·exact .inr (.inl h)
          ·exact .inr (.inr (by omega))
         ·have kY:b≠c.l:=by show b≠w.heap.size+1;omega
          exact(World.putObj_heap_other kY).trans ((x'.mem b (by omega) hi (fun e=>kY e)).trans (WL b hb))
         ·rcases x'.new b hb with h|h
          ·exact .inl h
          ·exact .inr (by omega)
         ·rw[World.putObj_size];have:=x'.size;omega
        have Zq: ∀d∈a.defers,d.target≠ .collected w.heap.size:=by
         have: ∀ds,oS E w ds-> ∀d∈ds,d.target≠ .collected w.heap.size:=by
          intro ds
          induction ds with
          |nil=>intro _ d hd;simp at hd
          |cons d0 ds ih=>
           intro dt d hd he;obtain⟨⟨D,h1,h2,_⟩,yX⟩:=dt;rcases aW.1 hd with rfl|hd
           ·rw[h1]at he;cases he
            have:=(Array.getElem?_eq_some_iff.1 h2).1;omega
           ·exact ih yX d hd he
         exact this _ rel.df
        have WN: ∀(D:Nat),¬Ld y.Γ D:=fun D=>by rw[hΓ];exact id
        have O8:qT y E' (w3.putObj c.l (.loop {c.rc with state:=.exhausted,pending:=g'.l7})) tm h' g {a with defers:=[{target:=.collected w.heap.size,args:=#[]}]++a.defers}:=by
         refine⟨s4,f',rel.O7.Dm rel.oJ rel.ln x4,rel.tm.Dm rel.oJ rel.ln x4,⟨⟨w.heap.size,rfl,?_,fun hS=>?_,fun hi=>?_,Zq⟩,?_⟩,by rw[hΓ];trivial,fun d _ D _=>WN D,bw rel.bl.1 x4.size,fun d hd D hD=>?_⟩
         ·exact(World.putObj_heap_other (by show w.heap.size≠w.heap.size+1;omega)).trans hD3
         ·rcases x'.SN _ hS with h|h|h
          ·exact nS _ (aB _) h
          ·exact nI _ (aB _) h
          ·omega
         ·rcases x'.new _ hi with h|h
          ·exact nI _ (aB _) h
          ·omega
         ·exact rel.df.ext x4 fun d hd D hD=>WN D
         ·rcases aW.1 hd with rfl|hd
          ·cases hD;exact rel.bl.1
          ·exact rel.bl.2 d hd D hD
        cases qY:g'.l7 with
        |none=>
         rw[qY]at hq O8 x4
         exact⟨tm,h',g,E',hq,O8,x4,hN⟩
        |some j=>
         rw[qY]at hq O8 x4
         cases j<;>first
          |exact hq.elim
          |exact wpIn_ret ⟨tm,h',g,E',hq,O8,x4,hN⟩
          |exact wpIn_exit ⟨tm,h',g,E',hq,O8,x4,hN⟩
     ·exact h.elim
end
end Go.Am

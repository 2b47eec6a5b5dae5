/- Regions whose order is drawn: any order does what the order of the text does. -/
import Derived.Test.YtfepbikckfehlaaGreatGSBmM
set_option linter.unusedVariables false
set_option linter.unusedSimpArgs false
set_option maxHeartbeats 4000000
namespace Go.Am
open Go
section
variable{cf:dS}{E:Env}{w:World}{tm:Nat->af}{ρ:Operand->Value}{h:aC}
theorem EN{P:Program}{f:FuncId}(hb:fW P f=true): ∃fn c,P.funcs[f]?=some fn/\fn.body=some c/\(fn.name== "runtime.NumGoroutine")=false:=by
 unfold fW at hb;split at hb
 ·rename_i fn hf;simp only[aj,Bool.not_eq_true',Option.isSome_iff_exists]at hb;obtain⟨⟨c,hc⟩,hn⟩:=hb;exact⟨fn,c,hf,hc,hn⟩
 ·cases hb
theorem p7{P:Program}{f:FuncId}{vs:Array Value}(hb:fW P f=true)(w:World):(callFunc f vs).run P w= .ok (.enter f vs) w:=by
 obtain⟨fn,c,hf,hc,hn⟩:=EN hb;have Qz: ¬fn.name= "runtime.NumGoroutine" :=by simpa using hn
 simp[callFunc,hf,hc,Qz]
theorem fS.append{as bs:List af}{va vb:Array Value}(ha:fS E w as va)(hb:fS E w bs vb):fS E w (as++bs) (va++vb):=by
 refine⟨by simp[ha.1,hb.1],fun i c v hc hv=>?_⟩
 by_cases hi:i<as.length
 ·rw[bp hi]at hc;rw[Array.getElem?_append_left (by rw[<-ha.1];exact hi)]at hv;exact ha.2 i c v hc hv
 ·rw[List.getElem?_append_right (by omega)]at hc;rw[Array.getElem?_append_right (by rw[<-ha.1];omega),<-ha.1]at hv;exact hb.2 _ c v hc hv
theorem fS.cons{a:af}{bs:List af}{v:Value}{vb:Array Value}(ha:ck E w a v)(hb:fS E w bs vb):fS E w (a::bs) (#[v]++vb):=by
 have:fS E w [a] #[v]:=⟨rfl,fun i c u hc hu=>by
  cases i with
  |zero=>simp at hc hu;subst hc hu;exact ha
  |succ i=>simp at hc⟩
 exact this.append hb
theorem LI{P:Program}{t:TypeId}{name:String}{f:FuncId}(hm:NF P t name=some f)(n:Nat)(v:Value)(w:World):(method (n+1) t v name).run P w= .ok (f,v) w:=by
 unfold NF at hm;split at hm
 ·rename_i i hi;split at hm
  ·rename_i m A6;split at hm
   ·rename_i hp;split at hm
    ·rename_i f' pr hf;have h1:(typeInfo t).run P w= .ok i w:=by simp[typeInfo,hi]
     have fin: ∀(TX:(receiverAt t (.val v) pr (if m.path.isEmpty then some ((name.splitOn ".").getLastD name)else none)).run P w= .ok v w),f'=f->(method (n+1) t v name).run P w= .ok (f,v) w:=by
      intro TX he;subst he;simp only[method,Sem.run_bind,h1,Result.andThen_ok,A6];simp only[hp,follow,Sem.run_bind,Sem.run_pure,Result.andThen_ok,hf];rw[hp]at TX;simp only[TX,Result.andThen_ok]
     split at hm
     ·rename_i e hu;cases hm
      refine fin ?_ rfl;simp[receiverAt,run_underlying hu,Place.get]
     ·cases hm
     ·rename_i d kY hu;cases hm
      refine fin ?_ rfl;unfold receiverAt;rw[Sem.run_bind,run_underlying hu,Result.andThen_ok];cases d<;>first|rfl|exact(kY _ rfl).elim
     ·cases hm
    ·cases hm
   ·cases hm
  ·cases hm
 ·cases hm
theorem mD{o:Op}{r:HI}(hv:aT cf tm h o=some r):(∃v h',r= .val v h')∨(∃c,o= .call c)∨ ∃x,o= .panic x:=by
 cases o
 case call c=>exact .inr (.inl ⟨c,rfl⟩)
 case panic x=>exact .inr (.inr ⟨x,rfl⟩)
 case makeMap t q=>
  left
  cases q with
  |none=>simp only[aT]at hv;cases hv;exact⟨_,_,rfl⟩
  |some q=>simp[aT]at hv
 all_goals
  left
  first
  |(simp[aT]at hv;done)
  |(simp only[aT]at hv
    repeat' split at hv
    all_goals first
     |(cases hv;done)
     |(cases hv;exact⟨_,_,rfl⟩)
     |(simp only[ai]at hv
       obtain⟨_,_,rfl⟩:=hv;exact⟨_,_,rfl⟩))
theorem xj{b:Builtin}{args:Array Operand}{sG:Array TypeId}{r:HI}(hv:cI cf tm h ⟨.builtin b,args,sG⟩=some r): ∃v h',r= .val v h':=by
 simp only[cI]at hv;split at hv
 ·cases hv
 ·split at hv
  all_goals first
   |(cases hv;done)
   |(repeat' split at hv
     all_goals first
      |(cases hv;done)
      |(cases hv;exact⟨_,_,rfl⟩)
      |(simp only[ai]at hv
        obtain⟨_,_,rfl⟩:=hv;exact⟨_,_,rfl⟩))
theorem mE{o:Oper}{f:FuncId}{args:List af}(hr:gn cf.G E w tm ρ o.op.operands)(hv:aT cf tm h o.op=some (.call f args)):
  ∃vs,(execOp ρ o).run cf.P w= .ok (.enter f vs) w/\fS E w args vs/\fW cf.P f=true:=by
   obtain⟨dst,op,ty,pos,after,guard⟩:=o;simp only at hr hv;rcases mD hv with⟨_,_,he⟩|⟨c,rfl⟩|⟨x,rfl⟩
   ·cases he
   ·obtain⟨callee,cH,sG⟩:=c;simp only[Op.operands]at hr
    have TU: ∃as,cp (ev cf.G tm) cH.toList=some as:=by
     simp only[aT,cI]at hv
     cases ha:cp (ev cf.G tm) cH.toList with
     |none=>simp[ha]at hv
     |some as=>exact⟨as,rfl⟩
    obtain⟨as,ha⟩:=TU;have N6:fS E w as (cH.map ρ):=gn.list hr (ys:=cH) (fun y hy=>by simp[Call.operands,hy]) ha;have tV:=hv;simp only[aT]at tV;simp only[aT,cI,ha]at hv
    cases callee with
    |value fo=>
     simp only at hv;split at hv
     ·rename_i g first cap HP
      split at hv
      ·rename_i hb;cases hv
       obtain⟨va,vb,Wb,l1,l2,r1,r2⟩:=(hr fo (by simp[Call.operands]) _ HP).Kr;refine⟨_,?_,(fS.append ⟨l1,r1⟩ N6).append ⟨l2,r2⟩,hb⟩;simp only[execOp,resolve,Wb,Deferred.ofValue,Sem.run_bind,Sem.run_pure,Result.andThen_ok,invoke,p7 hb]
      ·cases hv
     ·cases hv
    |invoke ro name=>
     simp only at hv;split at hv
     ·rename_i t v Wc;split at hv
      ·rename_i f' hm;split at hv
       ·rename_i hb;cases hv
        obtain⟨u,hu,vM⟩:=(hr ro (by simp[Call.operands]) _ Wc).yY;refine⟨#[u]++cH.map ρ,?_,fS.cons vM N6,hb⟩;have je: ∃n,cf.P.types.size+Made.depth=n+1:=⟨cf.P.types.size+(Made.depth-1),rfl⟩;obtain⟨n,hn⟩:=je;simp only[execOp,resolve,hu,Sem.run_bind,Sem.run_pure,Result.andThen_ok,invoke]
        have e0:(#[Value.iface t u]++cH.map ρ)[0]?=some (Value.iface t u):=by
         rw[Array.getElem?_append_left (Nat.zero_lt_one)];rfl
        have e1:(#[Value.iface t u]++cH.map ρ).extract 1 (#[Value.iface t u]++cH.map ρ).size=cH.map ρ:=by simp
        simp only[e0,e1,callMethod,Sem.run_bind,run_program,Result.andThen_ok,hn,LI hm,p7 hb]
       ·cases hv
      ·cases hv
     ·cases hv
    |builtin b=>
     obtain⟨_,_,he⟩:=xj tV;cases he
   ·simp only[aT]at hv;split at hv<;>cases hv
theorem EO{o:Oper}{v:af}(hr:gn cf.G E w tm ρ o.op.operands)(hv:aT cf tm h o.op=some (.iK v)):
  ∃u,(execOp ρ o).run cf.P w= .halt (.panic u) w/\ck E w v u:=by
   obtain⟨dst,op,ty,pos,after,guard⟩:=o;simp only at hr hv;rcases mD hv with⟨_,_,he⟩|⟨c,rfl⟩|⟨x,rfl⟩
   ·cases he
   ·exfalso;obtain⟨callee,cH,sG⟩:=c;simp only[aT]at hv
    cases callee with
    |value fo=>
     simp only[cI]at hv
     repeat' split at hv
     all_goals cases hv
    |invoke ro name=>
     simp only[cI]at hv
     repeat' split at hv
     all_goals cases hv
    |builtin b=>
     obtain⟨_,_,he⟩:=xj hv;cases he
   ·simp only[aT]at hv;simp only[Op.operands]at hr;split at hv
    ·rename_i t v hx;cases hv
     have h1:=hr x (by simp) _ hx;obtain⟨u,hu,vM⟩:=h1.yY;refine⟨.iface t u,?_,.iface t v u vM⟩;simp only[execOp,hu,Instr.panic,Sem.run_bind];rfl
    ·cases hv
end
structure kZ(cf:dS)(E:Env)(w:World)(st:St)(a:Act):Prop where
 oJ:dL E st.hp w
 full:Full E st.hp
 g:sE cf.G E.S w
 tm:kp E w st.tm a
 df:a.defers=[]
def zi(cf:dS)(E:Env)(h:aC)(w:World)(N:Nat)(r:Out):Exit->Act->World->Prop
 | .normal,a,w'=>∃st E',r= .norm st/\kZ cf E' w' st a/\Ext E h w E' st.hp w'/\a.tmps.size=N
 | .exit id,a,w'=>∃st E',r= .exit id st/\kZ cf E' w' st a/\Ext E h w E' st.hp w'/\a.tmps.size=N
 | .ret,a,w'=>∃st E',r= .ret st/\kZ cf E' w' st a/\Ext E h w E' st.hp w'/\a.tmps.size=N
 | .panic chain,a,w'=>∃v h' E' u,r= .iK v h'/\chain=[{v:=u,recovered:=false}]/\dL E' h' w'/\Full E' h'/\Ext E h w E' h' w'/\ck E' w' v u/\a.defers=[]
 | .goto _,_,_=>False
 | .outgrown,_,_=>False
theorem zi.from{cf:dS}{E E1:Env}{h h1:aC}{w w1:World}{N:Nat}{r:Out}(x:Ext E h w E1 h1 w1): ∀(e:Exit)(a:Act)(w':World),zi cf E1 h1 w1 N r e a w'->zi cf E h w N r e a w':=by
 intro e a w' hq
 cases e with
 |normal=>obtain⟨st,E',g1,g2,g3,g4⟩:=hq;exact⟨st,E',g1,g2,x.trans g3,g4⟩
 |exit id=>obtain⟨st,E',g1,g2,g3,g4⟩:=hq;exact⟨st,E',g1,g2,x.trans g3,g4⟩
 |ret=>obtain⟨st,E',g1,g2,g3,g4⟩:=hq;exact⟨st,E',g1,g2,x.trans g3,g4⟩
 |panic chain=>obtain⟨v,h',E',u,g1,g2,g3,g4,g5,g6,g7⟩:=hq;exact⟨v,h',E',u,g1,g2,g3,g4,x.trans g5,g6,g7⟩
 |goto l=>exact hq
 |outgrown=>exact hq
section
variable{cf:dS}{E:Env}{w:World}{h:aC}
theorem kp.put{tm:Nat->af}{a:Act}{dst:Option Tmp}{v:af}{u:Value}(ht:kp E w tm a)(hr:ck E w v u)(hd: ∀d,dst=some d->d<a.tmps.size):kp E w (iN tm dst v) (a.put dst u):=by
 intro k
 cases dst with
 |none=>exact ht k
 |some d=>
  have N7:=hd d rfl;simp only[iN,eU,Act.put]
  by_cases e:k=d
  ·subst e;rw[if_pos rfl];simpa[Array.getElem?_setIfInBounds,N7]using hr
  ·rw[if_neg e];have:=ht k;simpa[Array.getElem?_setIfInBounds,Ne.symm e]using this
theorem kp.ext{E':Env}{h':aC}{w':World}{tm:Nat->af}{a:Act}(ht:kp E w tm a)(s:dL E h w)(x:Ext E h w E' h' w'):kp E' w' tm a:=fun k=>(ht k).ext x s
theorem pf(a:Act)(dst:Option Tmp)(u:Value):(a.put dst u).tmps.size=a.tmps.size:=by cases dst<;>simp[Act.put]
theorem put_defers(a:Act)(dst:Option Tmp)(u:Value):(a.put dst u).defers=a.defers:=by cases dst<;>rfl
theorem mI:ck E w (.dX []) undef:=.eG (.dX [] #[] rfl fun i c v hc=>by simp at hc)
theorem ck.N8{x:af}{b:Bool}(h:ck E w x (.bool b)):x= .bool b:=by cases h with|eG h=>cases h;rfl
theorem oL{ops:Array Oper}{o:Oper}{tm:Nat->af}{a:Act}(ht: ∀j yb d,o.guard=some (j,yb)->(ops[j]?).bind (·.dst)=some d->ck E w (tm d) (a.tmps.getD d undef)):
  (dP ops o tm=none->Region.wanted o (yielded ops a.tmps)=true)/\ ∀t,dP ops o tm=some t->Region.wanted o (yielded ops a.tmps)=t:=by
   unfold dP Region.wanted
   cases hg:o.guard with
   |none=>exact⟨fun _=>rfl,fun t h=>by simp at h⟩
   |some gw=>
    obtain⟨j,yb⟩:=gw;refine⟨fun h=>?_,fun t h=>?_⟩
    ·simp only at h;split at h
     ·split at h<;>cases h
     ·cases h
    ·simp only at h⊢;unfold yielded
     cases hd:(ops[j]?).bind (·.dst)with
     |none=>simp only[hd]at h;cases h;rfl
     |some d=>
      simp only[hd,Option.bind_some]at h⊢;have hr:=ht j yb d hg hd
      cases hx:a.tmps[d]? with
      |none=>
       have hu:a.tmps.getD d undef=undef:=by simp[hx]
       rw[hu]at hr;simp only;split at h
       ·rename_i b hb;rw[hb]at hr;have:=hr.bool;cases this
       ·cases h;rfl
      |some u=>
       have hu:a.tmps.getD d undef=u:=by simp[hx]
       rw[hu]at hr;split at h
       ·rename_i b hb;rw[hb]at hr;obtain rfl:=hr.bool;cases h
        rfl
       ·rename_i hn;cases h
        cases u<;>try rfl
        rename_i b;exact absurd hr.N8 (hn b)
theorem uv{ops:Array Oper}{o:Oper}{tm:Nat->af}{a:Act}(ht:kp E w tm a):
  (dP ops o tm=none->Region.wanted o (yielded ops a.tmps)=true)/\ ∀t,dP ops o tm=some t->Region.wanted o (yielded ops a.tmps)=t:=oL fun _ _ d _ _=>ht d
def ia(cf:dS)(C:pP):Prop:=∀f args h r,bN cf C f args h=some r-> ∀(E:Env)(w:World)(vs:Array Value),fW cf.P f=true->dL E h w->Full E h->sE cf.G E.S w->fS E w args vs->Calls cf.P f vs w (uo E h w r)
theorem kZ.ops{st:St}{a:Act}(rel:kZ cf E w st a)(xs:Array Operand):gn cf.G E w st.tm a.eval xs:=⟨fun x _ v hv=>yT rel.g rel.tm hv,fun _=>rfl⟩
theorem kZ.skip{st:St}{a:Act}{dst:Option Tmp}(rel:kZ cf E w st a)(hd: ∀d,dst=some d->d<a.tmps.size):kZ cf E w ⟨iN st.tm dst (.dX []),st.hp⟩ (a.put dst undef):=
 ⟨rel.oJ,rel.full,rel.g,rel.tm.put mI hd,by rw[put_defers];exact rel.df⟩
theorem Ii{C:pP}(hC:ia cf C){N:Nat}{d:Bool}{o:Oper}{st:St}{K:St->Option Out}{r:Out}{a:Act}{next:Act->World->Prop}(hs:eJ cf C d o st K=some r)(rel:kZ cf E w st a)(hN:a.tmps.size=N)
  (hd: ∀d,o.dst=some d->d<N)
  (hK: ∀(d8:St)(E':Env)(w':World)(a':Act),K d8=some r->kZ cf E' w' d8 a'->Ext E st.hp w E' d8.hp w'->a'.tmps.size=N->next a' w'):o.wp cf.P a w next (zi cf E st.hp w N r):=by
   unfold eJ at hs
   have fin: ∀(v:af)(h':aC)(u:Value)(w':World)(E':Env),K ⟨iN st.tm o.dst v,h'⟩=some r->dL E' h' w'->Full E' h'->Ext E st.hp w E' h' w'->ck E' w' v u->next (a.put o.dst u) w':=by
    intro v h' u w' E' hk s' f' x' r';exact hK _ E' w' _ hk ⟨s',f',rel.g.ext rel.oJ x',(rel.tm.ext rel.oJ x').put r' (by rw[hN];exact hd),by rw[put_defers];exact rel.df⟩ x' (by rw[pf];exact hN)
   cases ho:aT cf st.tm st.hp o.op with
   |none=>simp[ho]at hs
   |some q=>
    cases q with
    |val v h'=>
     simp only[ho]at hs;obtain⟨u,w',E',fl,s',f',x',r'⟩:=ze rel.oJ rel.full (rel.ops _) ho;unfold Oper.wp;rcases fl with fl|⟨fl,rfl⟩
     ·rw[fl];exact fin v h' u w' E' hs s' f' x' r'
     ·rw[fl];exact fin v h' undef w' E' hs s' f' x' r'
    |call f args=>
     simp only[ho]at hs;obtain⟨vs,fl,kz,hb⟩:=mE (rel.ops _) ho;unfold Oper.wp;rw[fl]
     cases hg:d&&(ya o.op&& !re (cf.M f))with
     |true=>simp[hg]at hs
     |false=>
     simp only[hg]at hs
     cases hc:bN cf C f args st.hp with
     |none=>simp[hc]at hs
     |some q=>
      simp only[hc]at hs;refine Calls.mono (hC f args st.hp q hc E w vs hb rel.oJ rel.full rel.g kz) fun e w' he=>?_
      cases e with
      |returned u=>
       obtain⟨v,h',E',rfl,s',f',x',r'⟩:=he
       exact fin v h' u w' E' hs s' f' x' r'
      |panicked chain=>
       obtain⟨v,h',E',u,rfl,rfl,s',f',x',r'⟩:=he;cases hs
       exact⟨v,h',E',u,rfl,rfl,s',f',x',r',rel.df⟩
      |outgrown=>exact he.elim
    |iK v=>
     simp only[ho]at hs;cases hs
     obtain⟨u,fl,hr⟩:=EO (rel.ops _) ho;unfold Oper.wp;rw[fl];exact⟨v,st.hp,E,u,rfl,rfl,rel.oJ,rel.full,Ext.refl _ _ _,hr,rel.df⟩
theorem Ij{M:FuncId->Mode}{o:Op}(h:jD o=true):vI M o=false:=by
 cases o
 case call c=>
  obtain⟨callee,args,sG⟩:=c
  cases callee with
  |value f=>cases h
  |invoke r m=>cases h
  |builtin b=>cases b<;>first|rfl|cases h
 all_goals first|rfl|cases h
theorem CO{d:Bool}{ops:Array Oper}{o:Oper}{n:Nat}{K:St->Option Out}{st:St}(h:vI cf.M o.op=false):kX cf d ops o n K st=K st:=by
 unfold kX;rw[h];simp
theorem zj{C:pP}{d:Bool}{ops:Array Oper}{o:Oper}{rest:List Oper}{st:St}{r:Out}(hr:jh cf C d ops (o::rest) st=some r):
  ((dP ops o st.tm=none∨dP ops o st.tm=some true)/\eJ cf C d o st (kX cf d ops o rest.length (jh cf C d ops rest))=some r)∨(dP ops o st.tm=some false/\jh cf C d ops rest ⟨iN st.tm o.dst (.dX []),st.hp⟩=some r):=by
   simp only[jh]at hr
   cases hg:dP ops o st.tm with
   |none=>simp only[hg]at hr;exact .inl ⟨.inl rfl,hr⟩
   |some t=>
    simp only[hg]at hr
    cases t with
    |false=>
     right
     refine⟨rfl,?_⟩;split at hr
     ·simpa[Ej]using hr
     ·simpa[J6]using hr
    |true=>
     left
     refine⟨.inr rfl,?_⟩;split at hr
     ·rename_i TY;simp only[Ej]at hr;unfold eJ;split at hr
      ·rename_i v h' hv;simp only[hv];rw[CO (Ij TY)];exact hr
      ·cases hr
     ·simpa[J6]using hr
theorem EP{P:Program}{ops:Array Oper}{Q Q':Exit->Act->World->Prop}(hQ: ∀e a w,Q e a w->Q' e a w): ∀(l:List Oper)(a:Act)(w:World),wpList P ops Q l a w->wpList P ops Q' l a w:=by
 intro l
 induction l with
 |nil=>intro a w h;exact hQ _ _ _ h
 |cons o rest ih=>
  intro a w h;unfold wpList at h⊢;split
  ·rename_i hw;rw[if_pos hw]at h;rcases h with h|⟨h1,a0,w0,h2⟩
   ·left
    unfold Oper.wp at h⊢;generalize(execOp a.eval o).run P w=q at h⊢
    cases q with
    |ok n w'=>
     cases n<;>simp only[Oper.upon]at h⊢ <;>first
      |exact ih _ _ h
      |exact Calls.mono h (fun e XS he=>by cases e with
       |returned v=>exact ih _ _ he
       |panicked c=>exact hQ _ _ _ he
       |outgrown=>obtain⟨a0,w0,h2⟩:=he;exact⟨a0,w0,hQ _ _ _ h2⟩)
      |exact Rows.mono h (fun _ _ he=>ih _ _ he)
    |halt x w'=>cases x<;>simp only[Oper.upon]at h⊢ <;>exact hQ _ _ _ h
   ·exact .inr ⟨h1,a0,w0,hQ _ _ _ h2⟩
  ·rename_i hw;rw[if_neg hw]at h;exact ih _ _ h
theorem Ik{C:pP}(hC:ia cf C){N:Nat}{d:Bool}{ops:Array Oper}: ∀(l:List Oper)(E:Env)(w:World)(st:St)(a:Act)(r:Out),(∀o∈l,∀d,o.dst=some d->d<N)->jh cf C d ops l st=some r->kZ cf E w st a->a.tmps.size=N->
  wpList cf.P ops (zi cf E st.hp w N r) l a w:=by
   intro l
   induction l with
   |nil=>
    intro E w st a r _ hr rel hN;simp only[jh]at hr;cases hr
    exact⟨st,E,rfl,rel,Ext.refl _ _ _,hN⟩
   |cons o rest ih=>
    intro E w st a r hd hr rel hN;have Wd: ∀d,o.dst=some d->d<N:=hd o (by simp);have yX: ∀o'∈rest,∀d,o'.dst=some d->d<N:=fun o' gI=>hd o' (by simp[gI]);obtain⟨TZ,N9⟩:=uv (ops:=ops) (o:=o) rel.tm
    have again: ∀(E':Env)(w':World)(d8:St)(a':Act),jh cf C d ops rest d8=some r->kZ cf E' w' d8 a'->Ext E st.hp w E' d8.hp w'->a'.tmps.size=N->wpList cf.P ops (zi cf E st.hp w N r) rest a' w':=by
     intro E' w' d8 a' vP iS x' yf;have:=ih E' w' d8 a' r yX vP iS yf;exact EP (zi.from x') rest a' w' this
    unfold wpList;rcases zj hr with⟨hg,ER⟩|⟨hg,We⟩
    ·have hw:Region.wanted o (yielded ops a.tmps)=true:=by
      rcases hg with hg|hg
      ·exact TZ hg
      ·exact N9 true hg
     rw[if_pos hw]
     left
     exact Ii hC ER rel hN Wd fun d8 E' w' a' hk iS x' yf=>again E' w' d8 a' (kn hk).1 iS x' yf
    ·have hw:Region.wanted o (yielded ops a.tmps)=false:=N9 false hg;rw[if_neg (by simp[hw])];exact again E w _ _ We (rel.skip (by rw[hN];exact Wd)) (Ext.refl _ _ _) (by rw[pf];exact hN)
end
end Go.Am
set_option maxHeartbeats 4000000
namespace Go.Am
open Go
def dU(P:Program):Op->Bool
 | .move _=>true
 | .assign _=>true
 | .pick _ _ _=>true
 | .nilCheck _=>true
 | .binOp _ _ _ _ _=>true
 | .unOp _ _ _=>true
 | .makeInterface _ _=>true
 | .makeFunc _ _ _=>true
 | .fieldAddr _ _ _=>true
 | .field _ _ _=>true
 | .index _ _ _=>true
 | .extract _ _=>true
 | .build _ _=>true
 | .buildSlice _ 0 _=>true
 | .call {callee:=.builtin .len,argTypes,..}=>match(argTypes[0]?).bind P.underlying with
  |some (.slice _)=>true
  |some .string=>true
  |_=>false
 |_=>false
def CP(M:FuncId->Mode):Op->Bool
 | .call {callee:=.value (.func f),..}=>J5 (M f)
 | .call {callee:=.value _,..}=>true
 | .call {callee:=.invoke _ _,..}=>true
 |_=>false
def ti(M:FuncId->Mode)(o:Op):Bool:=mW o||CP M o
def Il(P:Program)(M:FuncId->Mode)(ops:Array Oper)(x y:Oper):Bool:=x.apart ops y&&(dU P x.op||dU P y.op||(ti M x.op&&ti M y.op))
def calm(ops:Array Oper)(x:Oper)(l:List Oper):Bool:=l.all fun k=>match k.dst with
 |some d=>!(x.looksAt ops).contains d&&x.dst != some d
 |none=>true
def Im(M:FuncId->Mode)(ops:Array Oper)(x o:Oper)(xs:List Oper):Bool:=x.apart ops o&&i5 x&&vI M o.op&&calm ops x (xs++[o])&&match x.dst with
 |some d=>!(x.looksAt ops).contains d
 |none=>false
def uw(P:Program)(M:FuncId->Mode)(ops:Array Oper)(o:Oper)(m:Nat):List Oper->Nat->Bool
 | [],_=>true
 |x::xs,i=>(m.testBit i||Il P M ops x o||Im M ops x o xs)&&uw P M ops o m xs (i+1)
def ux(P:Program)(M:FuncId->Mode)(ops:Array Oper)(l:List Oper):List Oper->List Nat->Nat->Bool
 |o::r,m::ms,j=>(o.after.toList.all fun e=>!Region.binds .any e||decide (e.on<j))&&uw P M ops o m (l.take j) 0&&ux P M ops l r ms (j+1)
 | [],_,_=>true
 |_::_,[],_=>false
def vR(P:Program)(M:FuncId->Mode)(ops:Array Oper):Bool:=ux P M ops ops.toList ops.toList (lI ops.toList []) 0
inductive Dn(ops:Array Oper):Nat->Nat->Prop
 |Wf {j:Nat} {o:Oper} {e:Edge} (ho:ops[j]?=some o) (he:e∈o.after) (hb:Region.binds .any e=true):Dn ops e.on j
 |step {i j:Nat} {o:Oper} {e:Edge} (ho:ops[j]?=some o) (he:e∈o.after) (hb:Region.binds .any e=true) (hd:Dn ops i e.on):Dn ops i j
section
variable{P:Program}{ops:Array Oper}{M:FuncId->Mode}
theorem ES{acc:List Nat}: ∀(es:List Edge)(m i:Nat),(CE acc es m).testBit i=true->m.testBit i=true∨ ∃e∈es,Region.binds .any e=true/\(e.on=i∨ ∃m',acc[e.on]?=some m'/\m'.testBit i=true):=by
 intro es
 induction es with
 |nil=>intro m i h;exact .inl h
 |cons e es ih=>
  intro m i h;simp only[CE]at h;rcases ih _ i h with h|⟨e',zc,h⟩
  ·split at h
   ·rename_i hb;rw[Nat.testBit_or,Nat.testBit_or,Nat.testBit_two_pow]at h;simp only[Bool.or_eq_true,decide_eq_true_eq]at h;rcases h with(h|h)|h
    ·exact .inl h
    ·exact .inr ⟨e,by simp,hb,.inl h⟩
    ·right
     refine⟨e,by simp,hb,.inr ?_⟩
     cases ha:acc[e.on]? with
     |none=>simp[ha]at h
     |some m'=>exact⟨m',rfl,by simpa[ha]using h⟩
   ·exact .inl h
  ·exact .inr ⟨e',by simp[zc],h⟩
theorem Io: ∀(l:List Oper)(acc:List Nat),(∀k,l[k]?=ops[acc.length+k]?)->(∀k m,acc[k]?=some m-> ∀i,m.testBit i=true->Dn ops i k)-> ∀k m,(lI l acc)[k]?=some m-> ∀i,m.testBit i=true->Dn ops i k:=by
 intro l
 induction l with
 |nil=>intro acc _ h;exact h
 |cons o r ih=>
  intro acc hl h;simp only[lI];refine ih _ (fun k=>?_) fun k m hk i hi=>?_
  ·have:=hl (k+1);simp at this;rw[this];simp
   congr 1
   omega
  ·by_cases eH:k<acc.length
   ·rw[bp eH]at hk;exact h k m hk i hi
   ·rw[List.getElem?_append_right (by omega)]at hk
    have Nm:k=acc.length:=by
     have:=(az.1 hk).1;simp at this;omega
    subst Nm;simp at hk;subst hk;have ho:ops[acc.length]?=some o:=by have:=hl 0;simpa using this.symm
    rcases ES _ _ _ hi with h0|⟨e,he,hb,h1⟩
    ·simp at h0
    ·rcases h1 with rfl|⟨m',gU,o7⟩
     ·exact .Wf ho (by simpa using he) hb
     ·exact .step ho (by simpa using he) hb (h _ _ gU i o7)
theorem CQ{o:Oper}{m:Nat}: ∀(xs:List Oper)(i:Nat),uw P M ops o m xs i=true-> ∀k x,xs[k]?=some x->m.testBit (i+k)=true∨Il P M ops x o=true∨(m.testBit (i+k)=false/\Im M ops x o (xs.drop (k+1))=true):=by
 intro xs
 induction xs with
 |nil=>intro i _ k x hk;simp at hk
 |cons y ys ih=>
  intro i h k x hk;simp only[uw,aj,Bool.or_eq_true]at h
  cases k with
  |zero=>
   simp at hk;subst hk;rcases h.1 with(h|h)|h
   ·exact .inl h
   ·exact .inr (.inl h)
   ·cases hb:m.testBit (i+0)with
    |true=>exact .inl rfl
    |false=>exact .inr (.inr ⟨rfl,by simpa using h⟩)
  |succ k=>
   have:=ih (i+1) h.2 k x (by simpa using hk);rw[show i+(k+1)=i+1+k by omega];simpa using this
theorem LJ{x:Oper}{l:List Oper}(h:calm ops x l=true): ∀o'∈l,∀d,o'.dst=some d->d∉x.looksAt ops/\x.dst≠some d:=by
 intro o' gI d hd;have:=aG.1 h o' gI;simp only[hd,aj,Bool.not_eq_true',bne_iff_ne,ne_eq]at this;exact⟨fun hm=>by have:=this.1;simp_all,this.2⟩
structure YM(M:FuncId->Mode)(ops:Array Oper)(i j:Nat)(x y:Oper):Prop where
 apart:x.apart ops y=true
 late:i5 x=true
 fc:vI M y.op=true
 calm: ∀k o',i<k->k<=j->ops[k]?=some o'-> ∀d,o'.dst=some d->d∉x.looksAt ops/\x.dst≠some d
 self: ∃d,x.dst=some d/\d∉x.looksAt ops
 un:(((lI ops.toList [])[j]?).getD 0).testBit i=false
theorem uy{l:List Oper}: ∀(r:List Oper)(ms:List Nat)(j:Nat),ux P M ops l r ms j=true-> ∀k o,r[k]?=some o-> ∃m,ms[k]?=some m/\(∀e∈o.after,Region.binds .any e=true->e.on<j+k)/\uw P M ops o m (l.take (j+k)) 0=true:=by
 intro r
 induction r with
 |nil=>intro ms j _ k o hk;simp at hk
 |cons x xs ih=>
  intro ms j h k o hk
  cases ms with
  |nil=>simp[ux]at h
  |cons m ms=>
   simp only[ux,aj]at h
   cases k with
   |zero=>
    simp at hk;subst hk;refine⟨m,rfl,fun e he hb=>?_,h.1.2⟩;have:=aG.1 h.1.1 e (by simpa using he)
    simpa[hb]using this
   |succ k=>
    obtain⟨m',h1,h2,h3⟩:=ih ms (j+1) h.2 k o (by simpa using hk);rw[show j+(k+1)=j+1+k by omega];exact⟨m',by simpa using h1,h2,h3⟩
theorem xk(h:vR P M ops=true):(∀j o,ops[j]?=some o-> ∀e∈o.after,Region.binds .any e=true->e.on<j)/\
  ∀i j x y,i<j->ops[i]?=some x->ops[j]?=some y->Dn ops i j∨(x.apart ops y=true/\(dU P x.op=true∨dU P y.op=true∨(ti M x.op=true/\ti M y.op=true)∨YM M ops i j x y)):=by
   refine⟨fun j o ho e he hb=>?_,fun i j x y xl hx hy=>?_⟩
   ·obtain⟨m,_,h2,_⟩:=uy _ _ _ h j o (by simpa using ho);have:=h2 e he hb;omega
   ·obtain⟨m,h1,_,h3⟩:=uy _ _ _ h j y (by simpa using hy);rw[bg]at h3;rcases CQ _ _ h3 i x (by rw[List.getElem?_take,if_pos xl];simpa using hx)with hb|hp|⟨hb,hp⟩
    ·left
     rw[bg]at hb;exact Io ops.toList [] (fun k=>by simp) (fun k m hk=>by simp at hk) j m h1 i hb
    ·right
     simp only[Il,aj,Bool.or_eq_true]at hp;refine⟨hp.1,?_⟩;rcases hp.2 with(h|h)|h
     ·exact .inl h
     ·exact .inr (.inl h)
     ·exact .inr (.inr (.inl h))
    ·right
     rw[bg]at hb;simp only[Im,aj]at hp;obtain⟨⟨⟨⟨h4,h5⟩,h6⟩,h7⟩,h8⟩:=hp
     have h9: ∃d,x.dst=some d/\d∉x.looksAt ops:=by
      cases hd:x.dst with
      |none=>simp[hd]at h8
      |some d=>exact⟨d,rfl,by simp only[hd,Bool.not_eq_true']at h8;intro hm;simp_all⟩
     refine⟨h4,.inr (.inr (.inr ⟨h4,h5,h6,fun k o' dw jf gI d hd=>LJ h7 o' ?_ d hd,h9,by rw[h1];exact hb⟩))⟩;rw[bu]
     by_cases e:k=j
     ·subst e;rw[hy]at gI;cases gI;exact .inr (by simp)
     ·left
      have:((ops.toList.take j).drop (i+1))[k-(i+1)]?=some o':=by
       rw[List.getElem?_drop,List.getElem?_take,if_pos (by omega),show i+1+(k-(i+1))=k by omega];simpa using gI
      exact aV this
theorem Dn.bT{L:Nat->Prop}(SM: ∀j o,ops[j]?=some o->L j-> ∀e∈o.after,Region.binds .any e=true->L e.on){i j:Nat}(hd:Dn ops i j):(L j->L i)/\((∀o,ops[j]?=some o-> ∀e∈o.after,Region.binds .any e=true->L e.on)->L i):=by
 induction hd with
 |Wf ho he hb=>exact⟨fun h=>SM _ _ ho h _ he hb,fun h=>h _ ho _ he hb⟩
 |step ho he hb _ ih=>exact⟨fun h=>ih.1 (SM _ _ ho h _ he hb),fun h=>ih.1 (h _ ho _ he hb)⟩
theorem lh{o:Op}(h:dU P o=true):mW o=true:=by
 cases o<;>(try rfl)<;>(try(cases h;done))
 rename_i c;obtain⟨callee,args,sG⟩:=c
 cases callee with
 |value f=>cases h
 |invoke r m=>cases h
 |builtin b=>cases b<;>first|rfl|cases h
end
section
variable{cf:dS}{tm:Nat->af}
theorem ET{h h':aC}{x:af}(hx:match x with| .map _=>False|_=>True){n:Int}(hl:tY h x=some n):tY h' x=some n:=by
 cases x<;>first|exact hl|exact hx.elim
theorem uz{o:Op}{h:aC}{r:HI}(hf:dU cf.P o=true)(hv:aT cf tm h o=some r): ∃v,r= .val v h/\ ∀h',aT cf tm h' o=some (.val v h'):=by
 cases o<;>(try(cases hf;done))
 case buildSlice t n ps=>
  cases n with
  |succ n=>cases hf
  |zero=>
   simp only[aT]at hv⊢
   repeat' split at hv
   all_goals first
    |(cases hv;done)
    |(cases hv;exact⟨.nil,rfl,fun h'=>by simp_all[lD]⟩)
 case call c=>
  obtain⟨callee,args,sG⟩:=c
  cases callee with
  |value f=>cases hf
  |invoke r m=>cases hf
  |builtin b=>
   cases b<;>(try(cases hf;done))
   simp only[dU]at hf;simp only[aT,cI]at hv⊢
   cases ha:cp (ev cf.G tm) args.toList with
   |none=>simp[ha]at hv
   |some as=>
    simp only[ha]at hv⊢
    match as,hv with
    | [x],hv=>
     simp only at hv⊢
     cases hd:(sG[0]?).bind cf.P.underlying with
     |none=>simp[hd]at hf
     |some d=>
      simp only[hd]at hf hv⊢
      cases hl:tY h x with
      |none=>simp only[hl]at hv;cases hv
      |some n=>
       simp only[hl]at hv;cases d<;>simp only at hf hv<;>(try(cases hf;done))
       ·cases x<;>simp only at hv<;>(try(cases hv;done))
        cases hv
        exact⟨_,rfl,fun h'=>by simp only[ET (h':=h') trivial hl]⟩
       ·cases x<;>simp only at hv<;>(try(cases hv;done))
        all_goals
         cases hv
         exact⟨_,rfl,fun h'=>by simp only[ET (h':=h') trivial hl]⟩
    | [],hv=>cases hv
    |_::_::_,hv=>cases hv
 all_goals simp only[aT]at hv⊢
 all_goals repeat' split at hv
 all_goals first
  |(cases hv;done)
  |(cases hv;exact⟨_,rfl,fun h'=>by simp_all⟩)
  |(simp only[ai]at hv
    obtain⟨_,hx,rfl⟩:=hv;exact⟨_,rfl,fun h'=>by simp_all⟩)
theorem Ks{m:Mode}(h:re m=true):J5 m=true:=by cases m<;>first|rfl|cases h
theorem EU{m:Mode}(h:J5 m=true):m= .P∨m= .N:=by cases m<;>first|exact .inl rfl|exact .inr rfl|cases h
theorem oc{o:Op}{h:aC}{r:HI}(hp:CP cf.M o=true)(hv:aT cf tm h o=some r): ∃f args,r= .call f args/\((ya o&& !re (cf.M f))=false->J5 (cf.M f)=true):=by
 cases o<;>(try(cases hp;done))
 rename_i c;obtain⟨callee,args,sG⟩:=c
 cases callee with
 |builtin b=>cases hp
 |value fo=>
  simp only[aT,cI]at hv;split at hv
  ·cases hv
  ·split at hv
   ·rename_i f first cap HP
    split at hv
    ·rename_i hb;cases hv
     refine⟨_,_,rfl,fun hd=>?_⟩;cases fo
     case func g=>
      simp only[ev]at HP;cases HP
      exact hp
     all_goals
      simp only[ya,aX,Bool.not_eq_false']at hd;exact Ks hd
    ·cases hv
   ·cases hv
 |invoke ro name=>
  simp only[aT,cI]at hv;split at hv
  ·cases hv
  ·split at hv
   ·split at hv
    ·split at hv
     ·rename_i hb;cases hv
      refine⟨_,_,rfl,fun hd=>?_⟩;simp only[ya,aX,Bool.not_eq_false']at hd;exact Ks hd
     ·cases hv
    ·cases hv
   ·cases hv
end
inductive fb(cf:dS)(C:pP)(ops:Array Oper)(st:St)(o:Oper)(d8:St):Prop
 |skip (hg:dP ops o st.tm=some false) (he:d8=⟨iN st.tm o.dst (.dX []),st.hp⟩):fb cf C ops st o d8
 |val (v:af) (h:aC) (hg:dP ops o st.tm=none∨dP ops o st.tm=some true) (hv:aT cf st.tm st.hp o.op=some (.val v h)) (he:d8=⟨iN st.tm o.dst v,h⟩):fb cf C ops st o d8
 |call (f:FuncId) (args:List af) (v:af) (h:aC) (hg:dP ops o st.tm=none∨dP ops o st.tm=some true) (hv:aT cf st.tm st.hp o.op=some (.call f args)) (Nn:(ya o.op&& !re (cf.M f))=false) (hc:bN cf C f args st.hp=some (.ret v h)) (he:d8=⟨iN st.tm o.dst v,h⟩):fb cf C ops st o d8
section
variable{cf:dS}{C:pP}{ops:Array Oper}
theorem Oa: ∀(l:List Oper)(st Np:St),jh cf C true ops l st=some (.norm Np)-> ∃tr:Nat->St,tr 0=st/\tr l.length=Np/\ ∀i o,l[i]?=some o->fb cf C ops (tr i) o (tr (i+1))/\
  (vI cf.M o.op=true->(dP ops o (tr i).tm=some false/\(tr (i+1)).hp=(tr i).hp)∨md cf (tr (i+1)) (((lI ops.toList [])[ops.size-(l.length-i)]?).getD 0) (ops.toList.take (ops.size-(l.length-i))) 0):=by
   intro l
   induction l with
   |nil=>intro st Np h;simp only[jh]at h;cases h;exact⟨fun _=>st,rfl,rfl,fun i o ho=>by simp at ho⟩
   |cons o rest ih=>
    intro st Np h
    have key: ∃Vp,(fb cf C ops st o Vp/\(vI cf.M o.op=true->(dP ops o st.tm=some false/\Vp.hp=st.hp)∨md cf Vp (((lI ops.toList [])[ops.size-rest.length-1]?).getD 0) (ops.toList.take (ops.size-rest.length-1)) 0))/\jh cf C true ops rest Vp=some (.norm Np):=by
     rcases zj h with⟨hg,hs⟩|⟨hg,hs⟩
     ·unfold eJ at hs
      cases ho:aT cf st.tm st.hp o.op with
      |none=>simp[ho]at hs
      |some q=>
       cases q with
       |val v h1=>simp only[ho]at hs;exact⟨_,⟨.val v h1 hg ho rfl,fun hf=>.inr ((kn hs).2 hf)⟩,(kn hs).1⟩
       |iK v=>simp[ho]at hs
       |call f args=>
        simp only[ho,aX]at hs
        cases Nn:ya o.op&& !re (cf.M f)with
        |true=>simp[Nn]at hs
        |false=>
        simp only[Nn]at hs
        cases hc:bN cf C f args st.hp with
        |none=>simp[hc]at hs
        |some q=>
         cases q with
         |ret v h1=>simp only[hc]at hs;exact⟨_,⟨.call f args v h1 hg ho Nn hc rfl,fun hf=>.inr ((kn hs).2 hf)⟩,(kn hs).1⟩
         |iK v h1=>simp[hc]at hs
     ·exact⟨_,⟨.skip hg rfl,fun hf=>.inl ⟨hg,rfl⟩⟩,hs⟩
    obtain⟨Vp,h1,h2⟩:=key;obtain⟨tr,t0,tn,ts⟩:=ih Vp Np h2;refine⟨fun i=>match i with|0=>st|i+1=>tr i,rfl,tn,fun i o' gI=>?_⟩
    cases i with
    |zero=>
     simp at gI;subst gI;subst t0;refine⟨h1.1,fun hf=>?_⟩;rcases h1.2 hf with h|h
     ·exact .inl h
     ·right
      rw[show ops.size-((o::rest).length-0)=ops.size-rest.length-1 by simp;omega]
      exact h
    |succ i=>
     have:=ts i o' (by simpa using gI);refine⟨this.1,fun hf=>?_⟩;rcases this.2 hf with h|h
     ·exact .inl h
     ·right
      rw[show(o::rest).length-(i+1)=rest.length-i by simp];exact h
theorem fb.Ob{st d8:St}{o:Oper}(h:fb cf C ops st o d8){t:Nat}(hd:o.dst≠some t):d8.tm t=st.tm t:=by
 have hp: ∀v,iN st.tm o.dst v t=st.tm t:=by
  intro v;unfold iN eU
  cases hq:o.dst with
  |none=>rfl
  |some d=>simp only;rw[if_neg (fun e=>hd (by rw[hq,e]))]
 cases h with
 |skip _ he=>subst he;exact hp _
 |val v h _ _ he=>subst he;exact hp _
 |call f a v h _ _ _ _ he=>subst he;exact hp _
theorem fb.BP{st d8:St}{o:Oper}(h:fb cf C ops st o d8)(hx:ti cf.M o.op=true):st.hp <+: d8.hp:=by
 simp only[ti,Bool.or_eq_true]at hx
 cases h with
 |skip _ he=>subst he;exact List.prefix_refl _
 |val v h _ hv he=>
  subst he;rcases hx with hx|hx
  ·exact xf hx hv
  ·obtain⟨f,args,hc,_⟩:=oc hx hv
   cases hc
 |call f a v h _ hv Nn hc he=>
  subst he;rcases hx with hx|hx
  ·exfalso
   by_cases hr:kq o.op=true
   ·obtain⟨_,hq⟩:=mU hr hv;cases hq
   ·rcases mD hv with⟨_,_,hq⟩|⟨c,hq⟩|⟨x,hq⟩
    ·cases hq
    ·rw[hq]at hx hr;exact hr hx
    ·rw[hq]at hx hr;exact hr hx
  ·obtain⟨f',cH,hq,gU⟩:=oc hx hv;cases hq
   rcases EU (gU Nn)with hm|hm
   ·unfold bN at hc;simp only[hm]at hc;split at hc
    ·split at hc
     ·simp only[ai]at hc;obtain⟨_,_,he⟩:=hc;cases he
      exact List.prefix_refl _
     ·simp only[ai]at hc;obtain⟨_,_,he⟩:=hc;cases he
     ·cases hc
    ·split at hc
     ·split at hc
      ·split at hc
       ·cases hc;exact List.prefix_refl _
       ·cases hc
      ·cases hc
     ·cases hc
   ·unfold bN at hc;simp only[hm]at hc;split at hc
    ·split at hc
     ·split at hc
      ·cases hc;exact List.prefix_append _ _
      ·cases hc
     ·cases hc
    ·cases hc
theorem fb.free{st d8:St}{o:Oper}(h:fb cf C ops st o d8)(hx:dU cf.P o.op=true):d8.hp=st.hp:=by
 cases h with
 |skip _ he=>subst he;rfl
 |val v h _ hv he=>
  subst he;obtain⟨_,hq,_⟩:=uz hx hv;cases hq
  rfl
 |call f a v h _ hv Nn hc he=>
  obtain⟨_,hq,_⟩:=uz hx hv;cases hq
theorem jF{x:Oper}(h:fx x=true):((∃t a,x.op= .load t a)∨(∃t a lo hi,x.op= .slice t a lo hi none)∨ ∃t a i,x.op= .indexAddr t a i)/\x.guard=none:=by
 unfold fx at h;split at h
 ·rename_i t a h1 h2;exact⟨.inl ⟨t,a,h1⟩,h2⟩
 ·rename_i t a lo hi h1 h2;exact⟨.inr (.inl ⟨t,a,lo,hi,h1⟩),h2⟩
 ·rename_i t a i h1 h2;exact⟨.inr (.inr ⟨t,a,i,h1⟩),h2⟩
 ·cases h
theorem Oc{x:Oper}(h:fx x=true):ti cf.M x.op=true:=by
 rcases(jF h).1 with⟨t,a,he⟩|⟨t,a,lo,hi,he⟩|⟨t,a,i,he⟩<;>(rw[he];rfl)
theorem CS{x:Oper}(h:fx x=true):dU cf.P x.op=false:=by
 rcases(jF h).1 with⟨t,a,he⟩|⟨t,a,lo,hi,he⟩|⟨t,a,i,he⟩<;>(rw[he];rfl)
theorem mZ{x:Oper}(h:kW x=true):((∃t,x.op= .alloc t)∨(∃t y,x.op= .box t y)∨ ∃t n ps,x.op= .buildSlice t (n+1) ps)/\x.guard=none:=by
 unfold kW at h;split at h
 ·rename_i t h1 h2;exact⟨.inl ⟨t,h1⟩,h2⟩
 ·rename_i t y h1 h2;exact⟨.inr (.inl ⟨t,y,h1⟩),h2⟩
 ·rename_i t n ps h1 h2;exact⟨.inr (.inr ⟨t,n,ps,h1⟩),h2⟩
 ·cases h
theorem Ip{x:Oper}(h:i5 x=true):fx x=true∨kW x=true:=by simpa[i5]using h
theorem Iq{x:Oper}(h:kW x=true):fx x=false:=by
 cases hl:fx x with
 |false=>rfl
 |true=>
  exfalso;rcases(mZ h).1 with⟨t,e⟩|⟨t,y,e⟩|⟨t,n,ps,e⟩<;>rcases(jF hl).1 with⟨t',a,e'⟩|⟨t',a,lo,hi,e'⟩|⟨t',a,i,e'⟩<;>(rw[e]at e';cases e')
theorem zk{x:Oper}(h:i5 x=true):ti cf.M x.op=true:=by
 rcases Ip h with h|h
 ·exact Oc h
 ·rcases(mZ h).1 with⟨t,e⟩|⟨t,y,e⟩|⟨t,n,ps,e⟩<;>(rw[e];rfl)
theorem Ir{x:Oper}(h:kW x=true):dU cf.P x.op=false:=by
 rcases(mZ h).1 with⟨t,e⟩|⟨t,y,e⟩|⟨t,n,ps,e⟩<;>(rw[e];rfl)
theorem Is{x:Oper}(h:kW x=true):kq x.op=false:=by
 rcases(mZ h).1 with⟨t,e⟩|⟨t,y,e⟩|⟨t,n,ps,e⟩<;>(rw[e];rfl)
theorem ry{x:Oper}(hm:kW x=true){tm:Nat->af}{h:aC}{r:HI}(hv:aT cf tm h x.op=some r):
  ∃v ob,r= .val v (h++[ob])/\((v= .ptr h.length 0 0/\aT cf tm [] x.op=some (.val (.ptr 0 0 0) [ob]))∨ ∃n,v= .own h.length 0 n/\aT cf tm [] x.op=some (.val (.own 0 0 n) [ob])):=by
   rcases(mZ hm).1 with⟨t,e⟩|⟨t,y,e⟩|⟨t,n,ps,e⟩
   ·rw[e]at hv⊢;simp only[aT,ai]at hv;obtain⟨z,hz,rfl⟩:=hv;exact⟨_,_,rfl,.inl ⟨rfl,by simp only[aT,hz,bh];rfl⟩⟩
   ·rw[e]at hv⊢;simp only[aT,ai]at hv;obtain⟨z,hz,rfl⟩:=hv;exact⟨_,_,rfl,.inl ⟨rfl,by simp only[aT,hz,bh];rfl⟩⟩
   ·rw[e]at hv⊢;simp only[aT]at hv⊢;split at hv
    ·rename_i et sz vs hs sF;split at hv
     ·rename_i HX;split at hv
      ·rename_i z hz;split at hv
       ·rename_i sU;split at hv
        ·rename_i es TO;cases hv
         refine⟨_,_,rfl,.inr ⟨es.length,rfl,?_⟩⟩;simp only[if_pos HX,hz,if_pos sU,TO];rfl
        ·cases hv
       ·cases hv
      ·cases hv
     ·cases hv
    ·cases hv
theorem EV{x:Oper}(h:fx x=true){tm:Nat->af}{hp:aC}{r:HI}(hv:aT cf tm hp x.op=some r): ∃v,r= .val v hp:=by
 rcases(jF h).1 with⟨t,a,he⟩|⟨t,a,lo,hi,he⟩|⟨t,a,i,he⟩
 ·rw[he]at hv;simp only[aT]at hv;split at hv
  ·simp only[ai]at hv;obtain⟨v,_,hq⟩:=hv;exact⟨v,hq.symm⟩
  ·cases hv
 ·rw[he]at hv;simp only[aT]at hv;split at hv
  ·simp only[ai]at hv;obtain⟨v,_,hq⟩:=hv;exact⟨v,hq.symm⟩
  ·cases hv
 ·rw[he]at hv;simp only[aT]at hv;split at hv
  ·simp only[ai]at hv;obtain⟨v,_,hq⟩:=hv;exact⟨v,hq.symm⟩
  ·cases hv
theorem fb.load{st d8:St}{o:Oper}(h:fb cf C ops st o d8)(hl:fx o=true): ∃v,aT cf st.tm st.hp o.op=some (.val v st.hp)/\d8=⟨iN st.tm o.dst v,st.hp⟩:=by
 have hg:=(jF hl).2;have YN:dP ops o st.tm=none:=by unfold dP;rw[hg]
 cases h with
 |skip Wg _=>rw[YN]at Wg;cases Wg
 |val v h _ hv zc=>
  obtain⟨v',hq⟩:=EV hl hv;cases hq
  exact⟨v,hv,zc⟩
 |call f args v h _ hv _ _ _=>
  obtain⟨v',hq⟩:=EV hl hv;cases hq
theorem fb.mk{st d8:St}{o:Oper}(h:fb cf C ops st o d8)(hm:kW o=true): ∃v ob,aT cf st.tm st.hp o.op=some (.val v (st.hp++[ob]))/\d8=⟨iN st.tm o.dst v,st.hp++[ob]⟩:=by
 have hg:=(mZ hm).2;have YN:dP ops o st.tm=none:=by unfold dP;rw[hg]
 cases h with
 |skip Wg _=>rw[YN]at Wg;cases Wg
 |val v h _ hv zc=>
  obtain⟨v',ob,hq,_⟩:=ry hm hv;cases hq
  exact⟨v,ob,hv,zc⟩
 |call f args v h _ hv _ _ _=>
  obtain⟨v',ob,hq,_⟩:=ry hm hv;cases hq
theorem Od{o:Oper}(hm:kW o=true){tm od:Nat->af}(h: ∀t∈o.looksAt ops,tm t=od t)(hp:aC):aT cf tm hp o.op=aT cf od hp o.op:=by
 have XT: ∀x∈o.op.operands.toList,ev cf.G tm x=ev cf.G od x:=fun x hx=>by
  cases x with
  |tmp t=>simp only[ev];rw[h t (List.mem_append_left _ (List.mem_filterMap.2 ⟨.tmp t,by simpa using hx,rfl⟩))]
  |const c=>rfl
  |global g=>rfl
  |func f=>rfl
 rcases(mZ hm).1 with⟨t,e⟩|⟨t,y,e⟩|⟨t,n,ps,e⟩
 ·rw[e];rfl
 ·rw[e]at XT⊢;simp only[aT];rw[XT y (by simp[Op.operands])]
 ·rw[e]at XT⊢
  have key: ∀l:List (Nat×Operand),(∀p∈l,ev cf.G tm p.2=ev cf.G od p.2)->cp (fun p=>(ev cf.G tm p.2).map fun v=>(p.1,v)) l=cp (fun p=>(ev cf.G od p.2).map fun v=>(p.1,v)) l:=by
   intro l
   induction l with
   |nil=>intro _;rfl
   |cons p l ih=>
    intro hl;simp only[cp];rw[hl p (by simp),ih fun q hq=>hl q (by simp[hq])]
  simp only[aT];rw[key ps.toList fun p hp=>XT p.2 (by simp only[Op.operands];simp;exact⟨p.1,by simpa using hp⟩)]
theorem rz{o:Oper}{tm od:Nat->af}(h: ∀t∈o.looksAt ops,tm t=od t){x:Operand}(hx:x∈o.op.operands.toList):ev cf.G tm x=ev cf.G od x:=by
 cases x with
 |tmp t=>simp only[ev];rw[h t (List.mem_append_left _ (List.mem_filterMap.2 ⟨.tmp t,by simpa using hx,rfl⟩))]
 |const c=>rfl
 |global g=>rfl
 |func f=>rfl
theorem zl{o:Oper}{tm od:Nat->af}(h: ∀t∈o.looksAt ops,tm t=od t){x:Option Operand}(hx: ∀y,x=some y->y∈o.op.operands.toList):t9 cf.G tm x=t9 cf.G od x:=by
 cases x with
 |none=>rfl
 |some y=>simp only[t9];rw[rz h (hx y rfl)]
theorem Q2{o:Oper}(hl:fx o=true){tm od:Nat->af}{h h':aC}{v:af}(ht: ∀t∈o.looksAt ops,tm t=od t)(hv:aT cf tm h o.op=some (.val v h')):aT cf od h o.op=some (.val v h'):=by
 rcases(jF hl).1 with⟨t,a,he⟩|⟨t,a,lo,hi,he⟩|⟨t,a,i,he⟩
 ·have Ba:=rz (cf:=cf) ht (x:=a) (by rw[he];simp[Op.operands]);rw[he]at hv⊢;simp only[aT]at hv⊢;rw[Ba]at hv;exact hv
 ·have Ba:=rz (cf:=cf) ht (x:=a) (by rw[he];simp[Op.operands]);have YO:=zl (cf:=cf) ht (x:=lo) (fun y hy=>by rw[he,hy];simp[Op.operands]);have he4:=zl (cf:=cf) ht (x:=hi) (fun y hy=>by rw[he,hy];simp[Op.operands]);rw[he]at hv⊢;simp only[aT]at hv⊢;rw[Ba,YO,he4]at hv;exact hv
 ·have Ba:=rz (cf:=cf) ht (x:=a) (by rw[he];simp[Op.operands]);have YO:=rz (cf:=cf) ht (x:=i) (by rw[he];simp[Op.operands]);rw[he]at hv⊢;simp only[aT]at hv⊢;rw[Ba,YO]at hv;exact hv
theorem p8{h H:aC}(hp:h <+: H){id:Nat}{ob:cJ}(ho:h[id]?=some ob):H[id]?=some ob:=by
 obtain⟨t,rfl⟩:=hp;rw[bp (az.1 ho).1];exact ho
theorem EW{P:Program}{t:TypeId}{x v:af}{lo hi:Option Int}{h H:aC}(hp:h <+: H)(hv:lZ P t x lo hi none h=some v):lZ P t x lo hi none H=some v:=by
 cases x
 case own id st len=>
  simp only[lZ]at hv⊢
  cases ho:h[id]? with
  |none=>cases hs:kT P t<;>simp[ho,hs]at hv
  |some ob=>rw[p8 hp ho];rw[ho]at hv;exact hv
 all_goals exact hv
theorem LK{o:Oper}(hl:fx o=true){tm:Nat->af}{h H:aC}{v:af}(hp:h <+: H)(hv:aT cf tm h o.op=some (.val v h)):aT cf tm H o.op=some (.val v H):=by
 rcases(jF hl).1 with⟨t,a,he⟩|⟨t,a,lo,hi,he⟩|⟨t,a,i,he⟩
 ·rw[he]at hv⊢;simp only[aT]at hv⊢;split at hv
  ·rename_i a' ha;simp only[ai]at hv⊢;obtain⟨x,hx,hq⟩:=hv;cases hq
   refine⟨v,?_,rfl⟩;unfold jq at hx⊢;split at hx
   ·rename_i id i off
    cases ho:h[id]? with
    |none=>simp[ho]at hx
    |some ob=>
     simp only[ho]at hx;simp only[p8 hp ho];exact hx
   ·exact hx
   ·cases hx
  ·cases hv
 ·rw[he]at hv⊢;simp only[aT]at hv⊢;split at hv
  ·simp only[ai]at hv⊢;obtain⟨x,hx,hq⟩:=hv;cases hq
   exact⟨v,EW hp hx,rfl⟩
  ·cases hv
 ·rw[he]at hv⊢;simp only[aT]at hv⊢;split at hv
  ·simp only[ai]at hv⊢;obtain⟨x,hx,hq⟩:=hv;cases hq
   refine⟨v,?_,rfl⟩;unfold tZ at hx⊢;split at hx
   ·rename_i id st len _
    cases ho:h[id]? with
    |none=>cases hs:kT cf.P t<;>simp[ho,hs]at hx
    |some ob=>rw[p8 hp ho];rw[ho]at hx;exact hx
   ·exact hx
   ·exact hx
   ·exact hx
   ·cases hx
  ·cases hv
theorem zm{st:St}{m:Nat}: ∀(l:List Oper)(i:Nat),md cf st m l i-> ∀k x,l[k]?=some x->i5 x=true->m.testBit (i+k)=false->CF cf x st:=by
 intro l
 induction l with
 |nil=>intro i _ k x hk;simp at hk
 |cons y ys ih=>
  intro i h k x hk hl hb;unfold md at h
  cases k with
  |zero=>
   simp at hk;subst hk;rw[Nat.add_zero]at hb;simp only[hl,hb]at h
   exact h.1
  |succ k=>
   have h':md cf st m ys (i+1):=by
    split at h
    ·exact h
    ·exact h.2
   exact ih (i+1) h' k x (by simpa using hk) hl (by rw[show i+1+k=i+(k+1) by omega];exact hb)
end
end Go.Am

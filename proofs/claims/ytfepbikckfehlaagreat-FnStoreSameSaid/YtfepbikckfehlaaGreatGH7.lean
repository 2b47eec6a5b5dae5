/- Regions whose order is drawn: any order does what the order of the text does. -/
import Derived.Test.YtfepbikckfehlaaGreatGSBmM
set_option linter.unusedVariables false
set_option linter.unusedSimpArgs false
set_option maxHeartbeats 4000000
namespace Go.Am
open Go
section
variable{cf:eP}{E:Env}{w:World}{tm:Nat->af}{ρ:Operand->Value}{h:aG}
theorem GW{P:Program}{f:FuncId}(hb:ia P f=true): ∃fn c,P.funcs[f]?=some fn/\fn.body=some c/\(fn.name== "runtime.NumGoroutine")=false:=by
 unfold ia at hb;split at hb
 ·rename_i fn hf;simp only[xz,Bool.not_eq_true',Option.isSome_iff_exists]at hb;obtain⟨⟨c,hc⟩,hn⟩:=hb;exact⟨fn,c,hf,hc,hn⟩
 ·cases hb
theorem rz{P:Program}{f:FuncId}{vs:Array Value}(hb:ia P f=true)(w:World):(callFunc f vs).run P w= .ok (.enter f vs) w:=by
 obtain⟨fn,c,hf,hc,hn⟩:=GW hb;have Sm: ¬fn.name= "runtime.NumGoroutine" :=by simpa using hn
 simp[callFunc,hf,hc,Sm]
theorem hH.append{as bs:List af}{va vb:Array Value}(ha:hH E w as va)(hb:hH E w bs vb):hH E w (as++bs) (va++vb):=by
 refine⟨by simp[ha.1,hb.1],fun i c v hc hv=>?_⟩
 by_cases hi:i<as.length
 ·rw[aaN hi]at hc;rw[Array.getElem?_append_left (by rw[<-ha.1];exact hi)]at hv;exact ha.2 i c v hc hv
 ·rw[aaQ (by omega)]at hc;rw[Array.getElem?_append_right (by rw[<-ha.1];omega),<-ha.1]at hv;exact hb.2 _ c v hc hv
theorem hH.cons{a:af}{bs:List af}{v:Value}{vb:Array Value}(ha:de E w a v)(hb:hH E w bs vb):hH E w (a::bs) (#[v]++vb):=by
 have:hH E w [a] #[v]:=⟨rfl,fun i c u hc hu=>by
  cases i with
  |zero=>simp at hc hu;subst hc hu;exact ha
  |succ i=>simp at hc⟩
 exact this.append hb
theorem Nw{P:Program}{t:TypeId}{name:String}{f:FuncId}(hm:Pu P t name=some f)(n:Nat)(v:Value)(w:World):(method (n+1) t v name).run P w= .ok (f,v) w:=by
 unfold Pu at hm;split at hm
 ·rename_i i hi;split at hm
  ·rename_i m Cv;split at hm
   ·rename_i hp;split at hm
    ·rename_i f' pr hf;have h1:(typeInfo t).run P w= .ok i w:=by simp[typeInfo,hi]
     have fin: ∀(VM:(receiverAt t (.val v) pr (if m.path.isEmpty then some ((name.splitOn ".").getLastD name)else none)).run P w= .ok v w),f'=f->(method (n+1) t v name).run P w= .ok (f,v) w:=by
      intro VM he;subst he;simp only[method,aa7,h1,aaE,Cv];simp only[hp,follow,aa7,Sem.run_pure,aaE,hf];rw[hp]at VM;simp only[VM,aaE]
     split at hm
     ·rename_i e hu;cases hm
      refine fin ?_ rfl;simp[receiverAt,run_underlying hu,Place.get]
     ·cases hm
     ·rename_i d mD hu;cases hm
      refine fin ?_ rfl;unfold receiverAt;rw[aa7,run_underlying hu,aaE];cases d<;>first|rfl|exact(mD _ rfl).elim
     ·cases hm
    ·cases hm
   ·cases hm
  ·cases hm
 ·cases hm
theorem nV{o:Op}{r:JD}(hv:aV cf tm h o=some r):(∃v h',r= .val v h')∨(∃c,o= .call c)∨ ∃x,o= .panic x:=by
 cases o
 case call c=>exact .inr (.inl ⟨c,rfl⟩)
 case panic x=>exact .inr (.inr ⟨x,rfl⟩)
 case makeMap t q=>
  left
  cases q with
  |none=>simp only[aV]at hv;cases hv;exact⟨_,_,rfl⟩
  |some q=>simp[aV]at hv
 all_goals
  left
  first
  |(simp[aV]at hv;done)
  |(simp only[aV]at hv
    repeat' split at hv
    all_goals first
     |(cases hv;done)
     |(cases hv;exact⟨_,_,rfl⟩)
     |(simp only[nM]at hv
       obtain⟨_,_,rfl⟩:=hv;exact⟨_,_,rfl⟩))
theorem yN{b:Builtin}{args:Array Operand}{ui:Array TypeId}{r:JD}(hv:dG cf tm h ⟨.builtin b,args,ui⟩=some r): ∃v h',r= .val v h':=by
 simp only[dG]at hv;split at hv
 ·cases hv
 ·split at hv
  all_goals first
   |(cases hv;done)
   |(repeat' split at hv
     all_goals first
      |(cases hv;done)
      |(cases hv;exact⟨_,_,rfl⟩)
      |(simp only[nM]at hv
        obtain⟨_,_,rfl⟩:=hv;exact⟨_,_,rfl⟩))
theorem nW{o:Oper}{f:FuncId}{args:List af}(hr:iA cf.G E w tm ρ o.op.operands)(hv:aV cf tm h o.op=some (.call f args)):
  ∃vs,(execOp ρ o).run cf.P w= .ok (.enter f vs) w/\hH E w args vs/\ia cf.P f=true:=by
   obtain⟨dst,op,ty,pos,after,guard⟩:=o;simp only at hr hv;rcases nV hv with⟨_,_,he⟩|⟨c,rfl⟩|⟨x,rfl⟩
   ·cases he
   ·obtain⟨callee,dD,ui⟩:=c;simp only[Op.operands]at hr
    have VI: ∃as,di (ev cf.G tm) dD.toList=some as:=by
     simp only[aV,dG]at hv
     cases ha:di (ev cf.G tm) dD.toList with
     |none=>simp[ha]at hv
     |some as=>exact⟨as,rfl⟩
    obtain⟨as,ha⟩:=VI;have PV:hH E w as (dD.map ρ):=iA.list hr (ys:=dD) (fun y hy=>by simp[Call.operands,hy]) ha;have xF:=hv;simp only[aV]at xF;simp only[aV,dG,ha]at hv
    cases callee with
    |value fo=>
     simp only at hv;split at hv
     ·rename_i g first cap JJ
      split at hv
      ·rename_i hb;cases hv
       obtain⟨va,vb,X6,l1,l2,r1,r2⟩:=(hr fo (by simp[Call.operands]) _ JJ).func2;refine⟨_,?_,(hH.append ⟨l1,r1⟩ PV).append ⟨l2,r2⟩,hb⟩;simp only[execOp,resolve,X6,Deferred.ofValue,aa7,Sem.run_pure,aaE,invoke,rz hb]
      ·cases hv
     ·cases hv
    |invoke ro name=>
     simp only at hv;split at hv
     ·rename_i t v X7;split at hv
      ·rename_i f' hm;split at hv
       ·rename_i hb;cases hv
        obtain⟨u,hu,xA⟩:=(hr ro (by simp[Call.operands]) _ X7).Av;refine⟨#[u]++dD.map ρ,?_,hH.cons xA PV,hb⟩;have jP: ∃n,cf.P.types.size+Made.depth=n+1:=⟨cf.P.types.size+(Made.depth-1),rfl⟩;obtain⟨n,hn⟩:=jP;simp only[execOp,resolve,hu,aa7,Sem.run_pure,aaE,invoke]
        have e0:(#[Value.iface t u]++dD.map ρ)[0]?=some (Value.iface t u):=by
         rw[Array.getElem?_append_left (Nat.zero_lt_one)];rfl
        have e1:(#[Value.iface t u]++dD.map ρ).extract 1 (#[Value.iface t u]++dD.map ρ).size=dD.map ρ:=by simp
        simp only[e0,e1,callMethod,aa7,run_program,aaE,hn,Nw hm,rz hb]
       ·cases hv
      ·cases hv
     ·cases hv
    |builtin b=>
     obtain⟨_,_,he⟩:=yN xF;cases he
   ·simp only[aV]at hv;split at hv<;>cases hv
theorem GX{o:Oper}{v:af}(hr:iA cf.G E w tm ρ o.op.operands)(hv:aV cf tm h o.op=some (.jI v)):
  ∃u,(execOp ρ o).run cf.P w= .halt (.panic u) w/\de E w v u:=by
   obtain⟨dst,op,ty,pos,after,guard⟩:=o;simp only at hr hv;rcases nV hv with⟨_,_,he⟩|⟨c,rfl⟩|⟨x,rfl⟩
   ·cases he
   ·exfalso;obtain⟨callee,dD,ui⟩:=c;simp only[aV]at hv
    cases callee with
    |value fo=>
     simp only[dG]at hv
     repeat' split at hv
     all_goals cases hv
    |invoke ro name=>
     simp only[dG]at hv
     repeat' split at hv
     all_goals cases hv
    |builtin b=>
     obtain⟨_,_,he⟩:=yN hv;cases he
   ·simp only[aV]at hv;simp only[Op.operands]at hr;split at hv
    ·rename_i t v hx;cases hv
     have h1:=hr x (by simp) _ hx;obtain⟨u,hu,xA⟩:=h1.Av;refine⟨.iface t u,?_,.iface t v u xA⟩;simp only[execOp,hu,Instr.panic,aa7];rfl
    ·cases hv
end
structure mE(cf:eP)(E:Env)(w:World)(st:St)(a:Act):Prop where
 qj:eG E st.hp w
 full:Full E st.hp
 g:ug cf.G E.S w
 tm:lQ E w st.tm a
 df:a.defers=[]
def AJ(cf:eP)(E:Env)(h:aG)(w:World)(N:Nat)(r:Out):Exit->Act->World->Prop
 | .normal,a,w'=>∃st E',r= .norm st/\mE cf E' w' st a/\Ext E h w E' st.hp w'/\a.tmps.size=N
 | .exit id,a,w'=>∃st E',r= .exit id st/\mE cf E' w' st a/\Ext E h w E' st.hp w'/\a.tmps.size=N
 | .ret,a,w'=>∃st E',r= .ret st/\mE cf E' w' st a/\Ext E h w E' st.hp w'/\a.tmps.size=N
 | .panic chain,a,w'=>∃v h' E' u,r= .jI v h'/\chain=[{v:=u,recovered:=false}]/\eG E' h' w'/\Full E' h'/\Ext E h w E' h' w'/\de E' w' v u/\a.defers=[]
 | .goto _,_,_=>False
 | .outgrown,_,_=>False
theorem AJ.from{cf:eP}{E E1:Env}{h h1:aG}{w w1:World}{N:Nat}{r:Out}(x:Ext E h w E1 h1 w1): ∀(e:Exit)(a:Act)(w':World),AJ cf E1 h1 w1 N r e a w'->AJ cf E h w N r e a w':=by
 intro e a w' hq
 cases e with
 |normal=>obtain⟨st,E',g1,g2,g3,g4⟩:=hq;exact⟨st,E',g1,g2,x.trans g3,g4⟩
 |exit id=>obtain⟨st,E',g1,g2,g3,g4⟩:=hq;exact⟨st,E',g1,g2,x.trans g3,g4⟩
 |ret=>obtain⟨st,E',g1,g2,g3,g4⟩:=hq;exact⟨st,E',g1,g2,x.trans g3,g4⟩
 |panic chain=>obtain⟨v,h',E',u,g1,g2,g3,g4,g5,g6,g7⟩:=hq;exact⟨v,h',E',u,g1,g2,g3,g4,x.trans g5,g6,g7⟩
 |goto l=>exact hq
 |outgrown=>exact hq
section
variable{cf:eP}{E:Env}{w:World}{h:aG}
theorem lQ.put{tm:Nat->af}{a:Act}{dst:Option Tmp}{v:af}{u:Value}(ht:lQ E w tm a)(hr:de E w v u)(hd: ∀d,dst=some d->d<a.tmps.size):lQ E w (jL tm dst v) (a.put dst u):=by
 intro k
 cases dst with
 |none=>exact ht k
 |some d=>
  have PW:=hd d rfl;simp only[jL,fX,Act.put]
  by_cases e:k=d
  ·subst e;rw[if_pos rfl];simpa[Array.getElem?_setIfInBounds,PW]using hr
  ·rw[if_neg e];have:=ht k;simpa[Array.getElem?_setIfInBounds,Ne.symm e]using this
theorem lQ.ext{E':Env}{h':aG}{w':World}{tm:Nat->af}{a:Act}(ht:lQ E w tm a)(s:eG E h w)(x:Ext E h w E' h' w'):lQ E' w' tm a:=fun k=>(ht k).ext x s
theorem qC(a:Act)(dst:Option Tmp)(u:Value):(a.put dst u).tmps.size=a.tmps.size:=by cases dst<;>simp[Act.put]
theorem put_defers(a:Act)(dst:Option Tmp)(u:Value):(a.put dst u).defers=a.defers:=by cases dst<;>rfl
theorem n8:de E w (.eT []) undef:=.fJ (.eT [] #[] rfl fun i c v hc=>by simp at hc)
theorem de.PX{x:af}{b:Bool}(h:de E w x (.bool b)):x= .bool b:=by cases h with|fJ h=>cases h;rfl
theorem qk{ops:Array Oper}{o:Oper}{tm:Nat->af}{a:Act}(ht: ∀j zD d,o.guard=some (j,zD)->(ops[j]?).bind (·.dst)=some d->de E w (tm d) (a.tmps.getD d undef)):
  (eL ops o tm=none->Region.wanted o (yielded ops a.tmps)=true)/\ ∀t,eL ops o tm=some t->Region.wanted o (yielded ops a.tmps)=t:=by
   unfold eL Region.wanted
   cases hg:o.guard with
   |none=>exact⟨fun _=>rfl,fun t h=>by simp at h⟩
   |some gw=>
    obtain⟨j,zD⟩:=gw;refine⟨fun h=>?_,fun t h=>?_⟩
    ·simp only at h;split at h
     ·split at h<;>cases h
     ·cases h
    ·simp only at h⊢;unfold yielded
     cases hd:(ops[j]?).bind (·.dst)with
     |none=>simp only[hd]at h;cases h;rfl
     |some d=>
      simp only[hd,Option.bind_some]at h⊢;have hr:=ht j zD d hg hd
      cases hx:a.tmps[d]? with
      |none=>
       have hu:a.tmps.getD d undef=undef:=by simp[hx]
       rw[hu]at hr;simp only;split at h
       ·rename_i b hb;rw[hb]at hr;have:=hr.bool;cases this
       ·cases h;rfl
      |some u=>
       have hu:a.tmps.getD d undef=u:=by simp[hx]
       rw[hu]at hr;split at h
       ·rename_i b hb;rw[hb]at hr;obtain rfl:=hr.bool;cases h
        rfl
       ·rename_i hn;cases h
        cases u<;>try rfl
        rename_i b;exact absurd hr.PX (hn b)
theorem v8{ops:Array Oper}{o:Oper}{tm:Nat->af}{a:Act}(ht:lQ E w tm a):
  (eL ops o tm=none->Region.wanted o (yielded ops a.tmps)=true)/\ ∀t,eL ops o tm=some t->Region.wanted o (yielded ops a.tmps)=t:=qk fun _ _ d _ _=>ht d
def jl(cf:eP)(C:q0):Prop:=∀f args h r,cj cf C f args h=some r-> ∀(E:Env)(w:World)(vs:Array Value),ia cf.P f=true->eG E h w->Full E h->ug cf.G E.S w->hH E w args vs->Calls cf.P f vs w (vX E h w r)
theorem mE.ops{st:St}{a:Act}(rel:mE cf E w st a)(xs:Array Operand):iA cf.G E w st.tm a.eval xs:=⟨fun x _ v hv=>Aq rel.g rel.tm hv,fun _=>rfl⟩
theorem mE.skip{st:St}{a:Act}{dst:Option Tmp}(rel:mE cf E w st a)(hd: ∀d,dst=some d->d<a.tmps.size):mE cf E w ⟨jL st.tm dst (.eT []),st.hp⟩ (a.put dst undef):=
 ⟨rel.qj,rel.full,rel.g,rel.tm.put n8 hd,by rw[put_defers];exact rel.df⟩
theorem J0{C:q0}(hC:jl cf C){N:Nat}{d:Bool}{o:Oper}{st:St}{K:St->Option Out}{r:Out}{a:Act}{next:Act->World->Prop}(hs:fM cf C d o st K=some r)(rel:mE cf E w st a)(hN:a.tmps.size=N)
  (hd: ∀d,o.dst=some d->d<N)
  (hK: ∀(fb:St)(E':Env)(w':World)(a':Act),K fb=some r->mE cf E' w' fb a'->Ext E st.hp w E' fb.hp w'->a'.tmps.size=N->next a' w'):o.wp cf.P a w next (AJ cf E st.hp w N r):=by
   unfold fM at hs
   have fin: ∀(v:af)(h':aG)(u:Value)(w':World)(E':Env),K ⟨jL st.tm o.dst v,h'⟩=some r->eG E' h' w'->Full E' h'->Ext E st.hp w E' h' w'->de E' w' v u->next (a.put o.dst u) w':=by
    intro v h' u w' E' hk s' f' x' r';exact hK _ E' w' _ hk ⟨s',f',rel.g.ext rel.qj x',(rel.tm.ext rel.qj x').put r' (by rw[hN];exact hd),by rw[put_defers];exact rel.df⟩ x' (by rw[qC];exact hN)
   cases ho:aV cf st.tm st.hp o.op with
   |none=>simp[ho]at hs
   |some q=>
    cases q with
    |val v h'=>
     simp only[ho]at hs;obtain⟨u,w',E',gq,s',f',x',r'⟩:=AF rel.qj rel.full (rel.ops _) ho;unfold Oper.wp;rcases gq with gq|⟨gq,rfl⟩
     ·rw[gq];exact fin v h' u w' E' hs s' f' x' r'
     ·rw[gq];exact fin v h' undef w' E' hs s' f' x' r'
    |call f args=>
     simp only[ho]at hs;obtain⟨vs,gq,lU,hb⟩:=nW (rel.ops _) ho;unfold Oper.wp;rw[gq]
     cases hg:d&&(zC o.op&& !sB (cf.M f))with
     |true=>simp[hg]at hs
     |false=>
     simp only[hg]at hs
     cases hc:cj cf C f args st.hp with
     |none=>simp[hc]at hs
     |some q=>
      simp only[hc]at hs;refine Calls.mono (hC f args st.hp q hc E w vs hb rel.qj rel.full rel.g lU) fun e w' he=>?_
      cases e with
      |returned u=>
       obtain⟨v,h',E',rfl,s',f',x',r'⟩:=he
       exact fin v h' u w' E' hs s' f' x' r'
      |panicked chain=>
       obtain⟨v,h',E',u,rfl,rfl,s',f',x',r'⟩:=he;cases hs
       exact⟨v,h',E',u,rfl,rfl,s',f',x',r',rel.df⟩
      |outgrown=>exact he.elim
    |jI v=>
     simp only[ho]at hs;cases hs
     obtain⟨u,gq,hr⟩:=GX (rel.ops _) ho;unfold Oper.wp;rw[gq];exact⟨v,st.hp,E,u,rfl,rfl,rel.qj,rel.full,Ext.refl _ _ _,hr,rel.df⟩
theorem J1{M:FuncId->Mode}{o:Op}(h:kW o=true):xw M o=false:=by
 cases o
 case call c=>
  obtain⟨callee,args,ui⟩:=c
  cases callee with
  |value f=>cases h
  |invoke r m=>cases h
  |builtin b=>cases b<;>first|rfl|cases h
 all_goals first|rfl|cases h
theorem Es{d:Bool}{ops:Array Oper}{o:Oper}{n:Nat}{K:St->Option Out}{st:St}(h:xw cf.M o.op=false):mC cf d ops o n K st=K st:=by
 unfold mC;rw[h];simp
theorem AK{C:q0}{d:Bool}{ops:Array Oper}{o:Oper}{rest:List Oper}{st:St}{r:Out}(hr:kB cf C d ops (o::rest) st=some r):
  ((eL ops o st.tm=none∨eL ops o st.tm=some true)/\fM cf C d o st (mC cf d ops o rest.length (kB cf C d ops rest))=some r)∨(eL ops o st.tm=some false/\kB cf C d ops rest ⟨jL st.tm o.dst (.eT []),st.hp⟩=some r):=by
   simp only[kB]at hr
   cases hg:eL ops o st.tm with
   |none=>simp only[hg]at hr;exact .inl ⟨.inl rfl,hr⟩
   |some t=>
    simp only[hg]at hr
    cases t with
    |false=>
     right
     refine⟨rfl,?_⟩;split at hr
     ·simpa[Gp]using hr
     ·simpa[LW]using hr
    |true=>
     left
     refine⟨.inr rfl,?_⟩;split at hr
     ·rename_i VN;simp only[Gp]at hr;unfold fM;split at hr
      ·rename_i v h' hv;simp only[hv];rw[Es (J1 VN)];exact hr
      ·cases hr
     ·simpa[LW]using hr
theorem GY{P:Program}{ops:Array Oper}{Q Q':Exit->Act->World->Prop}(hQ: ∀e a w,Q e a w->Q' e a w): ∀(l:List Oper)(a:Act)(w:World),wpList P ops Q l a w->wpList P ops Q' l a w:=by
 intro l
 induction l with
 |nil=>intro a w h;exact hQ _ _ _ h
 |cons o rest ih=>
  intro a w h;unfold wpList at h⊢;split
  ·rename_i hw;rw[if_pos hw]at h;rcases h with h|⟨h1,a0,w0,h2⟩
   ·left
    unfold Oper.wp at h⊢;generalize(execOp a.eval o).run P w=q at h⊢
    cases q with
    |ok n w'=>
     cases n<;>simp only[Oper.upon]at h⊢ <;>first
      |exact ih _ _ h
      |exact Calls.mono h (fun e ZF he=>by cases e with
       |returned v=>exact ih _ _ he
       |panicked c=>exact hQ _ _ _ he
       |outgrown=>obtain⟨a0,w0,h2⟩:=he;exact⟨a0,w0,hQ _ _ _ h2⟩)
      |exact Rows.mono h (fun _ _ he=>ih _ _ he)
    |halt x w'=>cases x<;>simp only[Oper.upon]at h⊢ <;>exact hQ _ _ _ h
   ·exact .inr ⟨h1,a0,w0,hQ _ _ _ h2⟩
  ·rename_i hw;rw[if_neg hw]at h;exact ih _ _ h
theorem J2{C:q0}(hC:jl cf C){N:Nat}{d:Bool}{ops:Array Oper}: ∀(l:List Oper)(E:Env)(w:World)(st:St)(a:Act)(r:Out),(∀o∈l,∀d,o.dst=some d->d<N)->kB cf C d ops l st=some r->mE cf E w st a->a.tmps.size=N->
  wpList cf.P ops (AJ cf E st.hp w N r) l a w:=by
   intro l
   induction l with
   |nil=>
    intro E w st a r _ hr rel hN;simp only[kB]at hr;cases hr
    exact⟨st,E,rfl,rel,Ext.refl _ _ _,hN⟩
   |cons o rest ih=>
    intro E w st a r hd hr rel hN;have X8: ∀d,o.dst=some d->d<N:=hd o (by simp);have Au: ∀o'∈rest,∀d,o'.dst=some d->d<N:=fun o' iP=>hd o' (by simp[iP]);obtain⟨VO,PY⟩:=v8 (ops:=ops) (o:=o) rel.tm
    have again: ∀(E':Env)(w':World)(fb:St)(a':Act),kB cf C d ops rest fb=some r->mE cf E' w' fb a'->Ext E st.hp w E' fb.hp w'->a'.tmps.size=N->wpList cf.P ops (AJ cf E st.hp w N r) rest a' w':=by
     intro E' w' fb a' xC jT x' zH;have:=ih E' w' fb a' r Au xC jT zH;exact GY (AJ.from x') rest a' w' this
    unfold wpList;rcases AK hr with⟨hg,GZ⟩|⟨hg,X9⟩
    ·have hw:Region.wanted o (yielded ops a.tmps)=true:=by
      rcases hg with hg|hg
      ·exact VO hg
      ·exact PY true hg
     rw[if_pos hw]
     left
     exact J0 hC GZ rel hN X8 fun fb E' w' a' hk jT x' zH=>again E' w' fb a' (lO hk).1 jT x' zH
    ·have hw:Region.wanted o (yielded ops a.tmps)=false:=PY false hg;rw[if_neg (by simp[hw])];exact again E w _ _ X9 (rel.skip (by rw[hN];exact X8)) (Ext.refl _ _ _) (by rw[qC];exact hN)
end
end Go.Am
set_option maxHeartbeats 4000000
namespace Go.Am
open Go
def eR(P:Program):Op->Bool
 | .move _=>true
 | .assign _=>true
 | .pick _ _ _=>true
 | .nilCheck _=>true
 | .binOp _ _ _ _ _=>true
 | .unOp _ _ _=>true
 | .makeInterface _ _=>true
 | .makeFunc _ _ _=>true
 | .fieldAddr _ _ _=>true
 | .field _ _ _=>true
 | .index _ _ _=>true
 | .extract _ _=>true
 | .build _ _=>true
 | .buildSlice _ 0 _=>true
 | .call {callee:=.builtin .len,argTypes,..}=>match(argTypes[0]?).bind P.underlying with
  |some (.slice _)=>true
  |some .string=>true
  |_=>false
 |_=>false
def Et(M:FuncId->Mode):Op->Bool
 | .call {callee:=.value (.func f),..}=>LV (M f)
 | .call {callee:=.value _,..}=>true
 | .call {callee:=.invoke _ _,..}=>true
 |_=>false
def uM(M:FuncId->Mode)(o:Op):Bool:=oB o||Et M o
def J3(P:Program)(M:FuncId->Mode)(ops:Array Oper)(x y:Oper):Bool:=x.apart ops y&&(eR P x.op||eR P y.op||(uM M x.op&&uM M y.op))
def calm(ops:Array Oper)(x:Oper)(l:List Oper):Bool:=l.all fun k=>match k.dst with
 |some d=>!(x.looksAt ops).contains d&&x.dst != some d
 |none=>true
def J4(M:FuncId->Mode)(ops:Array Oper)(x o:Oper)(xs:List Oper):Bool:=x.apart ops o&&j8 x&&xw M o.op&&calm ops x (xs++[o])&&match x.dst with
 |some d=>!(x.looksAt ops).contains d
 |none=>false
def wc(P:Program)(M:FuncId->Mode)(ops:Array Oper)(o:Oper)(m:Nat):List Oper->Nat->Bool
 | [],_=>true
 |x::xs,i=>(m.testBit i||J3 P M ops x o||J4 M ops x o xs)&&wc P M ops o m xs (i+1)
def we(P:Program)(M:FuncId->Mode)(ops:Array Oper)(l:List Oper):List Oper->List Nat->Nat->Bool
 |o::r,m::ms,j=>(o.after.toList.all fun e=>!Region.binds .any e||decide (e.on<j))&&wc P M ops o m (l.take j) 0&&we P M ops l r ms (j+1)
 | [],_,_=>true
 |_::_,[],_=>false
def xG(P:Program)(M:FuncId->Mode)(ops:Array Oper):Bool:=we P M ops ops.toList ops.toList (m6 ops.toList []) 0
inductive Dn(ops:Array Oper):Nat->Nat->Prop
 |Ya {j:Nat} {o:Oper} {e:Edge} (ho:ops[j]?=some o) (he:e∈o.after) (hb:Region.binds .any e=true):Dn ops e.on j
 |step {i j:Nat} {o:Oper} {e:Edge} (ho:ops[j]?=some o) (he:e∈o.after) (hb:Region.binds .any e=true) (hd:Dn ops i e.on):Dn ops i j
section
variable{P:Program}{ops:Array Oper}{M:FuncId->Mode}
theorem G7{acc:List Nat}: ∀(es:List Edge)(m i:Nat),(Ei acc es m).testBit i=true->m.testBit i=true∨ ∃e∈es,Region.binds .any e=true/\(e.on=i∨ ∃m',acc[e.on]?=some m'/\m'.testBit i=true):=by
 intro es
 induction es with
 |nil=>intro m i h;exact .inl h
 |cons e es ih=>
  intro m i h;simp only[Ei]at h;rcases ih _ i h with h|⟨e',AD,h⟩
  ·split at h
   ·rename_i hb;rw[Nat.testBit_or,Nat.testBit_or,Nat.testBit_two_pow]at h;simp only[Bool.or_eq_true,decide_eq_true_eq]at h;rcases h with(h|h)|h
    ·exact .inl h
    ·exact .inr ⟨e,by simp,hb,.inl h⟩
    ·right
     refine⟨e,by simp,hb,.inr ?_⟩
     cases ha:acc[e.on]? with
     |none=>simp[ha]at h
     |some m'=>exact⟨m',rfl,by simpa[ha]using h⟩
   ·exact .inl h
  ·exact .inr ⟨e',by simp[AD],h⟩
theorem J5: ∀(l:List Oper)(acc:List Nat),(∀k,l[k]?=ops[acc.length+k]?)->(∀k m,acc[k]?=some m-> ∀i,m.testBit i=true->Dn ops i k)-> ∀k m,(m6 l acc)[k]?=some m-> ∀i,m.testBit i=true->Dn ops i k:=by
 intro l
 induction l with
 |nil=>intro acc _ h;exact h
 |cons o r ih=>
  intro acc hl h;simp only[m6];refine ih _ (fun k=>?_) fun k m hk i hi=>?_
  ·have:=hl (k+1);simp at this;rw[this];simp
   congr 1
   omega
  ·by_cases fK:k<acc.length
   ·rw[aaN fK]at hk;exact h k m hk i hi
   ·rw[aaQ (by omega)]at hk
    have Pc:k=acc.length:=by
     have:=(aag.1 hk).1;simp at this;omega
    subst Pc;simp at hk;subst hk;have ho:ops[acc.length]?=some o:=by have:=hl 0;simpa using this.symm
    rcases G7 _ _ _ hi with h0|⟨e,he,hb,h1⟩
    ·simp at h0
    ·rcases h1 with rfl|⟨m',ja,qz⟩
     ·exact .Ya ho (by simpa using he) hb
     ·exact .step ho (by simpa using he) hb (h _ _ ja i qz)
theorem Eu{o:Oper}{m:Nat}: ∀(xs:List Oper)(i:Nat),wc P M ops o m xs i=true-> ∀k x,xs[k]?=some x->m.testBit (i+k)=true∨J3 P M ops x o=true∨(m.testBit (i+k)=false/\J4 M ops x o (xs.drop (k+1))=true):=by
 intro xs
 induction xs with
 |nil=>intro i _ k x hk;simp at hk
 |cons y ys ih=>
  intro i h k x hk;simp only[wc,xz,Bool.or_eq_true]at h
  cases k with
  |zero=>
   simp at hk;subst hk;rcases h.1 with(h|h)|h
   ·exact .inl h
   ·exact .inr (.inl h)
   ·cases hb:m.testBit (i+0)with
    |true=>exact .inl rfl
    |false=>exact .inr (.inr ⟨rfl,by simpa using h⟩)
  |succ k=>
   have:=ih (i+1) h.2 k x (by simpa using hk);rw[show i+(k+1)=i+1+k by omega];simpa using this
theorem Nx{x:Oper}{l:List Oper}(h:calm ops x l=true): ∀o'∈l,∀d,o'.dst=some d->d∉x.looksAt ops/\x.dst≠some d:=by
 intro o' iP d hd;have:=aaj.1 h o' iP;simp only[hd,xz,Bool.not_eq_true',bne_iff_ne,ne_eq]at this;exact⟨fun hm=>by have:=this.1;simp_all,this.2⟩
structure aax(M:FuncId->Mode)(ops:Array Oper)(i j:Nat)(x y:Oper):Prop where
 apart:x.apart ops y=true
 late:j8 x=true
 fc:xw M y.op=true
 calm: ∀k o',i<k->k<=j->ops[k]?=some o'-> ∀d,o'.dst=some d->d∉x.looksAt ops/\x.dst≠some d
 self: ∃d,x.dst=some d/\d∉x.looksAt ops
 un:(((m6 ops.toList [])[j]?).getD 0).testBit i=false
theorem wg{l:List Oper}: ∀(r:List Oper)(ms:List Nat)(j:Nat),we P M ops l r ms j=true-> ∀k o,r[k]?=some o-> ∃m,ms[k]?=some m/\(∀e∈o.after,Region.binds .any e=true->e.on<j+k)/\wc P M ops o m (l.take (j+k)) 0=true:=by
 intro r
 induction r with
 |nil=>intro ms j _ k o hk;simp at hk
 |cons x xs ih=>
  intro ms j h k o hk
  cases ms with
  |nil=>simp[we]at h
  |cons m ms=>
   simp only[we,xz]at h
   cases k with
   |zero=>
    simp at hk;subst hk;refine⟨m,rfl,fun e he hb=>?_,h.1.2⟩;have:=aaj.1 h.1.1 e (by simpa using he)
    simpa[hb]using this
   |succ k=>
    obtain⟨m',h1,h2,h3⟩:=ih ms (j+1) h.2 k o (by simpa using hk);rw[show j+(k+1)=j+1+k by omega];exact⟨m',by simpa using h1,h2,h3⟩
theorem yO(h:xG P M ops=true):(∀j o,ops[j]?=some o-> ∀e∈o.after,Region.binds .any e=true->e.on<j)/\
  ∀i j x y,i<j->ops[i]?=some x->ops[j]?=some y->Dn ops i j∨(x.apart ops y=true/\(eR P x.op=true∨eR P y.op=true∨(uM M x.op=true/\uM M y.op=true)∨aax M ops i j x y)):=by
   refine⟨fun j o ho e he hb=>?_,fun i j x y yP hx hy=>?_⟩
   ·obtain⟨m,_,h2,_⟩:=wg _ _ _ h j o (by simpa using ho);have:=h2 e he hb;omega
   ·obtain⟨m,h1,_,h3⟩:=wg _ _ _ h j y (by simpa using hy);rw[aaK]at h3;rcases Eu _ _ h3 i x (by rw[aby,if_pos yP];simpa using hx)with hb|hp|⟨hb,hp⟩
    ·left
     rw[aaK]at hb;exact J5 ops.toList [] (fun k=>by simp) (fun k m hk=>by simp at hk) j m h1 i hb
    ·right
     simp only[J3,xz,Bool.or_eq_true]at hp;refine⟨hp.1,?_⟩;rcases hp.2 with(h|h)|h
     ·exact .inl h
     ·exact .inr (.inl h)
     ·exact .inr (.inr (.inl h))
    ·right
     rw[aaK]at hb;simp only[J4,xz]at hp;obtain⟨⟨⟨⟨h4,h5⟩,h6⟩,h7⟩,h8⟩:=hp
     have h9: ∃d,x.dst=some d/\d∉x.looksAt ops:=by
      cases hd:x.dst with
      |none=>simp[hd]at h8
      |some d=>exact⟨d,rfl,by simp only[hd,Bool.not_eq_true']at h8;intro hm;simp_all⟩
     refine⟨h4,.inr (.inr (.inr ⟨h4,h5,h6,fun k o' eg jS iP d hd=>Nx h7 o' ?_ d hd,h9,by rw[h1];exact hb⟩))⟩;rw[aaS]
     by_cases e:k=j
     ·subst e;rw[hy]at iP;cases iP;exact .inr (by simp)
     ·left
      have:((ops.toList.take j).drop (i+1))[k-(i+1)]?=some o':=by
       rw[List.getElem?_drop,aby,if_pos (by omega),show i+1+(k-(i+1))=k by omega];simpa using iP
      exact aaq this
theorem Dn.cM{L:Nat->Prop}(UF: ∀j o,ops[j]?=some o->L j-> ∀e∈o.after,Region.binds .any e=true->L e.on){i j:Nat}(hd:Dn ops i j):(L j->L i)/\((∀o,ops[j]?=some o-> ∀e∈o.after,Region.binds .any e=true->L e.on)->L i):=by
 induction hd with
 |Ya ho he hb=>exact⟨fun h=>UF _ _ ho h _ he hb,fun h=>h _ ho _ he hb⟩
 |step ho he hb _ ih=>exact⟨fun h=>ih.1 (UF _ _ ho h _ he hb),fun h=>ih.1 (h _ ho _ he hb)⟩
theorem mJ{o:Op}(h:eR P o=true):oB o=true:=by
 cases o<;>(try rfl)<;>(try(cases h;done))
 rename_i c;obtain⟨callee,args,ui⟩:=c
 cases callee with
 |value f=>cases h
 |invoke r m=>cases h
 |builtin b=>cases b<;>first|rfl|cases h
end
section
variable{cf:eP}{tm:Nat->af}
theorem G8{h h':aG}{x:af}(hx:match x with| .map _=>False|_=>True){n:Int}(hl:vG h x=some n):vG h' x=some n:=by
 cases x<;>first|exact hl|exact hx.elim
theorem wh{o:Op}{h:aG}{r:JD}(hf:eR cf.P o=true)(hv:aV cf tm h o=some r): ∃v,r= .val v h/\ ∀h',aV cf tm h' o=some (.val v h'):=by
 cases o<;>(try(cases hf;done))
 case buildSlice t n ps=>
  cases n with
  |succ n=>cases hf
  |zero=>
   simp only[aV]at hv⊢
   repeat' split at hv
   all_goals first
    |(cases hv;done)
    |(cases hv;exact⟨.nil,rfl,fun h'=>by simp_all[mW]⟩)
 case call c=>
  obtain⟨callee,args,ui⟩:=c
  cases callee with
  |value f=>cases hf
  |invoke r m=>cases hf
  |builtin b=>
   cases b<;>(try(cases hf;done))
   simp only[eR]at hf;simp only[aV,dG]at hv⊢
   cases ha:di (ev cf.G tm) args.toList with
   |none=>simp[ha]at hv
   |some as=>
    simp only[ha]at hv⊢
    match as,hv with
    | [x],hv=>
     simp only at hv⊢
     cases hd:(ui[0]?).bind cf.P.underlying with
     |none=>simp[hd]at hf
     |some d=>
      simp only[hd]at hf hv⊢
      cases hl:vG h x with
      |none=>simp only[hl]at hv;cases hv
      |some n=>
       simp only[hl]at hv;cases d<;>simp only at hf hv<;>(try(cases hf;done))
       ·cases x<;>simp only at hv<;>(try(cases hv;done))
        cases hv
        exact⟨_,rfl,fun h'=>by simp only[G8 (h':=h') trivial hl]⟩
       ·cases x<;>simp only at hv<;>(try(cases hv;done))
        all_goals
         cases hv
         exact⟨_,rfl,fun h'=>by simp only[G8 (h':=h') trivial hl]⟩
    | [],hv=>cases hv
    |_::_::_,hv=>cases hv
 all_goals simp only[aV]at hv⊢
 all_goals repeat' split at hv
 all_goals first
  |(cases hv;done)
  |(cases hv;exact⟨_,rfl,fun h'=>by simp_all⟩)
  |(simp only[nM]at hv
    obtain⟨_,hx,rfl⟩:=hv;exact⟨_,rfl,fun h'=>by simp_all⟩)
theorem Mk{m:Mode}(h:sB m=true):LV m=true:=by cases m<;>first|rfl|cases h
theorem Ha{m:Mode}(h:LV m=true):m= .P∨m= .N:=by cases m<;>first|exact .inl rfl|exact .inr rfl|cases h
theorem pZ{o:Op}{h:aG}{r:JD}(hp:Et cf.M o=true)(hv:aV cf tm h o=some r): ∃f args,r= .call f args/\((zC o&& !sB (cf.M f))=false->LV (cf.M f)=true):=by
 cases o<;>(try(cases hp;done))
 rename_i c;obtain⟨callee,args,ui⟩:=c
 cases callee with
 |builtin b=>cases hp
 |value fo=>
  simp only[aV,dG]at hv;split at hv
  ·cases hv
  ·split at hv
   ·rename_i f first cap JJ
    split at hv
    ·rename_i hb;cases hv
     refine⟨_,_,rfl,fun hd=>?_⟩;cases fo
     case func g=>
      simp only[ev]at JJ;cases JJ
      exact hp
     all_goals
      simp only[zC,aay,Bool.not_eq_false']at hd;exact Mk hd
    ·cases hv
   ·cases hv
 |invoke ro name=>
  simp only[aV,dG]at hv;split at hv
  ·cases hv
  ·split at hv
   ·split at hv
    ·split at hv
     ·rename_i hb;cases hv
      refine⟨_,_,rfl,fun hd=>?_⟩;simp only[zC,aay,Bool.not_eq_false']at hd;exact Mk hd
     ·cases hv
    ·cases hv
   ·cases hv
end
inductive gb(cf:eP)(C:q0)(ops:Array Oper)(st:St)(o:Oper)(fb:St):Prop
 |skip (hg:eL ops o st.tm=some false) (he:fb=⟨jL st.tm o.dst (.eT []),st.hp⟩):gb cf C ops st o fb
 |val (v:af) (h:aG) (hg:eL ops o st.tm=none∨eL ops o st.tm=some true) (hv:aV cf st.tm st.hp o.op=some (.val v h)) (he:fb=⟨jL st.tm o.dst v,h⟩):gb cf C ops st o fb
 |call (f:FuncId) (args:List af) (v:af) (h:aG) (hg:eL ops o st.tm=none∨eL ops o st.tm=some true) (hv:aV cf st.tm st.hp o.op=some (.call f args)) (Pd:(zC o.op&& !sB (cf.M f))=false) (hc:cj cf C f args st.hp=some (.ret v h)) (he:fb=⟨jL st.tm o.dst v,h⟩):gb cf C ops st o fb
section
variable{cf:eP}{C:q0}{ops:Array Oper}
theorem PZ: ∀(l:List Oper)(st Pe:St),kB cf C true ops l st=some (.norm Pe)-> ∃tr:Nat->St,tr 0=st/\tr l.length=Pe/\ ∀i o,l[i]?=some o->gb cf C ops (tr i) o (tr (i+1))/\
  (xw cf.M o.op=true->(eL ops o (tr i).tm=some false/\(tr (i+1)).hp=(tr i).hp)∨nH cf (tr (i+1)) (((m6 ops.toList [])[ops.size-(l.length-i)]?).getD 0) (ops.toList.take (ops.size-(l.length-i))) 0):=by
   intro l
   induction l with
   |nil=>intro st Pe h;simp only[kB]at h;cases h;exact⟨fun _=>st,rfl,rfl,fun i o ho=>by simp at ho⟩
   |cons o rest ih=>
    intro st Pe h
    have key: ∃Xl,(gb cf C ops st o Xl/\(xw cf.M o.op=true->(eL ops o st.tm=some false/\Xl.hp=st.hp)∨nH cf Xl (((m6 ops.toList [])[ops.size-rest.length-1]?).getD 0) (ops.toList.take (ops.size-rest.length-1)) 0))/\kB cf C true ops rest Xl=some (.norm Pe):=by
     rcases AK h with⟨hg,hs⟩|⟨hg,hs⟩
     ·unfold fM at hs
      cases ho:aV cf st.tm st.hp o.op with
      |none=>simp[ho]at hs
      |some q=>
       cases q with
       |val v h1=>simp only[ho]at hs;exact⟨_,⟨.val v h1 hg ho rfl,fun hf=>.inr ((lO hs).2 hf)⟩,(lO hs).1⟩
       |jI v=>simp[ho]at hs
       |call f args=>
        simp only[ho,aay]at hs
        cases Pd:zC o.op&& !sB (cf.M f)with
        |true=>simp[Pd]at hs
        |false=>
        simp only[Pd]at hs
        cases hc:cj cf C f args st.hp with
        |none=>simp[hc]at hs
        |some q=>
         cases q with
         |ret v h1=>simp only[hc]at hs;exact⟨_,⟨.call f args v h1 hg ho Pd hc rfl,fun hf=>.inr ((lO hs).2 hf)⟩,(lO hs).1⟩
         |jI v h1=>simp[hc]at hs
     ·exact⟨_,⟨.skip hg rfl,fun hf=>.inl ⟨hg,rfl⟩⟩,hs⟩
    obtain⟨Xl,h1,h2⟩:=key;obtain⟨tr,t0,tn,ts⟩:=ih Xl Pe h2;refine⟨fun i=>match i with|0=>st|i+1=>tr i,rfl,tn,fun i o' iP=>?_⟩
    cases i with
    |zero=>
     simp at iP;subst iP;subst t0;refine⟨h1.1,fun hf=>?_⟩;rcases h1.2 hf with h|h
     ·exact .inl h
     ·right
      rw[show ops.size-((o::rest).length-0)=ops.size-rest.length-1 by simp;omega]
      exact h
    |succ i=>
     have:=ts i o' (by simpa using iP);refine⟨this.1,fun hf=>?_⟩;rcases this.2 hf with h|h
     ·exact .inl h
     ·right
      rw[show(o::rest).length-(i+1)=rest.length-i by simp];exact h
theorem gb.P1{st fb:St}{o:Oper}(h:gb cf C ops st o fb){t:Nat}(hd:o.dst≠some t):fb.tm t=st.tm t:=by
 have hp: ∀v,jL st.tm o.dst v t=st.tm t:=by
  intro v;unfold jL fX
  cases hq:o.dst with
  |none=>rfl
  |some d=>simp only;rw[if_neg (fun e=>hd (by rw[hq,e]))]
 cases h with
 |skip _ he=>subst he;exact hp _
 |val v h _ _ he=>subst he;exact hp _
 |call f a v h _ _ _ _ he=>subst he;exact hp _
theorem gb.Dm{st fb:St}{o:Oper}(h:gb cf C ops st o fb)(hx:uM cf.M o.op=true):st.hp <+: fb.hp:=by
 simp only[uM,Bool.or_eq_true]at hx
 cases h with
 |skip _ he=>subst he;exact aa2 _
 |val v h _ hv he=>
  subst he;rcases hx with hx|hx
  ·exact yJ hx hv
  ·obtain⟨f,args,hc,_⟩:=pZ hx hv
   cases hc
 |call f a v h _ hv Pd hc he=>
  subst he;rcases hx with hx|hx
  ·exfalso
   by_cases hr:lR o.op=true
   ·obtain⟨_,hq⟩:=oy hr hv;cases hq
   ·rcases nV hv with⟨_,_,hq⟩|⟨c,hq⟩|⟨x,hq⟩
    ·cases hq
    ·rw[hq]at hx hr;exact hr hx
    ·rw[hq]at hx hr;exact hr hx
  ·obtain⟨f',dD,hq,ja⟩:=pZ hx hv;cases hq
   rcases Ha (ja Pd)with hm|hm
   ·unfold cj at hc;simp only[hm]at hc;split at hc
    ·split at hc
     ·simp only[nM]at hc;obtain⟨_,_,he⟩:=hc;cases he
      exact aa2 _
     ·simp only[nM]at hc;obtain⟨_,_,he⟩:=hc;cases he
     ·cases hc
    ·split at hc
     ·split at hc
      ·split at hc
       ·cases hc;exact aa2 _
       ·cases hc
      ·cases hc
     ·cases hc
   ·unfold cj at hc;simp only[hm]at hc;split at hc
    ·split at hc
     ·split at hc
      ·cases hc;exact List.prefix_append _ _
      ·cases hc
     ·cases hc
    ·cases hc
theorem gb.free{st fb:St}{o:Oper}(h:gb cf C ops st o fb)(hx:eR cf.P o.op=true):fb.hp=st.hp:=by
 cases h with
 |skip _ he=>subst he;rfl
 |val v h _ hv he=>
  subst he;obtain⟨_,hq,_⟩:=wh hx hv;cases hq
  rfl
 |call f a v h _ hv Pd hc he=>
  obtain⟨_,hq,_⟩:=wh hx hv;cases hq
theorem kY{x:Oper}(h:gB x=true):((∃t a,x.op= .load t a)∨(∃t a lo hi,x.op= .slice t a lo hi none)∨ ∃t a i,x.op= .indexAddr t a i)/\x.guard=none:=by
 unfold gB at h;split at h
 ·rename_i t a h1 h2;exact⟨.inl ⟨t,a,h1⟩,h2⟩
 ·rename_i t a lo hi h1 h2;exact⟨.inr (.inl ⟨t,a,lo,hi,h1⟩),h2⟩
 ·rename_i t a i h1 h2;exact⟨.inr (.inr ⟨t,a,i,h1⟩),h2⟩
 ·cases h
theorem P2{x:Oper}(h:gB x=true):uM cf.M x.op=true:=by
 rcases(kY h).1 with⟨t,a,he⟩|⟨t,a,lo,hi,he⟩|⟨t,a,i,he⟩<;>(rw[he];rfl)
theorem Ev{x:Oper}(h:gB x=true):eR cf.P x.op=false:=by
 rcases(kY h).1 with⟨t,a,he⟩|⟨t,a,lo,hi,he⟩|⟨t,a,i,he⟩<;>(rw[he];rfl)
theorem oH{x:Oper}(h:mB x=true):((∃t,x.op= .alloc t)∨(∃t y,x.op= .box t y)∨ ∃t n ps,x.op= .buildSlice t (n+1) ps)/\x.guard=none:=by
 unfold mB at h;split at h
 ·rename_i t h1 h2;exact⟨.inl ⟨t,h1⟩,h2⟩
 ·rename_i t y h1 h2;exact⟨.inr (.inl ⟨t,y,h1⟩),h2⟩
 ·rename_i t n ps h1 h2;exact⟨.inr (.inr ⟨t,n,ps,h1⟩),h2⟩
 ·cases h
theorem J6{x:Oper}(h:j8 x=true):gB x=true∨mB x=true:=by simpa[j8]using h
theorem J7{x:Oper}(h:mB x=true):gB x=false:=by
 cases hl:gB x with
 |false=>rfl
 |true=>
  exfalso;rcases(oH h).1 with⟨t,e⟩|⟨t,y,e⟩|⟨t,n,ps,e⟩<;>rcases(kY hl).1 with⟨t',a,e'⟩|⟨t',a,lo,hi,e'⟩|⟨t',a,i,e'⟩<;>(rw[e]at e';cases e')
theorem AL{x:Oper}(h:j8 x=true):uM cf.M x.op=true:=by
 rcases J6 h with h|h
 ·exact P2 h
 ·rcases(oH h).1 with⟨t,e⟩|⟨t,y,e⟩|⟨t,n,ps,e⟩<;>(rw[e];rfl)
theorem J8{x:Oper}(h:mB x=true):eR cf.P x.op=false:=by
 rcases(oH h).1 with⟨t,e⟩|⟨t,y,e⟩|⟨t,n,ps,e⟩<;>(rw[e];rfl)
theorem J9{x:Oper}(h:mB x=true):lR x.op=false:=by
 rcases(oH h).1 with⟨t,e⟩|⟨t,y,e⟩|⟨t,n,ps,e⟩<;>(rw[e];rfl)
theorem sN{x:Oper}(hm:mB x=true){tm:Nat->af}{h:aG}{r:JD}(hv:aV cf tm h x.op=some r):
  ∃v ob,r= .val v (h++[ob])/\((v= .ptr h.length 0 0/\aV cf tm [] x.op=some (.val (.ptr 0 0 0) [ob]))∨ ∃n,v= .own h.length 0 n/\aV cf tm [] x.op=some (.val (.own 0 0 n) [ob])):=by
   rcases(oH hm).1 with⟨t,e⟩|⟨t,y,e⟩|⟨t,n,ps,e⟩
   ·rw[e]at hv⊢;simp only[aV,nM]at hv;obtain⟨z,hz,rfl⟩:=hv;exact⟨_,_,rfl,.inl ⟨rfl,by simp only[aV,hz,aaL];rfl⟩⟩
   ·rw[e]at hv⊢;simp only[aV,nM]at hv;obtain⟨z,hz,rfl⟩:=hv;exact⟨_,_,rfl,.inl ⟨rfl,by simp only[aV,hz,aaL];rfl⟩⟩
   ·rw[e]at hv⊢;simp only[aV]at hv⊢;split at hv
    ·rename_i et sz vs hs uh;split at hv
     ·rename_i JR;split at hv
      ·rename_i z hz;split at hv
       ·rename_i xD;split at hv
        ·rename_i es Vz;cases hv
         refine⟨_,_,rfl,.inr ⟨es.length,rfl,?_⟩⟩;simp only[if_pos JR,hz,if_pos xD,Vz];rfl
        ·cases hv
       ·cases hv
      ·cases hv
     ·cases hv
    ·cases hv
theorem Hb{x:Oper}(h:gB x=true){tm:Nat->af}{hp:aG}{r:JD}(hv:aV cf tm hp x.op=some r): ∃v,r= .val v hp:=by
 rcases(kY h).1 with⟨t,a,he⟩|⟨t,a,lo,hi,he⟩|⟨t,a,i,he⟩
 ·rw[he]at hv;simp only[aV]at hv;split at hv
  ·simp only[nM]at hv;obtain⟨v,_,hq⟩:=hv;exact⟨v,hq.symm⟩
  ·cases hv
 ·rw[he]at hv;simp only[aV]at hv;split at hv
  ·simp only[nM]at hv;obtain⟨v,_,hq⟩:=hv;exact⟨v,hq.symm⟩
  ·cases hv
 ·rw[he]at hv;simp only[aV]at hv;split at hv
  ·simp only[nM]at hv;obtain⟨v,_,hq⟩:=hv;exact⟨v,hq.symm⟩
  ·cases hv
theorem gb.load{st fb:St}{o:Oper}(h:gb cf C ops st o fb)(hl:gB o=true): ∃v,aV cf st.tm st.hp o.op=some (.val v st.hp)/\fb=⟨jL st.tm o.dst v,st.hp⟩:=by
 have hg:=(kY hl).2;have hgn:eL ops o st.tm=none:=by unfold eL;rw[hg]
 cases h with
 |skip Yb _=>rw[hgn]at Yb;cases Yb
 |val v h _ hv AD=>
  obtain⟨v',hq⟩:=Hb hl hv;cases hq
  exact⟨v,hv,AD⟩
 |call f args v h _ hv _ _ _=>
  obtain⟨v',hq⟩:=Hb hl hv;cases hq
theorem gb.mk{st fb:St}{o:Oper}(h:gb cf C ops st o fb)(hm:mB o=true): ∃v ob,aV cf st.tm st.hp o.op=some (.val v (st.hp++[ob]))/\fb=⟨jL st.tm o.dst v,st.hp++[ob]⟩:=by
 have hg:=(oH hm).2;have hgn:eL ops o st.tm=none:=by unfold eL;rw[hg]
 cases h with
 |skip Yb _=>rw[hgn]at Yb;cases Yb
 |val v h _ hv AD=>
  obtain⟨v',ob,hq,_⟩:=sN hm hv;cases hq
  exact⟨v,ob,hv,AD⟩
 |call f args v h _ hv _ _ _=>
  obtain⟨v',ob,hq,_⟩:=sN hm hv;cases hq
theorem P3{o:Oper}(hm:mB o=true){tm p0:Nat->af}(h: ∀t∈o.looksAt ops,tm t=p0 t)(hp:aG):aV cf tm hp o.op=aV cf p0 hp o.op:=by
 have ZG: ∀x∈o.op.operands.toList,ev cf.G tm x=ev cf.G p0 x:=fun x hx=>by
  cases x with
  |tmp t=>simp only[ev];rw[h t (List.mem_append_left _ (List.mem_filterMap.2 ⟨.tmp t,by simpa using hx,rfl⟩))]
  |const c=>rfl
  |global g=>rfl
  |func f=>rfl
 rcases(oH hm).1 with⟨t,e⟩|⟨t,y,e⟩|⟨t,n,ps,e⟩
 ·rw[e];rfl
 ·rw[e]at ZG⊢;simp only[aV];rw[ZG y (by simp[Op.operands])]
 ·rw[e]at ZG⊢
  have key: ∀l:List (Nat×Operand),(∀p∈l,ev cf.G tm p.2=ev cf.G p0 p.2)->di (fun p=>(ev cf.G tm p.2).map fun v=>(p.1,v)) l=di (fun p=>(ev cf.G p0 p.2).map fun v=>(p.1,v)) l:=by
   intro l
   induction l with
   |nil=>intro _;rfl
   |cons p l ih=>
    intro hl;simp only[di];rw[hl p (by simp),ih fun q hq=>hl q (by simp[hq])]
  simp only[aV];rw[key ps.toList fun p hp=>ZG p.2 (by simp only[Op.operands];simp;exact⟨p.1,by simpa using hp⟩)]
theorem sO{o:Oper}{tm p0:Nat->af}(h: ∀t∈o.looksAt ops,tm t=p0 t){x:Operand}(hx:x∈o.op.operands.toList):ev cf.G tm x=ev cf.G p0 x:=by
 cases x with
 |tmp t=>simp only[ev];rw[h t (List.mem_append_left _ (List.mem_filterMap.2 ⟨.tmp t,by simpa using hx,rfl⟩))]
 |const c=>rfl
 |global g=>rfl
 |func f=>rfl
theorem AM{o:Oper}{tm p0:Nat->af}(h: ∀t∈o.looksAt ops,tm t=p0 t){x:Option Operand}(hx: ∀y,x=some y->y∈o.op.operands.toList):vI cf.G tm x=vI cf.G p0 x:=by
 cases x with
 |none=>rfl
 |some y=>simp only[vI];rw[sO h (hx y rfl)]
theorem SV{o:Oper}(hl:gB o=true){tm p0:Nat->af}{h h':aG}{v:af}(ht: ∀t∈o.looksAt ops,tm t=p0 t)(hv:aV cf tm h o.op=some (.val v h')):aV cf p0 h o.op=some (.val v h'):=by
 rcases(kY hl).1 with⟨t,a,he⟩|⟨t,a,lo,hi,he⟩|⟨t,a,i,he⟩
 ·have Cz:=sO (cf:=cf) ht (x:=a) (by rw[he];simp[Op.operands]);rw[he]at hv⊢;simp only[aV]at hv⊢;rw[Cz]at hv;exact hv
 ·have Cz:=sO (cf:=cf) ht (x:=a) (by rw[he];simp[Op.operands]);have he3:=AM (cf:=cf) ht (x:=lo) (fun y hy=>by rw[he,hy];simp[Op.operands]);have he4:=AM (cf:=cf) ht (x:=hi) (fun y hy=>by rw[he,hy];simp[Op.operands]);rw[he]at hv⊢;simp only[aV]at hv⊢;rw[Cz,he3,he4]at hv;exact hv
 ·have Cz:=sO (cf:=cf) ht (x:=a) (by rw[he];simp[Op.operands]);have he3:=sO (cf:=cf) ht (x:=i) (by rw[he];simp[Op.operands]);rw[he]at hv⊢;simp only[aV]at hv⊢;rw[Cz,he3]at hv;exact hv
theorem rA{h H:aG}(hp:h <+: H){id:Nat}{ob:dH}(ho:h[id]?=some ob):H[id]?=some ob:=by
 obtain⟨t,rfl⟩:=hp;rw[aaN (aag.1 ho).1];exact ho
theorem Hc{P:Program}{t:TypeId}{x v:af}{lo hi:Option Int}{h H:aG}(hp:h <+: H)(hv:nA P t x lo hi none h=some v):nA P t x lo hi none H=some v:=by
 cases x
 case own id st len=>
  simp only[nA]at hv⊢
  cases ho:h[id]? with
  |none=>cases hs:my P t<;>simp[ho,hs]at hv
  |some ob=>rw[rA hp ho];rw[ho]at hv;exact hv
 all_goals exact hv
theorem Ny{o:Oper}(hl:gB o=true){tm:Nat->af}{h H:aG}{v:af}(hp:h <+: H)(hv:aV cf tm h o.op=some (.val v h)):aV cf tm H o.op=some (.val v H):=by
 rcases(kY hl).1 with⟨t,a,he⟩|⟨t,a,lo,hi,he⟩|⟨t,a,i,he⟩
 ·rw[he]at hv⊢;simp only[aV]at hv⊢;split at hv
  ·rename_i a' ha;simp only[nM]at hv⊢;obtain⟨x,hx,hq⟩:=hv;cases hq
   refine⟨v,?_,rfl⟩;unfold ku at hx⊢;split at hx
   ·rename_i id i off
    cases ho:h[id]? with
    |none=>simp[ho]at hx
    |some ob=>
     simp only[ho]at hx;simp only[rA hp ho];exact hx
   ·exact hx
   ·cases hx
  ·cases hv
 ·rw[he]at hv⊢;simp only[aV]at hv⊢;split at hv
  ·simp only[nM]at hv⊢;obtain⟨x,hx,hq⟩:=hv;cases hq
   exact⟨v,Hc hp hx,rfl⟩
  ·cases hv
 ·rw[he]at hv⊢;simp only[aV]at hv⊢;split at hv
  ·simp only[nM]at hv⊢;obtain⟨x,hx,hq⟩:=hv;cases hq
   refine⟨v,?_,rfl⟩;unfold vH at hx⊢;split at hx
   ·rename_i id st len _
    cases ho:h[id]? with
    |none=>cases hs:my cf.P t<;>simp[ho,hs]at hx
    |some ob=>rw[rA hp ho];rw[ho]at hx;exact hx
   ·exact hx
   ·exact hx
   ·exact hx
   ·cases hx
  ·cases hv
theorem AN{st:St}{m:Nat}: ∀(l:List Oper)(i:Nat),nH cf st m l i-> ∀k x,l[k]?=some x->j8 x=true->m.testBit (i+k)=false->Ej cf x st:=by
 intro l
 induction l with
 |nil=>intro i _ k x hk;simp at hk
 |cons y ys ih=>
  intro i h k x hk hl hb;unfold nH at h
  cases k with
  |zero=>
   simp at hk;subst hk;rw[Nat.add_zero]at hb;simp only[hl,hb]at h
   exact h.1
  |succ k=>
   have h':nH cf st m ys (i+1):=by
    split at h
    ·exact h
    ·exact h.2
   exact ih (i+1) h' k x (by simpa using hk) hl (by rw[show i+1+k=i+(k+1) by omega];exact hb)
end
end Go.Am

/- The reference's looks at lists and plans. -/
import Derived.Test.YtfepbikckfehlaaGreatGSBmW
import Derived.Test.YtfepbikckfehlaaGreatGSBmS
import Derived.Test.YtfepbikckfehlaaGreatRows
set_option linter.unusedVariables false
set_option linter.unusedSimpArgs false
set_option maxHeartbeats 4000000
namespace Go.Am
open Go
def Yv(P:Program)(t:TypeId):Option Bool:=match P.underlying t with
 |some d=>match d with
  | .bool=>some true
  | .struct _=>some false
  | .array _ _=>some false
  |_=>none
 |none=>none
def Hl(P:Program)(t:TypeId)(v:af)(K:af->Prop):Prop:=match Yv P t with
 |some true=>Qk v K
 |some false=>kE v K
 |none=>K v
theorem qE{P:Program}{t:TypeId}{v:af}{K:af->Prop}(h:Hl P t v K):K v:=by
 unfold Hl at h;split at h
 ·exact jU h
 ·exact gG h
 ·exact h
def AW(P:Program)(t:TypeId)(off:Nat)(K:af->Prop)(x:af):Prop:=match fZ P t x off with
 |some v=>K v
 |none=>False
theorem gH{P:Program}{t:TypeId}{off:Nat}{K:af->Prop}{x v:af}(hv:fZ P t x off=some v)(hk:K v):AW P t off K x:=by
 unfold AW;rw[hv];exact hk
def qF(K:List af->Prop)(us:List af):Prop:=K us
def EE(v:af)(K:List af->Prop):Prop:=match v with
 | .int k n=>qF K ([.int k n])
 | .bool b=>qF K ([.bool b])
 | .str s=>qF K ([.str s])
 | .nil=>qF K ([.nil])
 | .sl xs=>qF K ([.sl xs])
 | .fQ xs i off=>qF K ([.fQ xs i off])
 | .sx=>qF K ([.sx])
 | .qY=>qF K ([.qY])
 | .zB=>qF K ([.zB])
 | .qZ=>qF K ([.qZ])
 | .own id st len=>qF K ([.own id st len])
 | .ptr id i off=>qF K ([.ptr id i off])
 | .map id=>qF K ([.map id])
 | .oo ks vs=>qF K ([.oo ks vs])
 | .it id=>qF K ([.it id])
 | .func fn a b=>qF K ([.func fn a b])
 | .iface t v=>qF K ([.iface t v])
 | .gv g t=>qF K ([.gv g t])
 | .agg cs=>qF K cs
 | .eT vs=>qF K ([.eT vs])
theorem yT{v:af}{K:List af->Prop}(h:EE v K):K v.cells:=by cases v<;>exact h
theorem ep{v:af}{cs:List af}{K:List af->Prop}(hv:v.cells=cs)(h:K cs):EE v K:=by subst hv;cases v<;>exact h
def Mq(pl:Nat->Option (Nat×Nat)):List af->List (Nat×af)->(List af->Prop)->Prop
 |cs,[],K=>K cs
 |cs,(i,v)::r,K=>match pl i with
  |some (off,sz)=>EE v fun us=>match Nat.decEq us.length sz,Nat.decLe (off+sz) cs.length with
   |isTrue _,isTrue _=>Mq pl (cs.take off++(us++cs.drop (off+sz))) r K
   |_,_=>False
  |none=>False
theorem AX{pl:Nat->Option (Nat×Nat)}: ∀{vs:List (Nat×af)}{cs:List af}{K:List af->Prop},Mq pl cs vs K-> ∃Yw,lr pl cs vs=some Yw/\K Yw
 | [],cs,K,h=>⟨cs,rfl,h⟩
 |(i,v)::r,cs,K,h=>by
  simp only[Mq]at h;simp only[lr];split at h
  ·rename_i off sz vD;have h:=yT h;split at h
   ·rename_i h1 h2 _ _;obtain⟨Yw,e,hk⟩:=AX h;exact⟨Yw,by simp only[vD];rw[if_pos ⟨h1,h2⟩];exact e,hk⟩
   ·exact h.elim
  ·exact h.elim
def Qq(sz:Nat):List af->List (Nat×af)->(List af->Prop)->Prop
 |es,[],K=>rD es K
 |es,(i,v)::r,K=>EE v fun us=>match Nat.decLt i es.length,Nat.decEq us.length sz with
  |isTrue _,isTrue _=>Qq sz (es.set i v) r K
  |_,_=>False
theorem xN{sz:Nat}: ∀{vs:List (Nat×af)}{es:List af}{K:List af->Prop},Qq sz es vs K-> ∃Jz,kL es sz vs=some Jz/\K Jz
 | [],es,K,h=>⟨es,rfl,m8 h⟩
 |(i,v)::r,es,K,h=>by
  simp only[Qq]at h;simp only[kL];have h:=yT h;split at h
  ·rename_i h1 h2 _ _;obtain⟨Jz,e,hk⟩:=xN h;exact⟨Jz,by rw[if_pos ⟨h1,h2⟩];exact e,hk⟩
  ·exact h.elim
def Tm(cf:eP)(tm:Nat->af)(h:aG)(o:Op)(K:af->aG->Prop):Prop:=
 match o with
 | .load t a=>match ev cf.G tm a with
  |some (.ptr id i off)=>AtZ h id i fun _ x=>AW cf.P t off (K · h) x
  |some (.fQ xs i off)=>match xs[i]? with
   |some x=>AW cf.P t off (K · h) x
   |none=>False
  |_=>False
 | .build t ps=>match kK cf.P t,di (fun p=>(ev cf.G tm p.2).map fun v=>(p.1,v)) ps.toList,zM cf.P t with
  |some z,some vs,true=>Mq (Ah cf.P t) z.cells vs fun cs=>K (.agg cs) h
  |_,_,_=>False
 | .buildSlice t n ps=>match my cf.P t,di (fun p=>(ev cf.G tm p.2).map fun v=>(p.1,v)) ps.toList,Nat.decLe n 4096 with
  |some (et,sz),some vs,isTrue _=>match Nat.decLe sz 4096,kK cf.P et with
   |isTrue _,some z=>match Nat.decEq z.cells.length sz with
    |isTrue _=>match n with
     |0=>Qq sz [] vs fun _=>K .nil h
     |_+1=>Qq sz (List.replicate n z) vs fun es=>∀k h',k=h.length->h'=h++[.arr sz es]->K (.own k 0 es.length) h'
    |isFalse _=>False
   |_,_=>False
  |_,_,_=>False
 | .slice t x lo hi none=>match ev cf.G tm x with
  |some (.own id st len)=>match my cf.P t,vI cf.G tm lo,vI cf.G tm hi with
   |some (_,sz),some l,some u=>∃es,h[id]?=some (.arr sz es)/\(0<=l.getD 0/\l.getD 0<=u.getD len/\u.getD len<=len)/\K (.own id (st+(l.getD 0).toNat) ((u.getD len).toNat-(l.getD 0).toNat)) h
   |_,_,_=>False
  |_=>NH cf tm h (.slice t x lo hi none) K
 | .call {callee:=.builtin .len,args,argTypes}=>match di (ev cf.G tm) args.toList,(argTypes[0]?).bind cf.P.underlying with
  |some [x],some d=>match d with
   | .slice _=>match x with
    | .sl xs=>K (.int .i64 xs.length) h
    | .own _ _ n=>K (.int .i64 n) h
    | .nil=>K (.int .i64 0) h
    |_=>False
   | .string=>match x with
    | .str s=>K (.int .i64 s.size) h
    |_=>False
   |_=>NH cf tm h (.call {callee:=.builtin .len,args,argTypes}) K
  |_,_=>False
 |o=>NH cf tm h o K
theorem AY{cf:eP}{tm:Nat->af}{h:aG}{o:Op}{K:af->aG->Prop}(hw:Tm cf tm h o K): ∃v h',aV cf tm h o=some (.val v h')/\K v h':=by
 unfold Tm at hw;split at hw
 ·rename_i t a;split at hw
  ·rename_i id i off ha;rcases hw with⟨x,ho,AB,hw⟩|⟨sz,es,x,ho,AB,hw⟩
   ·unfold AW at hw;split at hw
    ·rename_i v hv;exact⟨v,h,by simp only[aV,ha,ku,ho,AB,if_true,hv];rfl,hw⟩
    ·exact hw.elim
   ·unfold AW at hw;split at hw
    ·rename_i v hv;exact⟨v,h,by simp only[aV,ha,ku,ho,AB,hv];rfl,hw⟩
    ·exact hw.elim
  ·rename_i xs i off ha;split at hw
   ·rename_i x hx;unfold AW at hw;split at hw
    ·rename_i v hv;exact⟨v,h,by simp only[aV,ha,ku,hx,hv];rfl,hw⟩
    ·exact hw.elim
   ·exact hw.elim
  ·exact hw.elim
 ·rename_i t ps;split at hw
  ·rename_i z vs hz uh Tj;obtain⟨cs,e,hk⟩:=AX hw;exact⟨.agg cs,h,by simp only[aV,hz,uh,Tj,e];rfl,hk⟩
  ·exact hw.elim
 ·rename_i t n ps;split at hw
  ·rename_i et sz vs hn hs uh _;split at hw
   ·rename_i jP z _ hz;split at hw
    ·rename_i hl
     cases n with
     |zero=>
      obtain⟨es,e,hk⟩:=xN hw;have e':kL (List.replicate 0 z) sz vs=some es:=e
      exact⟨_,_,by simp only[aV,hs,uh];rw[if_pos ⟨hn,jP⟩];simp only[hz,e'];rw[if_pos ‹_›];rfl,hk⟩
     |succ n=>
     obtain⟨es,e,hk⟩:=xN hw;exact⟨_,_,by simp only[aV,hs,uh];rw[if_pos ⟨hn,jP⟩];simp only[hz,e];rw[if_pos ‹_›];rfl,hk _ _ rfl rfl⟩
    ·exact hw.elim
   ·exact hw.elim
  ·exact hw.elim
 ·rename_i t x lo hi;split at hw
  ·rename_i id st len hx;split at hw
   ·rename_i tt sz l u hs hl hu;obtain⟨es,ho,hc,hk⟩:=hw;exact⟨_,h,by simp only[aV,hx,hl,hu,nA,hs,ho];rw[if_pos ⟨hc.1,hc.2.1,hc.2.2,trivial⟩];rfl,hk⟩
   ·exact hw.elim
  ·exact rE hw
 ·rename_i args argTypes;split at hw
  ·rename_i x d ha ht;split at hw
   ·split at hw
    ·exact⟨_,_,by simp only[aV,dG,ha,ht,vG],hw⟩
    ·exact⟨_,_,by simp only[aV,dG,ha,ht,vG],hw⟩
    ·exact⟨_,_,by simp only[aV,dG,ha,ht,vG],hw⟩
    ·exact hw.elim
   ·split at hw
    ·refine⟨_,_,?_,hw⟩;simp only[aV,dG,ha,ht,vG]
    ·exact hw.elim
   ·exact rE hw
  ·exact hw.elim
 ·exact rE hw
def aaU(P:Program)(t:TypeId)(r:ef)(K:af->aG->Prop)(Q:Out->Prop):Prop:=match r with
 | .ret v h=>Hl P t v (K · h)
 | .jI v h=>Q (.jI v h)
def Tn(cf:eP)(d:Bool)(o:Oper)(tm:Nat->af)(hp:aG)(K:(Nat->af)->aG->Prop)(Q:Out->Prop):Prop:=
 match sQ o.op with
 |true=>match aV cf tm hp o.op with
  |some (.call f args)=>match d&&(zC o.op&& !sB (cf.M f))with
   |true=>False
   |false=>∃r,cj cf (call cf) f args hp=some r/\aaU cf.P o.type r (fun v h=>nE tm o.dst v fun tm=>K tm h) Q
  |some (.jI v)=>Q (.jI v hp)
  |_=>False
 |false=>Tm cf tm hp o.op fun v h=>Hl cf.P o.type v fun v=>nE tm o.dst v fun tm=>K tm h
def Kn(cf:eP)(d:Bool)(ops:Array Oper)(Q:Out->Prop):List Oper->(Nat->af)->aG->Prop
 | [],tm,hp=>Q (.norm ⟨tm,hp⟩)
 |o::rest,tm,hp=>match eL ops o tm with
  |none=>Tn cf d o tm hp (Dt cf d ops o rest.length (Kn cf d ops Q rest)) Q
  |some t=>rC t (Tn cf d o tm hp (Dt cf d ops o rest.length (Kn cf d ops Q rest)) Q) (nE tm o.dst (.eT []) fun tm=>Kn cf d ops Q rest tm hp)
def zI(cf:eP):Code->(Out->Prop)->St->Prop
 | .skip,Q,st=>Q (.norm st)
 | .region id ops d,Q,st=>match st with
  |⟨tm,hp⟩=>Qo cf.pm id ops d fun ops=>Kn cf d ops (fun o=>match d,o with
   |true,.norm st=>Q (.norm st)
   |true,_=>False
   |false,o=>Q o) ops.toList tm hp
 | .seq a b,Q,st=>zI cf a (fun o=>match o with
  | .norm fb=>zI cf b Q fb
  |o=>Q o) st
 | .cond c a b,Q,st=>match ev cf.G st.tm c with
  |some (.bool t)=>rC t (zI cf a Q st) (zI cf b Q st)
  |_=>False
 | .block id c,Q,st=>zI cf c (fun o=>match o with
  | .exit j fb=>match Nat.decEq j id with
   |isTrue _=>Q (.norm fb)
   |isFalse _=>Q (.exit j fb)
  |o=>Q o) st
 | .loop c,Q,st=>∃o,je cf c st=some o/\Q o
 | .exit id,Q,st=>Q (.exit id st)
 | .scope c,Q,st=>zI cf c Q st
 | .label _,Q,st=>Q (.norm st)
 | .ret,Q,st=>Q (.ret st)
 |_,_,_=>False
def Hm(cf:eP)(f:FuncId)(args:List af)(h:aG)(Q:ef->Prop):Prop:=
 match cf.P.funcs[f]? with
 |some fn=>match fn.body with
  |some c=>zI cf c (fun o=>∃r,qx cf.P fn (some o)=some r/\Q r) ⟨lP args,h⟩
  |none=>False
 |none=>False
theorem AZ{cf:eP}{d:Bool}{o:Oper}{tm:Nat->af}{hp:aG}{K:(Nat->af)->aG->Prop}{K':St->Option Out}{Q:Out->Prop}(hK: ∀tm hp,K tm hp-> ∃r,K' ⟨tm,hp⟩=some r/\Q r)(hw:Tn cf d o tm hp K Q):
  ∃r,fM cf (call cf) d o ⟨tm,hp⟩ K'=some r/\Q r:=by
   unfold Tn at hw;split at hw
   ·split at hw
    ·rename_i f args hv;split at hw
     ·exact hw.elim
     ·rename_i hg;obtain⟨r,hr,hw⟩:=hw
      cases r with
      |ret v h=>
       obtain⟨r,h1,h2⟩:=hK _ _ (jJ (K:=fun tm=>K tm h) (qE (K:=fun v=>nE tm o.dst v fun tm=>K tm h) hw))
       exact⟨r,by unfold fM;simp only[hv,hg,hr];exact h1,h2⟩
      |jI v h=>exact⟨.jI v h,by unfold fM;simp only[hv,hg,hr],hw⟩
    ·rename_i v hv;exact⟨.jI v hp,by unfold fM;simp only[hv],hw⟩
    ·exact hw.elim
   ·obtain⟨v,h',hv,hk⟩:=AY hw;obtain⟨r,h1,h2⟩:=hK _ _ (jJ (K:=fun tm=>K tm h') (qE (K:=fun v=>nE tm o.dst v fun tm=>K tm h') hk));exact⟨r,by unfold fM;simp only[hv];exact h1,h2⟩
theorem Ko{cf:eP}{d:Bool}{ops:Array Oper}{Q:Out->Prop}: ∀(l:List Oper)(tm:Nat->af)(hp:aG),Kn cf d ops Q l tm hp-> ∃o,kB cf (call cf) d ops l ⟨tm,hp⟩=some o/\Q o:=by
 intro l
 induction l with
 |nil=>intro tm hp h;exact⟨_,rfl,h⟩
 |cons o rest ih=>
  intro tm hp h;unfold Kn at h;simp only[kB]
  cases hg:eL ops o tm with
  |none=>simp only[hg]at h⊢;exact AZ (p9 ih) h
  |some t=>
   simp only[hg]at h⊢;rcases fT h with⟨rfl,h⟩|⟨rfl,h⟩
   ·obtain⟨r,h1,h2⟩:=AZ (p9 ih) h
    by_cases hp:kW o.op=true
    ·rw[if_pos hp];obtain⟨v,hv,hk⟩:=uP hp h1;have hk:=(lO hk).1;exact⟨r,by simp only[Gp,hv];exact hk,h2⟩
    ·rw[if_neg hp];exact⟨r,h1,h2⟩
   ·obtain⟨r,h1,h2⟩:=ih _ _ (jJ (K:=fun tm=>Kn cf d ops Q rest tm hp) h)
    by_cases hp:kW o.op=true
    ·rw[if_pos hp];exact⟨r,h1,h2⟩
    ·rw[if_neg hp];exact⟨r,h1,h2⟩
theorem uQ{cf:eP}: ∀(c:Code)(Q:Out->Prop)(st:St),zI cf c Q st-> ∃o,cQ cf (call cf) (je cf) c st=some o/\Q o:=by
 intro c
 induction c with
 |skip=>intro Q st h;exact⟨_,rfl,h⟩
 |region id ops d=>
  intro Q st h;simp only[zI]at h;replace h:=xK h;obtain⟨o,ho,hq⟩:=Ko _ _ _ h;refine⟨o,?_,?_⟩
  ·simp only[cQ,ho]
   cases d with
   |false=>rfl
   |true=>cases o<;>first|rfl|exact hq.elim
  ·cases d with
   |false=>cases o<;>exact hq
   |true=>cases o<;>first|exact hq|exact hq.elim
 |seq a b sC sD=>
  intro Q st h;obtain⟨o,ho,h⟩:=sC _ _ h;simp only[cQ,ho]
  cases o with
  |norm fb=>exact sD _ _ h
  |exit j s=>exact⟨_,rfl,h⟩
  |ret s=>exact⟨_,rfl,h⟩
  |jI v hp=>exact⟨_,rfl,h⟩
 |cond c a b sC sD=>
  intro Q st h;simp only[zI]at h;split at h
  ·rename_i t ht;simp only[cQ,ht];rcases fT h with⟨rfl,h⟩|⟨rfl,h⟩
   ·exact sC _ _ h
   ·exact sD _ _ h
  ·exact h.elim
 |block id c ih=>
  intro Q st h;obtain⟨o,ho,h⟩:=ih _ _ h;simp only[cQ,ho]
  cases o with
  |norm fb=>exact⟨_,rfl,h⟩
  |exit j s=>
   simp only at h
   by_cases e:j=id
   ·simp only[if_pos e]
    cases hd:Nat.decEq j id with
    |isTrue _=>simp only[hd]at h;exact⟨_,rfl,h⟩
    |isFalse n=>exact(n e).elim
   ·simp only[if_neg e]
    cases hd:Nat.decEq j id with
    |isTrue y=>exact(e y).elim
    |isFalse n=>simp only[hd]at h;exact⟨_,rfl,h⟩
  |ret s=>exact⟨_,rfl,h⟩
  |jI v hp=>exact⟨_,rfl,h⟩
 |loop c ih=>intro Q st h;exact h
 |exit id=>intro Q st h;exact⟨_,rfl,h⟩
 |scope c ih=>intro Q st h;exact ih _ _ h
 |label l=>intro Q st h;exact⟨_,rfl,h⟩
 |ret=>intro Q st h;exact⟨_,rfl,h⟩
 |rangeFunc f p a b _ _=>intro Q st h;exact h.elim
 |goto l=>intro Q st h;exact h.elim
 |refuse w=>intro Q st h;exact h.elim
theorem mM{cf:eP}{f:FuncId}{args:List af}{h:aG}{Q:ef->Prop}(hp:cf.pr f=none)(hw:Hm cf f args h Q): ∃r,call cf f args h=some r/\Q r:=by
 unfold Hm at hw;rw[vK];unfold nJ;simp only[hp];split at hw
 ·rename_i fn hf;simp only[hf];split at hw
  ·rename_i c hc;simp only[hc];obtain⟨o,ho,r,hr,hq⟩:=uQ _ _ _ hw;exact⟨r,by rw[ho];exact hr,hq⟩
  ·exact hw.elim
 ·exact hw.elim
def kF:List Oper->List Nat
 | []=>[]
 |o::r=>match o.dst with
  |some d=>d::kF r
  |none=>kF r
def wrote:Code->List Nat
 | .region _ ops _=>kF ops.toList
 | .seq a b=>wrote a++wrote b
 | .cond _ a b=>wrote a++wrote b
 | .block _ c=>wrote c
 | .loop c=>wrote c
 | .scope c=>wrote c
 |_=>[]
def iu(W:List Nat)(tm p0:Nat->af):Prop:=∀k,W.contains k=false->p0 k=tm k
theorem iu.refl(W:List Nat)(tm:Nat->af):iu W tm tm:=fun _ _=>rfl
theorem iu.trans{W:List Nat}{a b c:Nat->af}(h1:iu W a b)(h2:iu W b c):iu W a c:=fun k hk=>(h2 k hk).trans (h1 k hk)
theorem iu.mono{W W':List Nat}{a b:Nat->af}(h:iu W a b)(hs: ∀k,k∈W->k∈W'):iu W' a b:=fun k hk=>h k (by
 cases hc:W.contains k with
 |false=>rfl
 |true=>
  rw[List.contains_iff_mem]at hc;have:=hs k hc;rw[<-List.contains_iff_mem,hk]at this;cases this)
theorem iu.put{W:List Nat}{a b:Nat->af}{d:Option Nat}{v:af}(h:iu W a b)(hd: ∀k,d=some k->k∈W):iu W a (jL b d v):=fun k hk=>by
 cases d with
 |none=>exact h k hk
 |some d=>
  show fX b d v k=a k;unfold fX
  by_cases e:k=d
  ·subst e;have:=hd k rfl;rw[<-List.contains_iff_mem,hk]at this;cases this
  ·rw[if_neg e];exact h k hk
def fE(W:List Nat)(tm:Nat->af):Out->Prop
 | .norm st=>iu W tm st.tm
 | .exit _ st=>iu W tm st.tm
 | .ret st=>iu W tm st.tm
 | .jI _ _=>True
theorem fE.mono{W W':List Nat}{tm:Nat->af}{o:Out}(h:fE W tm o)(hs: ∀k,k∈W->k∈W'):fE W' tm o:=by
 cases o<;>first|exact iu.mono h hs|trivial
theorem fE.pre{W:List Nat}{a b:Nat->af}{o:Out}(h1:iu W a b)(h:fE W b o):fE W a o:=by
 cases o<;>first|exact iu.trans h1 h|trivial
theorem yU{cf:eP}{C:q0}{W:List Nat}{d:Bool}{o:Oper}{st:St}{K:St->Option Out}{r:Out}(hd: ∀k,o.dst=some k->k∈W)(hK: ∀fb r,K fb=some r->fE W fb.tm r)(h:fM cf C d o st K=some r):fE W st.tm r:=by
 have key: ∀v,fE W (jL st.tm o.dst v) r->fE W st.tm r:=fun v hh=>hh.pre ((iu.refl W st.tm).put hd);unfold fM at h;split at h
 ·exact key _ (hK _ _ h)
 ·split at h
  ·cases h
  ·split at h
   ·exact key _ (hK _ _ h)
   ·cases h;trivial
   ·cases h
 ·cases h;trivial
 ·cases h
theorem Kp{cf:eP}{C:q0}{W:List Nat}{d:Bool}{ops:Array Oper}: ∀(l:List Oper)(st:St)(r:Out),(∀k∈kF l,k∈W)->kB cf C d ops l st=some r->fE W st.tm r:=by
 intro l
 induction l with
 |nil=>intro st r _ h;cases h;exact iu.refl _ _
 |cons o rest ih=>
  intro st r hs h;have hd: ∀k,o.dst=some k->k∈W:=fun k e=>hs k (by simp[kF,e]);have hr: ∀k∈kF rest,k∈W:=fun k hk=>hs k (by unfold kF;split<;>simp[hk]);have hL: ∀fb r,mC cf d ops o rest.length (kB cf C d ops rest) fb=some r->fE W fb.tm r:=fun fb r hh=>ih fb r hr (lO hh).1;have key: ∀v r,fE W (jL st.tm o.dst v) r->fE W st.tm r:=fun v r hh=>hh.pre ((iu.refl W st.tm).put hd);simp only[kB]at h;split at h
  ·exact yU hd hL h
  ·rename_i t _;split at h
   ·split at h
    ·exact key _ _ (ih _ _ hr h)
    ·cases h
   ·cases t with
    |true=>exact yU hd hL h
    |false=>exact key _ _ (ih _ _ hr h)
theorem Hn(p:List Nat)(ops:Array Oper): ∀(l:List Nat),∀k∈kF (lM p ops l),k∈kF ops.toList:=by
 have key: ∀(l:List Oper)(o:Oper),o∈l-> ∀d,o.dst=some d->d∈kF l:=by
  intro l
  induction l with
  |nil=>intro o h;simp at h
  |cons x xs ih=>
   intro o h d hd;rcases aaz.1 h with rfl|h
   ·simp[kF,hd]
   ·have:=ih o h d hd;unfold kF;split<;>simp[this]
 intro l
 induction l with
 |nil=>intro k h;simp[lM,kF]at h
 |cons i is ih=>
  intro k h;simp only[lM]at h
  cases ho:ops[i]? with
  |none=>rw[ho]at h;exact ih k h
  |some o=>
   rw[ho]at h;simp only[kF]at h
   have hm:o∈ops.toList:=by
    have:=(aaR.1 ho);obtain⟨fK,rfl⟩:=this;simp
   cases hd:o.dst with
   |none=>simp only[mG,hd]at h;exact ih k h
   |some d=>
    simp only[mG,hd,aaz]at h;rcases h with rfl|h
    ·exact key _ o hm _ hd
    ·exact ih k h
theorem NJ(pm:Nat->Nat->Nat->Option (List Nat))(id:Nat)(ops:Array Oper)(d:Bool): ∀k∈kF (LU pm id ops d).toList,k∈kF ops.toList:=by
 unfold LU;split
 ·exact fun k h=>h
 ·split
  ·exact Hn _ ops _
  ·exact fun k h=>h
theorem sS{cf:eP}{C:q0}{L:O6}(hL: ∀c st r,L c st=some r->fE (wrote c) st.tm r): ∀(c:Code)(st:St)(r:Out),cQ cf C L c st=some r->fE (wrote c) st.tm r:=by
 intro c
 induction c with
 |region id ops d=>intro st r h;exact Kp _ st r (NJ _ _ _ _) (rh h).1
 |seq a b sC sD=>
  intro st r h;simp only[cQ]at h
  cases ha:cQ cf C L a st with
  |none=>simp[ha]at h
  |some q=>
   have h1:=(sC st q ha).mono (W':=wrote (.seq a b)) fun k hk=>by simp[wrote,hk]
   simp only[ha]at h
   cases q with
   |norm fb=>exact((sD fb r h).mono (W':=wrote (.seq a b)) fun k hk=>by simp[wrote,hk]).pre h1
   |exit j s=>cases h;exact h1
   |ret s=>cases h;exact h1
   |jI v hp=>cases h;trivial
 |cond c a b sC sD=>
  intro st r h;simp only[cQ]at h;split at h
  ·rename_i t _
   cases t with
   |true=>exact(sC st r h).mono fun k hk=>by simp[wrote,hk]
   |false=>exact(sD st r h).mono fun k hk=>by simp[wrote,hk]
  ·cases h
 |block id c ih=>
  intro st r h;simp only[cQ]at h
  cases ha:cQ cf C L c st with
  |none=>simp[ha]at h
  |some q=>
   have h1:fE (wrote (.block id c)) st.tm q:=ih st q ha;simp only[ha]at h
   cases q with
   |norm fb=>cases h;exact h1
   |exit j s=>
    simp only at h;split at h
    ·cases h;exact h1
    ·cases h;exact h1
   |ret s=>cases h;exact h1
   |jI v hp=>cases h;trivial
 |loop c ih=>intro st r h;exact hL c st r h
 |exit id=>intro st r h;cases h;exact iu.refl _ _
 |scope c ih=>intro st r h;exact ih st r h
 |label l=>intro st r h;cases h;exact iu.refl _ _
 |ret=>intro st r h;cases h;exact iu.refl _ _
 |skip=>intro st r h;cases h;exact iu.refl _ _
 |rangeFunc f p a b _ _=>intro st r h;simp[cQ]at h
 |goto l=>intro st r h;simp[cQ]at h
 |refuse w=>intro st r h;simp[cQ]at h
theorem NK(cf:eP): ∀(n:Nat)(c:Code)(st:St)(r:Out),(n0 cf n).2 c st=some r->fE (wrote c) st.tm r:=by
 intro n
 induction n with
 |zero=>intro c st r h;simp[n0]at h
 |succ n ih=>
  intro c st r h;have h':iN cf (n0 cf n).1 (n0 cf n).2 c st=some r:=h;unfold iN at h'
  cases he:cQ cf (n0 cf n).1 (n0 cf n).2 c st with
  |none=>simp[he]at h'
  |some q=>
   have h1:=sS ih c st q he;rw[he]at h'
   cases q with
   |norm fb=>exact(ih c fb r h').pre h1
   |exit j s=>cases h';exact h1
   |ret s=>cases h';exact h1
   |jI v hp=>cases h';trivial
theorem yV(cf:eP)(c:Code)(st:St)(r:Out)(h:je cf c st=some r):fE (wrote c) st.tm r:=by
 obtain⟨n,hn⟩:=gi h;exact NK cf n c st r hn
theorem iv{cf:eP}{c:Code}{Q:Out->Prop}{Ho:Nat->af}{Pb:aG}(I:Nat->(Nat->af)->aG->Prop)
  (round: ∀n tm hp,(∀k,(wrote c).contains k=false->tm k=Ho k)->I n tm hp->zI cf c (fun o=>match o with| .norm fb=>∃m,m<n/\I m fb.tm fb.hp|o=>Q o) ⟨tm,hp⟩):
  ∀n,I n Ho Pb-> ∃o,je cf c ⟨Ho,Pb⟩=some o/\Q o:=by
   have key: ∀n tm hp,iu (wrote c) Ho tm->I n tm hp-> ∃o,je cf c ⟨tm,hp⟩=some o/\Q o:=by
    intro n
    induction n using Nat.strongRecOn with
    |_ n ih=>
     intro tm hp ha hI;obtain⟨o,ho,h⟩:=uQ _ _ _ (round n tm hp ha hI);have hf:=sS (yV cf) c _ _ ho;rw[vL];unfold iN;simp only[ho]
     cases o with
     |norm fb=>
      obtain⟨m,hm,V0⟩:=h
      exact ih m hm fb.tm fb.hp (ha.trans hf) V0
     |exit j s=>exact⟨_,rfl,h⟩
     |ret s=>exact⟨_,rfl,h⟩
     |jI v hp=>exact⟨_,rfl,h⟩
   exact fun n hI=>key n Ho Pb (iu.refl _ _) hI
theorem kG{cf:eP}{c:Code}{Q:Out->Prop}{st:St}(h:zI cf c (fun o=>match o with| .norm fb=>∃o,je cf c fb=some o/\Q o|o=>Q o) st): ∃o,je cf c st=some o/\Q o:=by
 obtain⟨o,ho,h⟩:=uQ _ _ _ h;rw[vL];unfold iN;simp only[ho]
 cases o with
 |norm fb=>exact h
 |exit j s=>exact⟨_,rfl,h⟩
 |ret s=>exact⟨_,rfl,h⟩
 |jI v hp=>exact⟨_,rfl,h⟩
end Go.Am
set_option maxHeartbeats 4000000
namespace Go.Am
open Go
theorem Qr{cf:eP}{f:FuncId}{args:List af}{res:af}(hm:cf.M f= .P)(hp:cf.pr f=none)(ha:dc [] args=some args)(hw:Yu cf f args [] (fun r=>∃v h,r= .ret v h/\snap h v=some res)):
  ∀h,cj cf (call cf) f args h=some (.ret res h):=by
   intro h;obtain⟨r,hr,v,h1,rfl,hs⟩:=Dv hp hw;unfold cj;simp only[hm,ha,hr,hs,aaL]
theorem bw{h:aG}{b c:Bool}(hb:b=c): ∃v h1,ef.ret (.bool b) h= .ret v h1/\snap h1 v=some (.bool c):=⟨_,_,rfl,by subst hb;rfl⟩
theorem cu{h:aG}{k:IntKind}{b c:Int}(hb:b=c): ∃v h1,ef.ret (.int k b) h= .ret v h1/\snap h1 v=some (.int k c):=⟨_,_,rfl,by subst hb;rfl⟩
theorem aR{tm:Nat->af}{k:Nat}{v:af}(h:tm k=v):fX tm k v=tm:=by
 funext j
 unfold fX;split
 ·rename_i e;subst e;exact h.symm
 ·rfl
theorem EF{f:af->Option af}: ∀(l:List af),(∀x∈l,f x=some x)->di f l=some l
 | [],_=>rfl
 |x::l,h=>by simp only[di,h x (by simp),EF l fun y hy=>h y (by simp[hy])]
theorem qG{h:aG}{k sz:Nat}{es:List af}(hk:h[k]?=some (.arr sz es))(he: ∀x∈es,cI h 4194303 x=some x):snap h (.own k 0 es.length)=some (.sl es):=by
 show(match h[k]? with
  |some (.arr _ Jz)=>if 0+es.length<=Jz.length then(di (cI h 4194303) ((Jz.drop 0).take es.length)).map af.sl else none
  |_=>none)=_
 rw[hk];simp only[aaK,aah,if_true,List.drop_zero,aar];rw[EF es he];rfl
theorem gD{h h':aG}{k:Nat}{o:dH}(hk:k=h.length)(e:h'=h++[o]):h'[k]?=some o:=by subst hk;subst e;simp
theorem jo{h h':aG}{i:Nat}{o x:dH}(e:h'=h++[o])(hi:h[i]?=some x):h'[i]?=some x:=by
 subst e;rw[aaN (aag.1 hi).1];exact hi
theorem gQ{h h':aG}{i:Nat}{o x:dH}(e:h'=h.set i o)(hi:h[i]?=some x):h'[i]?=some o:=by
 subst e;simp[(aag.1 hi).1]
theorem mN{h h':aG}{i j:Nat}{o x:dH}(e:h'=h.set i o)(hj:h[j]?=some x)(yP:i≠j):h'[j]?=some x:=by
 subst e;rw[abJ yP];exact hj
theorem ib{h:aG}{i:Nat}{x:dH}(hi:h[i]?=some x):i<h.length:=(aag.1 hi).1
end Go.Am
namespace Go.Proofs.YtfepbikckfehlaaGreat
open Go Go.Am
def isN(f:FuncId):Bool:=Nat.testBit 37600825187021559899021647819060230391700235223232 f
def isF(f:FuncId):Bool:=Nat.testBit 24520022212795257110503029129778730167383740714401988608 f
def isK(f:FuncId):Bool:=Nat.testBit 0 f
def isR(f:FuncId):Bool:=Nat.testBit 41538374950485576762038754513911808 f
def isV(f:FuncId):Bool:=Nat.testBit 1427944590993413963031458960645515397679808512 f
set_option maxRecDepth 100000 in
def isX(f:FuncId):Bool:=Nat.testBit 2854495385411919762116571938898990272765493248 f
def bad(f:FuncId):Bool:=Nat.testBit 0 f
def gI(f:FuncId):Am.Mode:=bif isN f then .N else bif isF f then .F else bif isK f then .K else bif isR f then .R else bif isV f then .V else bif isX f then .X else .P
def plain(f:FuncId):Bool:=!Nat.testBit 618970019642690137986433024 f&& !bad f
def pms(id size d:Nat):Option (List Nat):=match id,size,d with
 |9,10,52=>some [0,1,2,3,4,6,7,5,8,9]
 |11,10,63=>some [0,1,2,3,4,6,7,5,8,9]
 |3,25,11=>some [0,1,2,4,5,6,7,8,9,10,11,12,13,14,15,16,17,18,19,20,3,21,22,23,24]
 |9,11,41=>some [0,1,3,4,2,5,6,7,8,9,10]
 |8,13,30=>some [0,1,2,3,9,4,5,6,7,8,10,11,12]
 |1,11,9=>some [0,1,2,4,5,6,7,9,3,8,10]
 |7,9,37=>some [0,1,3,4,6,2,5,7,8]
 |20,15,85=>some [0,1,3,4,6,7,8,10,11,12,2,5,9,13,14]
 |28,10,127=>some [0,2,3,5,6,8,1,4,7,9]
 |4,12,26=>some [0,1,2,3,4,9,5,6,7,8,10,11]
 |8,12,41=>some [0,1,2,3,4,9,5,6,7,8,10,11]
 |_,_,_=>none
def gV(g:Nat):Option af:=none
abbrev bW:=FuncId->Option (List af->aG->Option ef)
set_option maxRecDepth 100000 in
noncomputable def dZ(pr:bW):eP:={P:=Tryz.prog,M:=gI,pr:=pr,G:=gV,pm:=pms}
def UO(f:FuncId):Bool:=plain f&&(!isN f&& !isF f&& !isK f&& !isR f&& !isV f&& !isX f)
theorem zU{f:FuncId}(h:UO f=true):gI f=Am.Mode.P:=by
 unfold UO at h;simp only[xz,Bool.not_eq_true']at h;unfold gI;simp_all
structure cF(pr:bW):Prop where
 out: ∀f,plain f=true->pr f=none
noncomputable def Sq:bW:=fun f=>bif bad f then some (fun _ _=>none)else none
def dK(pr:bW)(f:FuncId)(args:List af)(res:af):Prop:=∀h,cj (dZ pr) (call (dZ pr)) f args h=some (.ret res h)
set_option maxRecDepth 100000 in
theorem cX{pr:bW}(hp:cF pr){f:FuncId}{args:List af}{res:af}(hn:UO f=true)(ha:dc [] args=some args)(hw:Yu (dZ pr) f args [] (fun r=>∃v h,r= .ret v h/\snap h v=some res)):dK pr f args res:=
 Qr (zU hn) (hp.out f (by unfold UO at hn;simp only[xz]at hn;exact hn.1)) ha hw
set_option maxRecDepth 100000 in
theorem Qs{pr:bW}{f:FuncId}{p:List af->aG->Option ef}{args:List af}{res:af}{h1:aG}(hM:gI f=Am.Mode.P)(hp:pr f=some p)(ha:dc [] args=some args)(hr:p args []=some (.ret res h1))(hs:snap h1 res=some res):dK pr f args res:=by
 intro h
 have hc:call (dZ pr) f args []=some (.ret res h1):=by
  rw[vK];unfold nJ;have:(dZ pr).pr f=some p:=hp;simp only[this,hr]
 have hm:(dZ pr).M f= .P:=hM;unfold cj;simp only[hm,ha,hc,hs,aaL]
def i64(n:Int):af:=.int .i64 n
theorem aP(j:Nat)(h:j<4611686018427387904):af.int .i64 (IntKind.i64.wrap ((j:Int)+1))=i64 ((j+1:Nat):Int):=by
 have:IntKind.i64.wrap ((j:Int)+1)=((j+1:Nat):Int):=by
  rw[aaC];omega
 rw[this];rfl
structure Cell where
 au:Int
 a:Int
 b:Int
 n:Int
def Cell.enc(c:Cell):af:=.agg [i64 c.au,i64 c.a,i64 c.b,i64 c.n]
structure Test where
 au:Int
 no:Bool
 l:Cell
 r:Cell
def Test.enc(t:Test):af:=.agg [i64 t.au,.bool t.no,i64 t.l.au,i64 t.l.a,i64 t.l.b,i64 t.l.n,i64 t.r.au,i64 t.r.a,i64 t.r.b,i64 t.r.n]
inductive aA where
 |mk (au n:Int) (aD:Test) (cells:List Cell) (a b:Int) (aq:List Int) (agg col:Int) (ao:List aA)
def aA.au:aA->Int| .mk k ..=>k
def aA.n:aA->Int| .mk _ n ..=>n
def aA.aD:aA->Test| .mk _ _ t ..=>t
def aA.cells:aA->List Cell| .mk _ _ _ c ..=>c
def aA.a:aA->Int| .mk _ _ _ _ a ..=>a
def aA.b:aA->Int| .mk _ _ _ _ _ b ..=>b
def aA.aq:aA->List Int| .mk _ _ _ _ _ _ ks ..=>ks
def aA.agg:aA->Int| .mk _ _ _ _ _ _ _ g ..=>g
def aA.col:aA->Int| .mk _ _ _ _ _ _ _ _ c _=>c
def aA.ao:aA->List aA| .mk _ _ _ _ _ _ _ _ _ k=>k
mutual
def aA.enc:aA->af
 | .mk au n aD cells a b aq agg col ao=>
  .agg [i64 au,i64 n,i64 aD.au,.bool aD.no,i64 aD.l.au,i64 aD.l.a,i64 aD.l.b,i64 aD.l.n,i64 aD.r.au,i64 aD.r.a,i64 aD.r.b,i64 aD.r.n,
   .sl (cells.map Cell.enc),i64 a,i64 b,.sl (aq.map i64),i64 agg,i64 col,.sl (aA.dv ao)]
def aA.dv:List aA->List af
 | []=>[]
 |p::ps=>p.enc::aA.dv ps
end
theorem EG(ps:List aA):aA.dv ps=ps.map aA.enc:=by
 induction ps with
 |nil=>rfl
 |cons p ps ih=>simp[aA.dv,ih]
theorem fN(ps:List aA)(j:Nat):(aA.dv ps)[j]?=(ps[j]?).map aA.enc:=by rw[EG,aba]
theorem eH(ps:List aA):(aA.dv ps).length=ps.length:=by rw[EG,aat]
mutual
def aA.sz:aA->Nat
 | .mk au n aD cells a b aq agg col ao=>cells.length+aq.length+ao.length+aA.wu ao
def aA.wu:List aA->Nat
 | []=>0
 |p::ps=>p.sz+aA.wu ps
end
def aA.small(p:aA):Prop:=p.sz<=1048576
theorem EH{q:aA}: ∀{ps:List aA},q∈ps->q.sz<=aA.wu ps
 |p::ps,h=>by
  simp only[aA.wu];rcases aaz.1 h with rfl|h
  ·omega
  ·have:=EH h;omega
theorem eE{au n:Int}{aD:Test}{cells:List Cell}{a b:Int}{aq:List Int}{agg col:Int}{ao:List aA}(h:(aA.mk au n aD cells a b aq agg col ao).small):
  cells.length<=1048576/\aq.length<=1048576/\ao.length<=1048576/\ ∀q∈ao,q.small:=by
   simp only[aA.small,aA.sz]at h;exact⟨by omega,by omega,by omega,fun q hq=>by have:=EH hq;simp only[aA.small];omega⟩
end Go.Proofs.YtfepbikckfehlaaGreat
set_option maxHeartbeats 4000000
namespace Go.Proofs.YtfepbikckfehlaaGreat
open Go Go.Am
set_option maxRecDepth 100000 in
theorem wv:Xs Tryz.prog 38=some [.i,.b,.i,.i,.i,.i,.i,.i,.i,.i]:=by kernel_rfl
set_option maxRecDepth 100000 in
theorem A0:Xs Tryz.prog 36=some [.i,.i,.i,.i]:=by kernel_rfl
theorem yW(k:Int):k=1∨k=2∨k=3∨((k==1)=false/\(k==2)=false/\(k==3)=false):=by
 simp only[beq_eq_false_iff_ne,ne_eq];omega
variable{pr:bW}(hp:cF pr)
def col(n wide:Int):Bool:=decide (0<=n)&&(decide (n<wide)&&decide (n<6))
set_option maxRecDepth 100000
theorem kS(hp:cF pr)(n wide:Int):dK pr 124 [i64 n,i64 wide] (.bool (col n wide)):=by
 refine cX hp rfl rfl ?_
 iterate 4
  all_goals(try(conv=>whnf))
  all_goals(first|(refine ae (fun hb=>?_) (fun hb=>?_))|skip)
 all_goals exact bw (by first|(simp_all[col];done)|(simp_all[col];omega)|(simp_all[col];intros;omega))
def bQ(n:Int):Bool:=decide (-1000000000<=n)&&decide (n<=1000000000)
theorem wx(hp:cF pr)(n:Int):dK pr 94 [i64 n] (.bool (bQ n)):=by
 refine cX hp rfl rfl ?_
 iterate 3
  all_goals(try(conv=>whnf))
  all_goals(first|(refine ae (fun hb=>?_) (fun hb=>?_))|skip)
 all_goals exact bw (by first|(simp_all[bQ];done)|(simp_all[bQ];omega)|(simp_all[bQ];intros;omega))
def fe(c:Cell)(wide:Int):Bool:=
 if c.au=1 then col c.a wide&&(c.b==0&&c.n==0)
 else if c.au=2 then c.a==0&&(c.b==0&&bQ c.n)
 else if c.au=3 then col c.a wide&&(col c.b wide&&c.n==0)
 else false
theorem tO(hp:cF pr)(c:Cell)(wide:Int):dK pr 141 [c.enc,i64 wide] (.bool (fe c wide)):=by
 obtain⟨k,a,b,n⟩:=c;refine cX hp rfl rfl ?_
 iterate 10
  all_goals(try(conv=>whnf))
  all_goals(first|(refine ae (fun hb=>?_) (fun hb=>?_))|(refine⟨_,kS hp _ _ _,?_⟩)|(refine⟨_,wx hp _ _,?_⟩)|skip)
 all_goals exact bw (by first|(simp_all[fe];done)|(simp_all[fe];omega)|(simp_all[fe];intros;omega))
def kZ(t:Test)(wide:Int):Bool:=(t.au==1||t.au==2)&&(fe t.l wide&&fe t.r wide)
theorem oa(hp:cF pr)(t:Test)(wide:Int):dK pr 122 [t.enc,i64 wide] (.bool (kZ t wide)):=by
 obtain⟨k,no,l,r⟩:=t;refine cX hp rfl rfl ?_
 iterate 10
  all_goals(try(conv=>whnf))
  all_goals(first|(refine ae (fun hb=>?_) (fun hb=>?_))|(refine⟨_,tO hp l _ _,?_⟩)|(refine⟨_,tO hp r _ _,?_⟩)|skip)
 all_goals exact bw (by first|(simp_all[kZ];done)|(simp_all[kZ];omega)|(simp_all[kZ];intros;omega))
end Go.Proofs.YtfepbikckfehlaaGreat
set_option maxHeartbeats 4000000
namespace Go.Proofs.YtfepbikckfehlaaGreat
open Go Go.Am
variable{pr:bW}(hp:cF pr)
set_option maxRecDepth 100000
def j9(xs:List Cell)(wide:Int):Bool:=xs.all (fun c=>fe c wide)&&(decide (1<=xs.length)&&decide (xs.length<=6))
theorem qH(hp:cF pr)(xs:List Cell)(wide:Int)(hl:xs.length<=1048576):dK pr 123 [.sl (xs.map Cell.enc),i64 wide] (.bool (j9 xs wide)):=by
 refine cX hp rfl rfl ?_;conv=>whnf
 refine eD (fun m st=>∃j:Nat,j+m=xs.length/\st.tm 0= .sl (xs.map Cell.enc)/\st.tm 1=i64 wide/\st.tm 5=i64 j/\st.hp=[]/\xs.all (fun c=>fe c wide)=(xs.drop j).all (fun c=>fe c wide)) (fun m st hI=>?_) (xs.length) _ ⟨0,by simp,(by first|kernel_rfl|rfl|simp),(by first|kernel_rfl|rfl|simp),(by first|kernel_rfl|rfl|simp),(by first|kernel_rfl|rfl|simp),(by first|rfl|simp)⟩;obtain⟨j,hj,e0,e1,e5,hh,aF⟩:=hI;obtain⟨tm,hq⟩:=st;simp only at e0 e1 e5 hh;subst hh;rw[show tm=fX (fX (fX tm 0 (.sl (xs.map Cell.enc))) 1 (i64 wide)) 5 (i64 j) by rw[aR e0,aR e1,aR e5]];clear e0 e1 e5;conv=>whnf
 refine ae (fun h1=>?_) (fun h1=>?_)
 ·have bp:j<xs.length:=by simpa using h1
  rw[aaf bp,abi]at aF;conv=>whnf
  refine⟨(xs[j]).enc,by simp[bp],by omega,rfl,?_⟩;conv=>whnf
  refine⟨_,tO hp xs[j] wide _,?_⟩;conv=>whnf
  refine ae (fun h2=>?_) (fun h2=>?_)
  ·conv=>whnf
   exact⟨m-1,by omega,j+1,by omega,rfl,rfl,aP j (by omega),rfl,by rw[aF,h2];rfl⟩
  ·conv=>whnf
   exact bw (by simp[j9,aF,h2])
 ·have bp:j=xs.length:=by have: ¬j<xs.length:=by simpa using h1
                          omega
  subst bp;rw[aal]at aF;conv=>whnf
  iterate 3
   all_goals(try(conv=>whnf))
   all_goals(first|(refine ae (fun hb=>?_) (fun hb=>?_))|skip)
  all_goals exact bw (by first|(simp_all[j9];done)|(simp_all[j9];omega)|(simp_all[j9];intros;omega))
def ld(pre:List Int)(wide:Int):List Int->Bool
 | []=>true
 |x::xs=>col x wide&&(!(pre.contains x)&&ld (pre++[x]) wide xs)
def eU(xs:List Int)(wide:Int):Bool:=ld [] wide xs&&decide (xs.length<6)
theorem CD{xs:List Int}{k:Nat}{x:Int}(h:k<xs.length):(xs.drop k).contains x=(xs[k]==x||(xs.drop (k+1)).contains x):=by
 rw[aaf h,List.contains_cons,BEq.comm]
theorem m9(hp:cF pr)(xs:List Int)(wide:Int)(hl:xs.length<=1048576):dK pr 125 [.sl (xs.map i64),i64 wide] (.bool (eU xs wide)):=by
 refine cX hp rfl rfl ?_;conv=>whnf
 refine eD (fun m st=>∃j:Nat,j+m=xs.length/\st.tm 0= .sl (xs.map i64)/\st.tm 1=i64 wide/\st.tm 5=i64 j/\st.hp=[]/\ld [] wide xs=ld (xs.take j) wide (xs.drop j)) (fun m st hI=>?_) (xs.length) _ ⟨0,by simp,(by first|kernel_rfl|rfl|simp),(by first|kernel_rfl|rfl|simp),(by first|kernel_rfl|rfl|simp),(by first|kernel_rfl|rfl|simp),(by first|rfl|simp)⟩;obtain⟨j,hj,e0,e1,e5,hh,aF⟩:=hI;obtain⟨tm,hq⟩:=st;simp only at e0 e1 e5 hh;subst hh;rw[show tm=fX (fX (fX tm 0 (.sl (xs.map i64))) 1 (i64 wide)) 5 (i64 j) by rw[aR e0,aR e1,aR e5]];clear e0 e1 e5;conv=>whnf
 refine ae (fun h1=>?_) (fun h1=>?_)
 ·have bp:j<xs.length:=by simpa using h1
  have hjg:(xs.map i64)[((j:Nat):Int).toNat]?=some (i64 xs[j]):=by simp[bp]
  rw[aaf bp]at aF;simp only[ld]at aF;conv=>whnf
  refine⟨i64 xs[j],hjg,by omega,rfl,?_⟩;conv=>whnf
  refine⟨_,kS hp xs[j] wide _,?_⟩;conv=>whnf
  refine ae (fun h2=>?_) (fun h2=>?_)
  ·rw[h2,aay]at aF;conv=>whnf
   refine eD (fun m' st=>∃k:Nat,k+m'=j/\st.tm 0= .sl (xs.map i64)/\st.tm 1=i64 wide/\st.tm 5=i64 (j:Nat)/\st.tm 6=i64 (k:Nat)/\st.hp=[]/\(xs.take j).contains xs[j]=((xs.take j).drop k).contains xs[j]) (fun m' st hI=>?_) j _ ⟨0,by omega,rfl,rfl,rfl,rfl,rfl,rfl⟩;obtain⟨k,hk,e0,e1,e5,e6,hh,Hp⟩:=hI;obtain⟨tm,hq⟩:=st;simp only at e0 e1 e5 e6 hh;subst hh;rw[show tm=fX (fX (fX (fX tm 0 (.sl (xs.map i64))) 1 (i64 wide)) 5 (i64 (j:Nat))) 6 (i64 (k:Nat)) by rw[aR e0,aR e1,aR e5,aR e6]];clear e0 e1 e5 e6;conv=>whnf
   refine ae (fun h3=>?_) (fun h3=>?_)
   ·have Sr:k<j:=by simpa using h3
    have hkg:(xs.map i64)[((k:Nat):Int).toNat]?=some (i64 xs[k]):=by simp[show k<xs.length by omega]
    have hkt:k<(xs.take j).length:=by simp;omega
    rw[CD hkt]at Hp;have kD:(xs.take j)[k]=xs[k]:=by simp
    rw[kD]at Hp;conv=>whnf
    refine⟨i64 xs[k],hkg,by omega,rfl,?_⟩;conv=>whnf
    refine⟨i64 xs[j],hjg,by omega,rfl,?_⟩;conv=>whnf
    refine ae (fun h4=>?_) (fun h4=>?_)
    ·conv=>whnf
     refine bw ?_;rw[h4,Bool.true_or]at Hp;rw[eU,aF,Hp];rfl
    ·rw[h4,Bool.false_or]at Hp;conv=>whnf
     exact⟨m'-1,by omega,k+1,by omega,rfl,rfl,rfl,aP k (by omega),rfl,Hp⟩
   ·have Sr:k=j:=by have: ¬k<j:=by simpa using h3
                    omega
    subst Sr;conv=>whnf
    have hd:(xs.take k).drop k=[]:=by simp
    rw[hd]at Hp;refine⟨m-1,by omega,k+1,by omega,rfl,rfl,aP k (by omega),rfl,?_⟩;have vE:xs.take (k+1)=xs.take k++[xs[k]]:=(List.take_append_getElem bp).symm;rw[aF,Hp,vE];rfl
  ·conv=>whnf
   exact bw (by simp[eU,aF,h2])
 ·have bp:j=xs.length:=by have: ¬j<xs.length:=by simpa using h1
                          omega
  subst bp;rw[aal]at aF;simp only[ld]at aF;conv=>whnf
  refine ae (fun h2=>?_) (fun h2=>?_)
  ·conv=>whnf
   exact bw (by rw[eU,aF,aay];clear aF;simp at h2⊢;omega)
  ·conv=>whnf
   exact bw (by rw[eU,aF,aay];clear aF;simp at h2⊢;omega)
def many:Nat->aA->Nat
 |0,_=>1
 |d+1,p=>1+(p.ao.map (many d)).sum
theorem To: ∀(N:Nat)(p:aA),SizeOf.sizeOf p<=N-> ∀d,many d p<=p.sz+1:=by
 intro N
 induction N with
 |zero=>intro p h;cases p;simp at h
 |succ N ih=>
  intro p hs d
  cases d with
  |zero=>simp only[many];omega
  |succ d=>
   obtain⟨au,n,aD,cells,a,b,aq,agg,col,ao⟩:=p;simp only[many,aA.ao,aA.sz];simp at hs
   have: ∀l:List aA,SizeOf.sizeOf l<=N+1->(l.map (many d)).sum<=l.length+aA.wu l:=by
    intro l
    induction l with
    |nil=>intro _;simp[aA.wu]
    |cons q l XJ=>
     intro h;simp at h;have h1:=ih q (by omega) d;have h2:=XJ (by omega);simp only[aao,List.sum_cons,aak,aA.wu];omega
   have:=this ao (by omega);omega
theorem Qt{l:List Nat}{j:Nat}(h:j<l.length):(l.take (j+1)).sum=(l.take j).sum+l[j]:=by
 rw[List.take_add_one,List.sum_append];simp[h]
theorem Hq{l:List Nat}(j:Nat):(l.take j).sum<=l.sum:=by
 have:=congrArg List.sum (List.take_append_drop j l);rw[List.sum_append]at this;omega
theorem Hr(hp:cF pr): ∀(d:Nat)(p:aA),p.small->d<=6->dK pr 95 [p.enc,i64 d] (i64 (many d p)):=by
 intro d
 induction d with
 |zero=>
  intro p gu _;obtain⟨au,n,aD,cells,a,b,aq,agg,col,ao⟩:=p;refine cX hp rfl rfl ?_;conv=>whnf
  refine eD (fun m st=>st.tm=fX (fX (fX (fX (lP [(aA.mk au n aD cells a b aq agg col ao).enc,i64 0]) 2 (.ptr 0 0 0)) 4 (i64 0)) 5 (i64 1)) 6 (i64 0)/\st.hp=[.box (aA.mk au n aD cells a b aq agg col ao).enc]) (fun m st hI=>?_) 0 _ ⟨rfl,rfl⟩;obtain⟨tm,hq⟩:=st;obtain⟨e1,e2⟩:=hI;simp only at e1 e2;subst e1 e2
  iterate 4
   all_goals(try(conv=>whnf))
   all_goals(first|(refine ae (fun hb=>?_) (fun hb=>?_))|skip)
  all_goals exact⟨_,_,rfl,rfl⟩
 |succ d ih=>
  intro p gu hd;have hle:=To _ p (aah _) (d+1);have aaV:=gu;simp only[aA.small]at aaV;obtain⟨au,n,aD,cells,a,b,aq,agg,col,ao⟩:=p;simp only[many,aA.ao]at hle⊢;obtain⟨sc,lf,gS,gE⟩:=eE gu;refine cX hp rfl rfl ?_;conv=>whnf
  have dN: ∀j,((ao.map (many d)).take j).sum<=(ao.map (many d)).sum:=fun j=>Hq j;refine eD (fun m st=>∃j:Nat,j+m=ao.length/\st.tm 1=i64 ((d+1:Nat):Int)/\st.tm 2= .ptr 0 0 0/\st.tm 5=i64 ((1+((ao.map (many d)).take j).sum:Nat):Int)/\st.tm 6=i64 (j:Nat)/\st.hp=[.box (aA.mk au n aD cells a b aq agg col ao).enc]) (fun m st hI=>?_) (ao.length) _ ⟨0,by simp,(by first|kernel_rfl|rfl|simp),(by first|kernel_rfl|rfl|simp),(by first|kernel_rfl|rfl|simp),(by first|kernel_rfl|rfl|simp),(by first|kernel_rfl|rfl|simp)⟩;obtain⟨j,hj,e1,e2,e5,e6,hh⟩:=hI;obtain⟨tm,hq⟩:=st;simp only at e1 e2 e5 e6 hh;subst hh;rw[show tm=fX (fX (fX (fX tm 1 (i64 ((d+1:Nat):Int))) 2 (.ptr 0 0 0)) 5 (i64 ((1+((ao.map (many d)).take j).sum:Nat):Int))) 6 (i64 (j:Nat)) by rw[aR e1,aR e2,aR e5,aR e6]];clear e1 e2 e5 e6;conv=>whnf
  refine ae (fun h1=>?_) (fun h1=>?_)
  ·have bp:j<ao.length:=by have:j<(aA.dv ao).length:=by simpa using h1
                           rwa [eH]at this
   have Gf:decide (((d+1:Nat):Int)>0)=true:=by simp
   conv=>whnf
   refine fS Gf ?_;conv=>whnf
   have hq:SizeOf.sizeOf ao[j]=SizeOf.sizeOf ao[j]:=rfl;have eZ:=ih ao[j] (gE _ (aac bp)) (by omega);have dw:(aA.dv ao)[((j:Nat):Int).toNat]?=some ao[j].enc:=by rw[aaa,fN,aab bp];rfl
   have zJ:=Qt (l:=ao.map (many d)) (j:=j) (by simpa using bp);have EI:=dN (j+1);rw[List.getElem_map]at zJ;generalize ao[j]=q at eZ dw zJ;obtain⟨cG,n',dq,bR,a',b',cH,dE,ke,cE⟩:=q;refine⟨_,dw,by omega,rfl,?_⟩;conv=>whnf
   have hw:af.int .i64 (IntKind.i64.wrap (((d+1:Nat):Int)-1))=i64 (d:Nat):=by
    have:IntKind.i64.wrap (((d+1:Nat):Int)-1)=(d:Nat):=by rw[aaC];omega
    rw[this];rfl
   have aaW:dK pr 95 [(aA.mk cG n' dq bR a' b' cH dE ke cE).enc,af.int .i64 (IntKind.i64.wrap (((d+1:Nat):Int)-1))] (i64 (many d (aA.mk cG n' dq bR a' b' cH dE ke cE))):=by rw[hw];exact eZ
   refine⟨_,aaW _,?_⟩;conv=>whnf
   refine⟨m-1,by omega,j+1,by omega,rfl,rfl,?_,aP j (by omega),rfl⟩;refine Eq.trans (b:=af.int .i64 (IntKind.i64.wrap (((1+((ao.map (many d)).take j).sum:Nat):Int)+(many d (aA.mk cG n' dq bR a' b' cH dE ke cE):Nat)))) (by kernel_rfl) ?_
   have:IntKind.i64.wrap (((1+((ao.map (many d)).take j).sum:Nat):Int)+(many d (aA.mk cG n' dq bR a' b' cH dE ke cE):Nat))=((1+((ao.map (many d)).take (j+1)).sum:Nat):Int):=by
    rw[aaC];omega
   rw[this];rfl
  ·have bp:j=ao.length:=by have: ¬j<(aA.dv ao).length:=by simpa using h1
                           rw[eH]at this;omega
   subst bp;conv=>whnf
   exact cu (by congr 2;rw[abt (by simp)])
end Go.Proofs.YtfepbikckfehlaaGreat

/- Plans in rows of one's own. -/
import Derived.Test.YtfepbikckfehlaaGreatGSBmW
import Derived.Test.YtfepbikckfehlaaGreatGSBmS
import Derived.Test.YtfepbikckfehlaaGreatRows
set_option linter.unusedVariables false
set_option linter.unusedSimpArgs false
set_option maxHeartbeats 4000000
namespace Go.Am
open Go
def WA(P:Program)(t:TypeId):Option Bool:=match P.underlying t with
 |some d=>match d with
  | .bool=>some true
  | .struct _=>some false
  | .array _ _=>some false
  |_=>none
 |none=>none
def E9(P:Program)(t:TypeId)(v:af)(K:af->Prop):Prop:=match WA P t with
 |some true=>Ox v K
 |some false=>jj v K
 |none=>K v
theorem ph{P:Program}{t:TypeId}{v:af}{K:af->Prop}(h:E9 P t v K):K v:=by
 unfold E9 at h;split at h
 ·exact iT h
 ·exact fE h
 ·exact h
def zx(P:Program)(t:TypeId)(off:Nat)(K:af->Prop)(x:af):Prop:=match ff P t x off with
 |some v=>K v
 |none=>False
theorem eV{P:Program}{t:TypeId}{off:Nat}{K:af->Prop}{x v:af}(hv:ff P t x off=some v)(hk:K v):zx P t off K x:=by
 unfold zx;rw[hv];exact hk
def pj(K:List af->Prop)(us:List af):Prop:=K us
def C6(v:af)(K:List af->Prop):Prop:=match v with
 | .int k n=>pj K ([.int k n])
 | .bool b=>pj K ([.bool b])
 | .str s=>pj K ([.str s])
 | .nil=>pj K ([.nil])
 | .sl xs=>pj K ([.sl xs])
 | .eY xs i off=>pj K ([.eY xs i off])
 | .qZ=>pj K ([.qZ])
 | .pN=>pj K ([.pN])
 | .x9=>pj K ([.x9])
 | .pO=>pj K ([.pO])
 | .own id st len=>pj K ([.own id st len])
 | .ptr id i off=>pj K ([.ptr id i off])
 | .map id=>pj K ([.map id])
 | .mQ ks vs=>pj K ([.mQ ks vs])
 | .it id=>pj K ([.it id])
 | .func fn a b=>pj K ([.func fn a b])
 | .iface t v=>pj K ([.iface t v])
 | .gv g t=>pj K ([.gv g t])
 | .agg cs=>pj K cs
 | .dX vs=>pj K ([.dX vs])
theorem xt{v:af}{K:List af->Prop}(h:C6 v K):K v.cells:=by cases v<;>exact h
theorem dE{v:af}{cs:List af}{K:List af->Prop}(hv:v.cells=cs)(h:K cs):C6 v K:=by subst hv;cases v<;>exact h
def Ky(pl:Nat->Option (Nat×Nat)):List af->List (Nat×af)->(List af->Prop)->Prop
 |cs,[],K=>K cs
 |cs,(i,v)::r,K=>match pl i with
  |some (off,sz)=>C6 v fun us=>match Nat.decEq us.length sz,Nat.decLe (off+sz) cs.length with
   |isTrue _,isTrue _=>Ky pl (cs.take off++(us++cs.drop (off+sz))) r K
   |_,_=>False
  |none=>False
theorem zy{pl:Nat->Option (Nat×Nat)}: ∀{vs:List (Nat×af)}{cs:List af}{K:List af->Prop},Ky pl cs vs K-> ∃WB,jU pl cs vs=some WB/\K WB
 | [],cs,K,h=>⟨cs,rfl,h⟩
 |(i,v)::r,cs,K,h=>by
  simp only[Ky]at h;simp only[jU];split at h
  ·rename_i off sz yt;have h:=xt h;split at h
   ·rename_i h1 h2 _ _;obtain⟨WB,e,hk⟩:=zy h;exact⟨WB,by simp only[yt];rw[if_pos ⟨h1,h2⟩];exact e,hk⟩
   ·exact h.elim
  ·exact h.elim
def OD(sz:Nat):List af->List (Nat×af)->(List af->Prop)->Prop
 |es,[],K=>qc es K
 |es,(i,v)::r,K=>C6 v fun us=>match Nat.decLt i es.length,Nat.decEq us.length sz with
  |isTrue _,isTrue _=>OD sz (es.set i v) r K
  |_,_=>False
theorem vY{sz:Nat}: ∀{vs:List (Nat×af)}{es:List af}{K:List af->Prop},OD sz es vs K-> ∃HE,jr es sz vs=some HE/\K HE
 | [],es,K,h=>⟨es,rfl,lK h⟩
 |(i,v)::r,es,K,h=>by
  simp only[OD]at h;simp only[jr];have h:=xt h;split at h
  ·rename_i h1 h2 _ _;obtain⟨HE,e,hk⟩:=vY h;exact⟨HE,by rw[if_pos ⟨h1,h2⟩];exact e,hk⟩
  ·exact h.elim
def Rj(cf:dS)(tm:Nat->af)(h:aC)(o:Op)(K:af->aC->Prop):Prop:=
 match o with
 | .load t a=>match ev cf.G tm a with
  |some (.ptr id i off)=>Y7 h id i fun _ x=>zx cf.P t off (K · h) x
  |some (.eY xs i off)=>match xs[i]? with
   |some x=>zx cf.P t off (K · h) x
   |none=>False
  |_=>False
 | .build t ps=>match jo cf.P t,cp (fun p=>(ev cf.G tm p.2).map fun v=>(p.1,v)) ps.toList,yk cf.P t with
  |some z,some vs,true=>Ky (yL cf.P t) z.cells vs fun cs=>K (.agg cs) h
  |_,_,_=>False
 | .buildSlice t n ps=>match kT cf.P t,cp (fun p=>(ev cf.G tm p.2).map fun v=>(p.1,v)) ps.toList,Nat.decLe n 4096 with
  |some (et,sz),some vs,isTrue _=>match Nat.decLe sz 4096,jo cf.P et with
   |isTrue _,some z=>match Nat.decEq z.cells.length sz with
    |isTrue _=>match n with
     |0=>OD sz [] vs fun _=>K .nil h
     |_+1=>OD sz (List.replicate n z) vs fun es=>∀k h',k=h.length->h'=h++[.arr sz es]->K (.own k 0 es.length) h'
    |isFalse _=>False
   |_,_=>False
  |_,_,_=>False
 | .slice t x lo hi none=>match ev cf.G tm x with
  |some (.own id st len)=>match kT cf.P t,t9 cf.G tm lo,t9 cf.G tm hi with
   |some (_,sz),some l,some u=>∃es,h[id]?=some (.arr sz es)/\(0<=l.getD 0/\l.getD 0<=u.getD len/\u.getD len<=len)/\K (.own id (st+(l.getD 0).toNat) ((u.getD len).toNat-(l.getD 0).toNat)) h
   |_,_,_=>False
  |_=>LU cf tm h (.slice t x lo hi none) K
 | .call {callee:=.builtin .len,args,argTypes}=>match cp (ev cf.G tm) args.toList,(argTypes[0]?).bind cf.P.underlying with
  |some [x],some d=>match d with
   | .slice _=>match x with
    | .sl xs=>K (.int .i64 xs.length) h
    | .own _ _ n=>K (.int .i64 n) h
    | .nil=>K (.int .i64 0) h
    |_=>False
   | .string=>match x with
    | .str s=>K (.int .i64 s.size) h
    |_=>False
   |_=>LU cf tm h (.call {callee:=.builtin .len,args,argTypes}) K
  |_,_=>False
 |o=>LU cf tm h o K
theorem zz{cf:dS}{tm:Nat->af}{h:aC}{o:Op}{K:af->aC->Prop}(hw:Rj cf tm h o K): ∃v h',aT cf tm h o=some (.val v h')/\K v h':=by
 unfold Rj at hw;split at hw
 ·rename_i t a;split at hw
  ·rename_i id i off ha;rcases hw with⟨x,ho,y9,hw⟩|⟨sz,es,x,ho,y9,hw⟩
   ·unfold zx at hw;split at hw
    ·rename_i v hv;exact⟨v,h,by simp only[aT,ha,jq,ho,y9,if_true,hv];rfl,hw⟩
    ·exact hw.elim
   ·unfold zx at hw;split at hw
    ·rename_i v hv;exact⟨v,h,by simp only[aT,ha,jq,ho,y9,hv];rfl,hw⟩
    ·exact hw.elim
  ·rename_i xs i off ha;split at hw
   ·rename_i x hx;unfold zx at hw;split at hw
    ·rename_i v hv;exact⟨v,h,by simp only[aT,ha,jq,hx,hv];rfl,hw⟩
    ·exact hw.elim
   ·exact hw.elim
  ·exact hw.elim
 ·rename_i t ps;split at hw
  ·rename_i z vs hz sF Rg;obtain⟨cs,e,hk⟩:=zy hw;exact⟨.agg cs,h,by simp only[aT,hz,sF,Rg,e];rfl,hk⟩
  ·exact hw.elim
 ·rename_i t n ps;split at hw
  ·rename_i et sz vs hn hs sF _;split at hw
   ·rename_i je z _ hz;split at hw
    ·rename_i hl
     cases n with
     |zero=>
      obtain⟨es,e,hk⟩:=vY hw;have e':jr (List.replicate 0 z) sz vs=some es:=e
      exact⟨_,_,by simp only[aT,hs,sF];rw[if_pos ⟨hn,je⟩];simp only[hz,e'];rw[if_pos ‹_›];rfl,hk⟩
     |succ n=>
     obtain⟨es,e,hk⟩:=vY hw;exact⟨_,_,by simp only[aT,hs,sF];rw[if_pos ⟨hn,je⟩];simp only[hz,e];rw[if_pos ‹_›];rfl,hk _ _ rfl rfl⟩
    ·exact hw.elim
   ·exact hw.elim
  ·exact hw.elim
 ·rename_i t x lo hi;split at hw
  ·rename_i id st len hx;split at hw
   ·rename_i tt sz l u hs hl hu;obtain⟨es,ho,hc,hk⟩:=hw;exact⟨_,h,by simp only[aT,hx,hl,hu,lZ,hs,ho];rw[if_pos ⟨hc.1,hc.2.1,hc.2.2,trivial⟩];rfl,hk⟩
   ·exact hw.elim
  ·exact qd hw
 ·rename_i args argTypes;split at hw
  ·rename_i x d ha ht;split at hw
   ·split at hw
    ·exact⟨_,_,by simp only[aT,cI,ha,ht,tY],hw⟩
    ·exact⟨_,_,by simp only[aT,cI,ha,ht,tY],hw⟩
    ·exact⟨_,_,by simp only[aT,cI,ha,ht,tY],hw⟩
    ·exact hw.elim
   ·split at hw
    ·refine⟨_,_,?_,hw⟩;simp only[aT,cI,ha,ht,tY]
    ·exact hw.elim
   ·exact qd hw
  ·exact hw.elim
 ·exact qd hw
def Y9(P:Program)(t:TypeId)(r:dz)(K:af->aC->Prop)(Q:Out->Prop):Prop:=match r with
 | .ret v h=>E9 P t v (K · h)
 | .iK v h=>Q (.iK v h)
def Rk(cf:dS)(d:Bool)(o:Oper)(tm:Nat->af)(hp:aC)(K:(Nat->af)->aC->Prop)(Q:Out->Prop):Prop:=
 match rB o.op with
 |true=>match aT cf tm hp o.op with
  |some (.call f args)=>match d&&(ya o.op&& !re (cf.M f))with
   |true=>False
   |false=>∃r,bN cf (call cf) f args hp=some r/\Y9 cf.P o.type r (fun v h=>l9 tm o.dst v fun tm=>K tm h) Q
  |some (.iK v)=>Q (.iK v hp)
  |_=>False
 |false=>Rj cf tm hp o.op fun v h=>E9 cf.P o.type v fun v=>l9 tm o.dst v fun tm=>K tm h
def IG(cf:dS)(d:Bool)(ops:Array Oper)(Q:Out->Prop):List Oper->(Nat->af)->aC->Prop
 | [],tm,hp=>Q (.norm ⟨tm,hp⟩)
 |o::rest,tm,hp=>match dP ops o tm with
  |none=>Rk cf d o tm hp (BU cf d ops o rest.length (IG cf d ops Q rest)) Q
  |some t=>qa t (Rk cf d o tm hp (BU cf d ops o rest.length (IG cf d ops Q rest)) Q) (l9 tm o.dst (.dX []) fun tm=>IG cf d ops Q rest tm hp)
def yg(cf:dS):Code->(Out->Prop)->St->Prop
 | .skip,Q,st=>Q (.norm st)
 | .region id ops d,Q,st=>match st with
  |⟨tm,hp⟩=>OB cf.pm id ops d fun ops=>IG cf d ops (fun o=>match d,o with
   |true,.norm st=>Q (.norm st)
   |true,_=>False
   |false,o=>Q o) ops.toList tm hp
 | .seq a b,Q,st=>yg cf a (fun o=>match o with
  | .norm d8=>yg cf b Q d8
  |o=>Q o) st
 | .cond c a b,Q,st=>match ev cf.G st.tm c with
  |some (.bool t)=>qa t (yg cf a Q st) (yg cf b Q st)
  |_=>False
 | .block id c,Q,st=>yg cf c (fun o=>match o with
  | .exit j d8=>match Nat.decEq j id with
   |isTrue _=>Q (.norm d8)
   |isFalse _=>Q (.exit j d8)
  |o=>Q o) st
 | .loop c,Q,st=>∃o,gY cf c st=some o/\Q o
 | .exit id,Q,st=>Q (.exit id st)
 | .scope c,Q,st=>yg cf c Q st
 | .label _,Q,st=>Q (.norm st)
 | .ret,Q,st=>Q (.ret st)
 |_,_,_=>False
def Fe(cf:dS)(f:FuncId)(args:List af)(h:aC)(Q:dz->Prop):Prop:=
 match cf.P.funcs[f]? with
 |some fn=>match fn.body with
  |some c=>yg cf c (fun o=>∃r,oZ cf.P fn (some o)=some r/\Q r) ⟨ko args,h⟩
  |none=>False
 |none=>False
theorem zA{cf:dS}{d:Bool}{o:Oper}{tm:Nat->af}{hp:aC}{K:(Nat->af)->aC->Prop}{K':St->Option Out}{Q:Out->Prop}(hK: ∀tm hp,K tm hp-> ∃r,K' ⟨tm,hp⟩=some r/\Q r)(hw:Rk cf d o tm hp K Q):
  ∃r,eJ cf (call cf) d o ⟨tm,hp⟩ K'=some r/\Q r:=by
   unfold Rk at hw;split at hw
   ·split at hw
    ·rename_i f args hv;split at hw
     ·exact hw.elim
     ·rename_i hg;obtain⟨r,hr,hw⟩:=hw
      cases r with
      |ret v h=>
       obtain⟨r,h1,h2⟩:=hK _ _ (iL (K:=fun tm=>K tm h) (ph (K:=fun v=>l9 tm o.dst v fun tm=>K tm h) hw))
       exact⟨r,by unfold eJ;simp only[hv,hg,hr];exact h1,h2⟩
      |iK v h=>exact⟨.iK v h,by unfold eJ;simp only[hv,hg,hr],hw⟩
    ·rename_i v hv;exact⟨.iK v hp,by unfold eJ;simp only[hv],hw⟩
    ·exact hw.elim
   ·obtain⟨v,h',hv,hk⟩:=zz hw;obtain⟨r,h1,h2⟩:=hK _ _ (iL (K:=fun tm=>K tm h') (ph (K:=fun v=>l9 tm o.dst v fun tm=>K tm h') hk));exact⟨r,by unfold eJ;simp only[hv];exact h1,h2⟩
theorem IH{cf:dS}{d:Bool}{ops:Array Oper}{Q:Out->Prop}: ∀(l:List Oper)(tm:Nat->af)(hp:aC),IG cf d ops Q l tm hp-> ∃o,jh cf (call cf) d ops l ⟨tm,hp⟩=some o/\Q o:=by
 intro l
 induction l with
 |nil=>intro tm hp h;exact⟨_,rfl,h⟩
 |cons o rest ih=>
  intro tm hp h;unfold IG at h;simp only[jh]
  cases hg:dP ops o tm with
  |none=>simp only[hg]at h⊢;exact zA (oh ih) h
  |some t=>
   simp only[hg]at h⊢;rcases eP h with⟨rfl,h⟩|⟨rfl,h⟩
   ·obtain⟨r,h1,h2⟩:=zA (oh ih) h
    by_cases hp:jD o.op=true
    ·rw[if_pos hp];obtain⟨v,hv,hk⟩:=tq hp h1;have hk:=(kn hk).1;exact⟨r,by simp only[Ej,hv];exact hk,h2⟩
    ·rw[if_neg hp];exact⟨r,h1,h2⟩
   ·obtain⟨r,h1,h2⟩:=ih _ _ (iL (K:=fun tm=>IG cf d ops Q rest tm hp) h)
    by_cases hp:jD o.op=true
    ·rw[if_pos hp];exact⟨r,h1,h2⟩
    ·rw[if_neg hp];exact⟨r,h1,h2⟩
theorem tu{cf:dS}: ∀(c:Code)(Q:Out->Prop)(st:St),yg cf c Q st-> ∃o,bW cf (call cf) (gY cf) c st=some o/\Q o:=by
 intro c
 induction c with
 |skip=>intro Q st h;exact⟨_,rfl,h⟩
 |region id ops d=>
  intro Q st h;simp only[yg]at h;replace h:=vW h;obtain⟨o,ho,hq⟩:=IH _ _ _ h;refine⟨o,?_,?_⟩
  ·simp only[bW,ho]
   cases d with
   |false=>rfl
   |true=>cases o<;>first|rfl|exact hq.elim
  ·cases d with
   |false=>cases o<;>exact hq
   |true=>cases o<;>first|exact hq|exact hq.elim
 |seq a b rf rh=>
  intro Q st h;obtain⟨o,ho,h⟩:=rf _ _ h;simp only[bW,ho]
  cases o with
  |norm d8=>exact rh _ _ h
  |exit j s=>exact⟨_,rfl,h⟩
  |ret s=>exact⟨_,rfl,h⟩
  |iK v hp=>exact⟨_,rfl,h⟩
 |cond c a b rf rh=>
  intro Q st h;simp only[yg]at h;split at h
  ·rename_i t ht;simp only[bW,ht];rcases eP h with⟨rfl,h⟩|⟨rfl,h⟩
   ·exact rf _ _ h
   ·exact rh _ _ h
  ·exact h.elim
 |block id c ih=>
  intro Q st h;obtain⟨o,ho,h⟩:=ih _ _ h;simp only[bW,ho]
  cases o with
  |norm d8=>exact⟨_,rfl,h⟩
  |exit j s=>
   simp only at h
   by_cases e:j=id
   ·simp only[if_pos e]
    cases hd:Nat.decEq j id with
    |isTrue _=>simp only[hd]at h;exact⟨_,rfl,h⟩
    |isFalse n=>exact(n e).elim
   ·simp only[if_neg e]
    cases hd:Nat.decEq j id with
    |isTrue y=>exact(e y).elim
    |isFalse n=>simp only[hd]at h;exact⟨_,rfl,h⟩
  |ret s=>exact⟨_,rfl,h⟩
  |iK v hp=>exact⟨_,rfl,h⟩
 |loop c ih=>intro Q st h;exact h
 |exit id=>intro Q st h;exact⟨_,rfl,h⟩
 |scope c ih=>intro Q st h;exact ih _ _ h
 |label l=>intro Q st h;exact⟨_,rfl,h⟩
 |ret=>intro Q st h;exact⟨_,rfl,h⟩
 |rangeFunc f p a b _ _=>intro Q st h;exact h.elim
 |goto l=>intro Q st h;exact h.elim
 |refuse w=>intro Q st h;exact h.elim
theorem lq{cf:dS}{f:FuncId}{args:List af}{h:aC}{Q:dz->Prop}(hp:cf.pr f=none)(hw:Fe cf f args h Q): ∃r,call cf f args h=some r/\Q r:=by
 unfold Fe at hw;rw[ub];unfold me;simp only[hp];split at hw
 ·rename_i fn hf;simp only[hf];split at hw
  ·rename_i c hc;simp only[hc];obtain⟨o,ho,r,hr,hq⟩:=tu _ _ _ hw;exact⟨r,by rw[ho];exact hr,hq⟩
  ·exact hw.elim
 ·exact hw.elim
def jk:List Oper->List Nat
 | []=>[]
 |o::r=>match o.dst with
  |some d=>d::jk r
  |none=>jk r
def wrote:Code->List Nat
 | .region _ ops _=>jk ops.toList
 | .seq a b=>wrote a++wrote b
 | .cond _ a b=>wrote a++wrote b
 | .block _ c=>wrote c
 | .loop c=>wrote c
 | .scope c=>wrote c
 |_=>[]
def f9(W:List Nat)(tm od:Nat->af):Prop:=∀k,W.contains k=false->od k=tm k
theorem f9.refl(W:List Nat)(tm:Nat->af):f9 W tm tm:=fun _ _=>rfl
theorem f9.trans{W:List Nat}{a b c:Nat->af}(h1:f9 W a b)(h2:f9 W b c):f9 W a c:=fun k hk=>(h2 k hk).trans (h1 k hk)
theorem f9.mono{W W':List Nat}{a b:Nat->af}(h:f9 W a b)(hs: ∀k,k∈W->k∈W'):f9 W' a b:=fun k hk=>h k (by
 cases hc:W.contains k with
 |false=>rfl
 |true=>
  rw[List.contains_iff_mem]at hc;have:=hs k hc;rw[<-List.contains_iff_mem,hk]at this;cases this)
theorem f9.put{W:List Nat}{a b:Nat->af}{d:Option Nat}{v:af}(h:f9 W a b)(hd: ∀k,d=some k->k∈W):f9 W a (iN b d v):=fun k hk=>by
 cases d with
 |none=>exact h k hk
 |some d=>
  show eU b d v k=a k;unfold eU
  by_cases e:k=d
  ·subst e;have:=hd k rfl;rw[<-List.contains_iff_mem,hk]at this;cases this
  ·rw[if_neg e];exact h k hk
def eB(W:List Nat)(tm:Nat->af):Out->Prop
 | .norm st=>f9 W tm st.tm
 | .exit _ st=>f9 W tm st.tm
 | .ret st=>f9 W tm st.tm
 | .iK _ _=>True
theorem eB.mono{W W':List Nat}{tm:Nat->af}{o:Out}(h:eB W tm o)(hs: ∀k,k∈W->k∈W'):eB W' tm o:=by
 cases o<;>first|exact f9.mono h hs|trivial
theorem eB.pre{W:List Nat}{a b:Nat->af}{o:Out}(h1:f9 W a b)(h:eB W b o):eB W a o:=by
 cases o<;>first|exact f9.trans h1 h|trivial
theorem xu{cf:dS}{C:pP}{W:List Nat}{d:Bool}{o:Oper}{st:St}{K:St->Option Out}{r:Out}(hd: ∀k,o.dst=some k->k∈W)(hK: ∀d8 r,K d8=some r->eB W d8.tm r)(h:eJ cf C d o st K=some r):eB W st.tm r:=by
 have key: ∀v,eB W (iN st.tm o.dst v) r->eB W st.tm r:=fun v hh=>hh.pre ((f9.refl W st.tm).put hd);unfold eJ at h;split at h
 ·exact key _ (hK _ _ h)
 ·split at h
  ·cases h
  ·split at h
   ·exact key _ (hK _ _ h)
   ·cases h;trivial
   ·cases h
 ·cases h;trivial
 ·cases h
theorem II{cf:dS}{C:pP}{W:List Nat}{d:Bool}{ops:Array Oper}: ∀(l:List Oper)(st:St)(r:Out),(∀k∈jk l,k∈W)->jh cf C d ops l st=some r->eB W st.tm r:=by
 intro l
 induction l with
 |nil=>intro st r _ h;cases h;exact f9.refl _ _
 |cons o rest ih=>
  intro st r hs h;have hd: ∀k,o.dst=some k->k∈W:=fun k e=>hs k (by simp[jk,e]);have hr: ∀k∈jk rest,k∈W:=fun k hk=>hs k (by unfold jk;split<;>simp[hk]);have hL: ∀d8 r,kX cf d ops o rest.length (jh cf C d ops rest) d8=some r->eB W d8.tm r:=fun d8 r hh=>ih d8 r hr (kn hh).1;have key: ∀v r,eB W (iN st.tm o.dst v) r->eB W st.tm r:=fun v r hh=>hh.pre ((f9.refl W st.tm).put hd);simp only[jh]at h;split at h
  ·exact xu hd hL h
  ·rename_i t _;split at h
   ·split at h
    ·exact key _ _ (ih _ _ hr h)
    ·cases h
   ·cases t with
    |true=>exact xu hd hL h
    |false=>exact key _ _ (ih _ _ hr h)
theorem Ff(p:List Nat)(ops:Array Oper): ∀(l:List Nat),∀k∈jk (kg p ops l),k∈jk ops.toList:=by
 have key: ∀(l:List Oper)(o:Oper),o∈l-> ∀d,o.dst=some d->d∈jk l:=by
  intro l
  induction l with
  |nil=>intro o h;simp at h
  |cons x xs ih=>
   intro o h d hd;rcases aW.1 h with rfl|h
   ·simp[jk,hd]
   ·have:=ih o h d hd;unfold jk;split<;>simp[this]
 intro l
 induction l with
 |nil=>intro k h;simp[kg,jk]at h
 |cons i is ih=>
  intro k h;simp only[kg]at h
  cases ho:ops[i]? with
  |none=>rw[ho]at h;exact ih k h
  |some o=>
   rw[ho]at h;simp only[jk]at h
   have hm:o∈ops.toList:=by
    have:=(Array.getElem?_eq_some_iff.1 ho);obtain⟨eH,rfl⟩:=this;simp
   cases hd:o.dst with
   |none=>simp only[ld,hd]at h;exact ih k h
   |some d=>
    simp only[ld,hd,aW]at h;rcases h with rfl|h
    ·exact key _ o hm _ hd
    ·exact ih k h
theorem LW(pm:Nat->Nat->Nat->Option (List Nat))(id:Nat)(ops:Array Oper)(d:Bool): ∀k∈jk (J4 pm id ops d).toList,k∈jk ops.toList:=by
 unfold J4;split
 ·exact fun k h=>h
 ·split
  ·exact Ff _ ops _
  ·exact fun k h=>h
theorem rC{cf:dS}{C:pP}{L:Ng}(hL: ∀c st r,L c st=some r->eB (wrote c) st.tm r): ∀(c:Code)(st:St)(r:Out),bW cf C L c st=some r->eB (wrote c) st.tm r:=by
 intro c
 induction c with
 |region id ops d=>intro st r h;exact II _ st r (LW _ _ _ _) (pT h).1
 |seq a b rf rh=>
  intro st r h;simp only[bW]at h
  cases ha:bW cf C L a st with
  |none=>simp[ha]at h
  |some q=>
   have h1:=(rf st q ha).mono (W':=wrote (.seq a b)) fun k hk=>by simp[wrote,hk]
   simp only[ha]at h
   cases q with
   |norm d8=>exact((rh d8 r h).mono (W':=wrote (.seq a b)) fun k hk=>by simp[wrote,hk]).pre h1
   |exit j s=>cases h;exact h1
   |ret s=>cases h;exact h1
   |iK v hp=>cases h;trivial
 |cond c a b rf rh=>
  intro st r h;simp only[bW]at h;split at h
  ·rename_i t _
   cases t with
   |true=>exact(rf st r h).mono fun k hk=>by simp[wrote,hk]
   |false=>exact(rh st r h).mono fun k hk=>by simp[wrote,hk]
  ·cases h
 |block id c ih=>
  intro st r h;simp only[bW]at h
  cases ha:bW cf C L c st with
  |none=>simp[ha]at h
  |some q=>
   have h1:eB (wrote (.block id c)) st.tm q:=ih st q ha;simp only[ha]at h
   cases q with
   |norm d8=>cases h;exact h1
   |exit j s=>
    simp only at h;split at h
    ·cases h;exact h1
    ·cases h;exact h1
   |ret s=>cases h;exact h1
   |iK v hp=>cases h;trivial
 |loop c ih=>intro st r h;exact hL c st r h
 |exit id=>intro st r h;cases h;exact f9.refl _ _
 |scope c ih=>intro st r h;exact ih st r h
 |label l=>intro st r h;cases h;exact f9.refl _ _
 |ret=>intro st r h;cases h;exact f9.refl _ _
 |skip=>intro st r h;cases h;exact f9.refl _ _
 |rangeFunc f p a b _ _=>intro st r h;simp[bW]at h
 |goto l=>intro st r h;simp[bW]at h
 |refuse w=>intro st r h;simp[bW]at h
theorem LX(cf:dS): ∀(n:Nat)(c:Code)(st:St)(r:Out),(mH cf n).2 c st=some r->eB (wrote c) st.tm r:=by
 intro n
 induction n with
 |zero=>intro c st r h;simp[mH]at h
 |succ n ih=>
  intro c st r h;have h':gG cf (mH cf n).1 (mH cf n).2 c st=some r:=h;unfold gG at h'
  cases he:bW cf (mH cf n).1 (mH cf n).2 c st with
  |none=>simp[he]at h'
  |some q=>
   have h1:=rC ih c st q he;rw[he]at h'
   cases q with
   |norm d8=>exact(ih c d8 r h').pre h1
   |exit j s=>cases h';exact h1
   |ret s=>cases h';exact h1
   |iK v hp=>cases h';trivial
theorem xw(cf:dS)(c:Code)(st:St)(r:Out)(h:gY cf c st=some r):eB (wrote c) st.tm r:=by
 obtain⟨n,hn⟩:=fh h;exact LX cf n c st r hn
theorem ga{cf:dS}{c:Code}{Q:Out->Prop}{Fg:Nat->af}{Nl:aC}(I:Nat->(Nat->af)->aC->Prop)
  (round: ∀n tm hp,(∀k,(wrote c).contains k=false->tm k=Fg k)->I n tm hp->yg cf c (fun o=>match o with| .norm d8=>∃m,m<n/\I m d8.tm d8.hp|o=>Q o) ⟨tm,hp⟩):
  ∀n,I n Fg Nl-> ∃o,gY cf c ⟨Fg,Nl⟩=some o/\Q o:=by
   have key: ∀n tm hp,f9 (wrote c) Fg tm->I n tm hp-> ∃o,gY cf c ⟨tm,hp⟩=some o/\Q o:=by
    intro n
    induction n using Nat.strongRecOn with
    |_ n ih=>
     intro tm hp ha hI;obtain⟨o,ho,h⟩:=tu _ _ _ (round n tm hp ha hI);have hf:=rC (xw cf) c _ _ ho;rw[uc];unfold gG;simp only[ho]
     cases o with
     |norm d8=>
      obtain⟨m,hm,Uc⟩:=h
      exact ih m hm d8.tm d8.hp (ha.trans hf) Uc
     |exit j s=>exact⟨_,rfl,h⟩
     |ret s=>exact⟨_,rfl,h⟩
     |iK v hp=>exact⟨_,rfl,h⟩
   exact fun n hI=>key n Fg Nl (f9.refl _ _) hI
theorem jl{cf:dS}{c:Code}{Q:Out->Prop}{st:St}(h:yg cf c (fun o=>match o with| .norm d8=>∃o,gY cf c d8=some o/\Q o|o=>Q o) st): ∃o,gY cf c st=some o/\Q o:=by
 obtain⟨o,ho,h⟩:=tu _ _ _ h;rw[uc];unfold gG;simp only[ho]
 cases o with
 |norm d8=>exact h
 |exit j s=>exact⟨_,rfl,h⟩
 |ret s=>exact⟨_,rfl,h⟩
 |iK v hp=>exact⟨_,rfl,h⟩
end Go.Am
set_option maxHeartbeats 4000000
namespace Go.Am
open Go
theorem OE{cf:dS}{f:FuncId}{args:List af}{res:af}(hm:cf.M f= .P)(hp:cf.pr f=none)(ha:cj [] args=some args)(hw:Wz cf f args [] (fun r=>∃v h,r= .ret v h/\snap h v=some res)):
  ∀h,bN cf (call cf) f args h=some (.ret res h):=by
   intro h;obtain⟨r,hr,v,h1,rfl,hs⟩:=BW hp hw;unfold bN;simp only[hm,ha,hr,hs,bh]
theorem bo{h:aC}{b c:Bool}(hb:b=c): ∃v h1,dz.ret (.bool b) h= .ret v h1/\snap h1 v=some (.bool c):=⟨_,_,rfl,by subst hb;rfl⟩
theorem bR{h:aC}{k:IntKind}{b c:Int}(hb:b=c): ∃v h1,dz.ret (.int k b) h= .ret v h1/\snap h1 v=some (.int k c):=⟨_,_,rfl,by subst hb;rfl⟩
theorem aP{tm:Nat->af}{k:Nat}{v:af}(h:tm k=v):eU tm k v=tm:=by
 funext j
 unfold eU;split
 ·rename_i e;subst e;exact h.symm
 ·rfl
theorem C7{f:af->Option af}: ∀(l:List af),(∀x∈l,f x=some x)->cp f l=some l
 | [],_=>rfl
 |x::l,h=>by simp only[cp,h x (by simp),C7 l fun y hy=>h y (by simp[hy])]
theorem pk{h:aC}{k sz:Nat}{es:List af}(hk:h[k]?=some (.arr sz es))(he: ∀x∈es,bS h 4194303 x=some x):snap h (.own k 0 es.length)=some (.sl es):=by
 show(match h[k]? with
  |some (.arr _ HE)=>if 0+es.length<=HE.length then(cp (bS h 4194303) ((HE.drop 0).take es.length)).map af.sl else none
  |_=>none)=_
 rw[hk];simp only[bg,aB,if_true,List.drop_zero,aS];rw[C7 es he];rfl
theorem fA{h h':aC}{k:Nat}{o:cJ}(hk:k=h.length)(e:h'=h++[o]):h'[k]?=some o:=by subst hk;subst e;simp
theorem ig{h h':aC}{i:Nat}{o x:cJ}(e:h'=h++[o])(hi:h[i]?=some x):h'[i]?=some x:=by
 subst e;rw[bp (az.1 hi).1];exact hi
theorem fK{h h':aC}{i:Nat}{o x:cJ}(e:h'=h.set i o)(hi:h[i]?=some x):h'[i]?=some o:=by
 subst e;simp[(az.1 hi).1]
theorem lr{h h':aC}{i j:Nat}{o x:cJ}(e:h'=h.set i o)(hj:h[j]?=some x)(xl:i≠j):h'[j]?=some x:=by
 subst e;rw[List.getElem?_set_ne xl];exact hj
theorem fX{h:aC}{i:Nat}{x:cJ}(hi:h[i]?=some x):i<h.length:=(az.1 hi).1
end Go.Am
namespace Go.Proofs.YtfepbikckfehlaaGreat
open Go Go.Am
def isN(f:FuncId):Bool:=Nat.testBit 37600825187021559899021647819060230391700235223232 f
def isF(f:FuncId):Bool:=Nat.testBit 24520022212795257110503029129778730167383740714401988608 f
def isK(f:FuncId):Bool:=Nat.testBit 0 f
def isR(f:FuncId):Bool:=Nat.testBit 41538374950485576762038754513911808 f
def isV(f:FuncId):Bool:=Nat.testBit 1427944590993413963031458960645515397679808512 f
set_option maxRecDepth 100000 in
def isX(f:FuncId):Bool:=Nat.testBit 2854495385411919762116571938898990272765493248 f
def bad(f:FuncId):Bool:=Nat.testBit 0 f
def fF(f:FuncId):Am.Mode:=bif isN f then .N else bif isF f then .F else bif isK f then .K else bif isR f then .R else bif isV f then .V else bif isX f then .X else .P
def plain(f:FuncId):Bool:=!Nat.testBit 618970019642690137986433024 f&& !bad f
def pms(id size d:Nat):Option (List Nat):=match id,size,d with
 |9,10,52=>some [0,1,2,3,4,6,7,5,8,9]
 |11,10,63=>some [0,1,2,3,4,6,7,5,8,9]
 |3,25,11=>some [0,1,2,4,5,6,7,8,9,10,11,12,13,14,15,16,17,18,19,20,3,21,22,23,24]
 |9,11,41=>some [0,1,3,4,2,5,6,7,8,9,10]
 |8,13,30=>some [0,1,2,3,9,4,5,6,7,8,10,11,12]
 |1,11,9=>some [0,1,2,4,5,6,7,9,3,8,10]
 |7,9,37=>some [0,1,3,4,6,2,5,7,8]
 |20,15,85=>some [0,1,3,4,6,7,8,10,11,12,2,5,9,13,14]
 |28,10,127=>some [0,2,3,5,6,8,1,4,7,9]
 |4,12,26=>some [0,1,2,3,4,9,5,6,7,8,10,11]
 |8,12,41=>some [0,1,2,3,4,9,5,6,7,8,10,11]
 |_,_,_=>none
def gV(g:Nat):Option af:=none
abbrev bL:=FuncId->Option (List af->aC->Option dz)
set_option maxRecDepth 100000 in
noncomputable def du(pr:bL):dS:={P:=Tryz.prog,M:=fF,pr:=pr,G:=gV,pm:=pms}
def SX(f:FuncId):Bool:=plain f&&(!isN f&& !isF f&& !isK f&& !isR f&& !isV f&& !isX f)
theorem yv{f:FuncId}(h:SX f=true):fF f=Am.Mode.P:=by
 unfold SX at h;simp only[aj,Bool.not_eq_true']at h;unfold fF;simp_all
structure bV(pr:bL):Prop where
 out: ∀f,plain f=true->pr f=none
noncomputable def QD:bL:=fun f=>bif bad f then some (fun _ _=>none)else none
def dm(pr:bL)(f:FuncId)(args:List af)(res:af):Prop:=∀h,bN (du pr) (call (du pr)) f args h=some (.ret res h)
set_option maxRecDepth 100000 in
theorem bY{pr:bL}(hp:bV pr){f:FuncId}{args:List af}{res:af}(hn:SX f=true)(ha:cj [] args=some args)(hw:Wz (du pr) f args [] (fun r=>∃v h,r= .ret v h/\snap h v=some res)):dm pr f args res:=
 OE (yv hn) (hp.out f (by unfold SX at hn;simp only[aj]at hn;exact hn.1)) ha hw
set_option maxRecDepth 100000 in
theorem OG{pr:bL}{f:FuncId}{p:List af->aC->Option dz}{args:List af}{res:af}{h1:aC}(hM:fF f=Am.Mode.P)(hp:pr f=some p)(ha:cj [] args=some args)(hr:p args []=some (.ret res h1))(hs:snap h1 res=some res):dm pr f args res:=by
 intro h
 have hc:call (du pr) f args []=some (.ret res h1):=by
  rw[ub];unfold me;have:(du pr).pr f=some p:=hp;simp only[this,hr]
 have hm:(du pr).M f= .P:=hM;unfold bN;simp only[hm,ha,hc,hs,bh]
def i64(n:Int):af:=.int .i64 n
theorem aQ(j:Nat)(h:j<4611686018427387904):af.int .i64 (IntKind.i64.wrap ((j:Int)+1))=i64 ((j+1:Nat):Int):=by
 have:IntKind.i64.wrap ((j:Int)+1)=((j+1:Nat):Int):=by
  rw[aY];omega
 rw[this];rfl
structure Cell where
 aw:Int
 a:Int
 b:Int
 n:Int
def Cell.enc(c:Cell):af:=.agg [i64 c.aw,i64 c.a,i64 c.b,i64 c.n]
structure Test where
 aw:Int
 no:Bool
 l:Cell
 r:Cell
def Test.enc(t:Test):af:=.agg [i64 t.aw,.bool t.no,i64 t.l.aw,i64 t.l.a,i64 t.l.b,i64 t.l.n,i64 t.r.aw,i64 t.r.a,i64 t.r.b,i64 t.r.n]
inductive ax where
 |mk (aw n:Int) (aA:Test) (cells:List Cell) (a b:Int) (ao:List Int) (agg col:Int) (al:List ax)
def ax.aw:ax->Int| .mk k ..=>k
def ax.n:ax->Int| .mk _ n ..=>n
def ax.aA:ax->Test| .mk _ _ t ..=>t
def ax.cells:ax->List Cell| .mk _ _ _ c ..=>c
def ax.a:ax->Int| .mk _ _ _ _ a ..=>a
def ax.b:ax->Int| .mk _ _ _ _ _ b ..=>b
def ax.ao:ax->List Int| .mk _ _ _ _ _ _ ks ..=>ks
def ax.agg:ax->Int| .mk _ _ _ _ _ _ _ g ..=>g
def ax.col:ax->Int| .mk _ _ _ _ _ _ _ _ c _=>c
def ax.al:ax->List ax| .mk _ _ _ _ _ _ _ _ _ k=>k
mutual
def ax.enc:ax->af
 | .mk aw n aA cells a b ao agg col al=>
  .agg [i64 aw,i64 n,i64 aA.aw,.bool aA.no,i64 aA.l.aw,i64 aA.l.a,i64 aA.l.b,i64 aA.l.n,i64 aA.r.aw,i64 aA.r.a,i64 aA.r.b,i64 aA.r.n,
   .sl (cells.map Cell.enc),i64 a,i64 b,.sl (ao.map i64),i64 agg,i64 col,.sl (ax.cz al)]
def ax.cz:List ax->List af
 | []=>[]
 |p::ps=>p.enc::ax.cz ps
end
theorem C8(ps:List ax):ax.cz ps=ps.map ax.enc:=by
 induction ps with
 |nil=>rfl
 |cons p ps ih=>simp[ax.cz,ih]
theorem eK(ps:List ax)(j:Nat):(ax.cz ps)[j]?=(ps[j]?).map ax.enc:=by rw[C8,List.getElem?_map]
theorem dM(ps:List ax):(ax.cz ps).length=ps.length:=by rw[C8,aO]
mutual
def ax.sz:ax->Nat
 | .mk aw n aA cells a b ao agg col al=>cells.length+ao.length+al.length+ax.uD al
def ax.uD:List ax->Nat
 | []=>0
 |p::ps=>p.sz+ax.uD ps
end
def ax.small(p:ax):Prop:=p.sz<=1048576
theorem Da{q:ax}: ∀{ps:List ax},q∈ps->q.sz<=ax.uD ps
 |p::ps,h=>by
  simp only[ax.uD];rcases aW.1 h with rfl|h
  ·omega
  ·have:=Da h;omega
theorem dK{aw n:Int}{aA:Test}{cells:List Cell}{a b:Int}{ao:List Int}{agg col:Int}{al:List ax}(h:(ax.mk aw n aA cells a b ao agg col al).small):
  cells.length<=1048576/\ao.length<=1048576/\al.length<=1048576/\ ∀q∈al,q.small:=by
   simp only[ax.small,ax.sz]at h;exact⟨by omega,by omega,by omega,fun q hq=>by have:=Da hq;simp only[ax.small];omega⟩
end Go.Proofs.YtfepbikckfehlaaGreat
set_option maxHeartbeats 4000000
namespace Go.Proofs.YtfepbikckfehlaaGreat
open Go Go.Am
set_option maxRecDepth 100000 in
theorem uE:Vw Tryz.prog 38=some [.i,.b,.i,.i,.i,.i,.i,.i,.i,.i]:=by kernel_rfl
set_option maxRecDepth 100000 in
theorem zB:Vw Tryz.prog 36=some [.i,.i,.i,.i]:=by kernel_rfl
theorem xx(k:Int):k=1∨k=2∨k=3∨((k==1)=false/\(k==2)=false/\(k==3)=false):=by
 simp only[beq_eq_false_iff_ne,ne_eq];omega
variable{pr:bL}(hp:bV pr)
def col(n wide:Int):Bool:=decide (0<=n)&&(decide (n<wide)&&decide (n<6))
set_option maxRecDepth 100000
theorem jz(hp:bV pr)(n wide:Int):dm pr 124 [i64 n,i64 wide] (.bool (col n wide)):=by
 refine bY hp rfl rfl ?_
 iterate 4
  all_goals(try(conv=>whnf))
  all_goals(first|(refine ae (fun hb=>?_) (fun hb=>?_))|skip)
 all_goals exact bo (by first|(simp_all[col];done)|(simp_all[col];omega)|(simp_all[col];intros;omega))
def bE(n:Int):Bool:=decide (-1000000000<=n)&&decide (n<=1000000000)
theorem uF(hp:bV pr)(n:Int):dm pr 94 [i64 n] (.bool (bE n)):=by
 refine bY hp rfl rfl ?_
 iterate 3
  all_goals(try(conv=>whnf))
  all_goals(first|(refine ae (fun hb=>?_) (fun hb=>?_))|skip)
 all_goals exact bo (by first|(simp_all[bE];done)|(simp_all[bE];omega)|(simp_all[bE];intros;omega))
def d9(c:Cell)(wide:Int):Bool:=
 if c.aw=1 then col c.a wide&&(c.b==0&&c.n==0)
 else if c.aw=2 then c.a==0&&(c.b==0&&bE c.n)
 else if c.aw=3 then col c.a wide&&(col c.b wide&&c.n==0)
 else false
theorem sg(hp:bV pr)(c:Cell)(wide:Int):dm pr 141 [c.enc,i64 wide] (.bool (d9 c wide)):=by
 obtain⟨k,a,b,n⟩:=c;refine bY hp rfl rfl ?_
 iterate 10
  all_goals(try(conv=>whnf))
  all_goals(first|(refine ae (fun hb=>?_) (fun hb=>?_))|(refine⟨_,jz hp _ _ _,?_⟩)|(refine⟨_,uF hp _ _,?_⟩)|skip)
 all_goals exact bo (by first|(simp_all[d9];done)|(simp_all[d9];omega)|(simp_all[d9];intros;omega))
def jG(t:Test)(wide:Int):Bool:=(t.aw==1||t.aw==2)&&(d9 t.l wide&&d9 t.r wide)
theorem mJ(hp:bV pr)(t:Test)(wide:Int):dm pr 122 [t.enc,i64 wide] (.bool (jG t wide)):=by
 obtain⟨k,no,l,r⟩:=t;refine bY hp rfl rfl ?_
 iterate 10
  all_goals(try(conv=>whnf))
  all_goals(first|(refine ae (fun hb=>?_) (fun hb=>?_))|(refine⟨_,sg hp l _ _,?_⟩)|(refine⟨_,sg hp r _ _,?_⟩)|skip)
 all_goals exact bo (by first|(simp_all[jG];done)|(simp_all[jG];omega)|(simp_all[jG];intros;omega))
end Go.Proofs.YtfepbikckfehlaaGreat
set_option maxHeartbeats 4000000
namespace Go.Proofs.YtfepbikckfehlaaGreat
open Go Go.Am
def i7{α:Type}(f:α->af)(sz:Nat)(h:aC)(xs:List α)(v:af)(F:List Nat):Prop:=
 (xs=[]/\F=[]/\(v= .nil∨v= .sl []))∨ ∃id,v= .own id 0 xs.length/\h[id]?=some (.arr sz (xs.map f))/\F=[id]
def lL(aw n:Int)(aA:Test)(C:af)(a b:Int)(K:af)(agg col:Int)(D:af):af:=
 .agg [i64 aw,i64 n,i64 aA.aw,.bool aA.no,i64 aA.l.aw,i64 aA.l.a,i64 aA.l.b,i64 aA.l.n,i64 aA.r.aw,i64 aA.r.a,i64 aA.r.b,i64 aA.r.n,
  C,i64 a,i64 b,K,i64 agg,i64 col,D]
mutual
def jH(h:aC):ax->af->List Nat->Prop
 | .mk aw n aA cells a b ao agg col al,v,F=>∃C K D Fc Fk Fd,v=lL aw n aA C a b K agg col D/\i7 Cell.enc 4 h cells C Fc/\i7 i64 1 h ao K Fk/\
   ((al=[]/\D= .nil/\Fd=[])∨ ∃id vs Fs,D= .own id 0 al.length/\h[id]?=some (.arr 19 vs)/\fG h al vs Fs/\Fd=id::Fs)/\F=Fc++(Fk++Fd)
def fG(h:aC):List ax->List af->List Nat->Prop
 | [],vs,F=>vs=[]/\F=[]
 |p::ps,vs,F=>∃v eo F1 F2,vs=v::eo/\F=F1++F2/\jH h p v F1/\fG h ps eo F2
end
def nR(h:aC)(al:List ax)(D:af)(Fd:List Nat):Prop:=
 (al=[]/\D= .nil/\Fd=[])∨ ∃id vs Fs,D= .own id 0 al.length/\h[id]?=some (.arr 19 vs)/\fG h al vs Fs/\Fd=id::Fs
theorem kA{h:aC}{aw n:Int}{aA:Test}{cells:List Cell}{a b:Int}{ao:List Int}{agg col:Int}{al:List ax}{v:af}{F:List Nat}:
  jH h (.mk aw n aA cells a b ao agg col al) v F↔ ∃C K D Fc Fk Fd,v=lL aw n aA C a b K agg col D/\i7 Cell.enc 4 h cells C Fc/\i7 i64 1 h ao K Fk/\nR h al D Fd/\F=Fc++(Fk++Fd):=by
   simp only[jH,nR]
theorem BX{h:aC}: ∀{ps:List ax}{vs:List af}{F:List Nat},fG h ps vs F->vs.length=ps.length
 | [],vs,F,hp=>by simp only[fG]at hp;rw[hp.1];rfl
 |p::ps,vs,F,hp=>by
  simp only[fG]at hp;obtain⟨v,eo,F1,F2,rfl,rfl,_,h2⟩:=hp;simp[BX h2]
theorem i7.frame{α:Type}{f:α->af}{sz:Nat}{h h':aC}{xs:List α}{v:af}{F:List Nat}(ho:i7 f sz h xs v F)(hf: ∀id∈F,h'[id]?=h[id]?):i7 f sz h' xs v F:=by
 rcases ho with ho|⟨id,h1,h2,rfl⟩
 ·exact .inl ho
 ·exact .inr ⟨id,h1,by rw[hf id (by simp)];exact h2,rfl⟩
theorem BY{h h':aC}: ∀(N:Nat),(∀(p:ax)(v:af)(F:List Nat),SizeOf.sizeOf p<=N->jH h p v F->(∀id∈F,h'[id]?=h[id]?)->jH h' p v F)/\
  ∀(ps:List ax)(vs:List af)(F:List Nat),SizeOf.sizeOf ps<=N->fG h ps vs F->(∀id∈F,h'[id]?=h[id]?)->fG h' ps vs F:=by
   intro N
   induction N with
   |zero=>
    refine⟨fun p v F hs=>?_,fun ps vs F hs hp _=>?_⟩
    ·cases p;simp at hs
    ·cases ps<;>simp at hs
   |succ N ih=>
    refine⟨fun p v F hs hp hf=>?_,fun ps vs F hs hp hf=>?_⟩
    ·obtain⟨aw,n,aA,cells,a,b,ao,agg,col,al⟩:=p;rw[kA]at hp⊢;obtain⟨C,K,D,Fc,Fk,Fd,rfl,h1,h2,h3,rfl⟩:=hp;refine⟨C,K,D,Fc,Fk,Fd,rfl,h1.frame fun id cq=>hf id (by simp[cq]),h2.frame fun id cq=>hf id (by simp[cq]),?_,rfl⟩;rcases h3 with h3|⟨id,vs,Fs,h4,h5,h6,rfl⟩
     ·exact .inl h3
     ·exact .inr ⟨id,vs,Fs,h4,by rw[hf id (by simp)];exact h5,ih.2 al vs Fs (by simp at hs;omega) h6 fun id cq=>hf id (by simp[cq]),rfl⟩
    ·cases ps with
     |nil=>simp only[fG]at hp⊢;exact hp
     |cons p ps=>
      simp only[fG]at hp⊢;obtain⟨v,eo,F1,F2,rfl,rfl,h1,h2⟩:=hp;simp at hs;exact⟨v,eo,F1,F2,rfl,rfl,ih.1 p v F1 (by omega) h1 fun id cq=>hf id (by simp[cq]),ih.2 ps eo F2 (by omega) h2 fun id cq=>hf id (by simp[cq])⟩
theorem jH.frame{h h':aC}{p:ax}{v:af}{F:List Nat}(ho:jH h p v F)(hf: ∀id∈F,h'[id]?=h[id]?):jH h' p v F:=(BY _).1 p v F (aB _) ho hf
theorem fG.frame{h h':aC}{ps:List ax}{vs:List af}{F:List Nat}(ho:fG h ps vs F)(hf: ∀id∈F,h'[id]?=h[id]?):fG h' ps vs F:=(BY _).2 ps vs F (aB _) ho hf
theorem nR.frame{h h':aC}{ps:List ax}{D:af}{F:List Nat}(ho:nR h ps D F)(hf: ∀id∈F,h'[id]?=h[id]?):nR h' ps D F:=by
 rcases ho with h3|⟨id,vs,Fs,h4,h5,h6,rfl⟩
 ·exact .inl h3
 ·exact .inr ⟨id,vs,Fs,h4,by rw[hf id (by simp)];exact h5,h6.frame fun id cq=>hf id (by simp[cq]),rfl⟩
theorem i7.lt{α:Type}{f:α->af}{sz:Nat}{h:aC}{xs:List α}{v:af}{F:List Nat}(ho:i7 f sz h xs v F): ∀id∈F,id<h.length:=by
 rcases ho with⟨_,rfl,_⟩|⟨id,h1,h2,rfl⟩
 ·simp
 ·intro i hi;simp at hi;subst hi;exact fX h2
theorem OH{h:aC}: ∀(N:Nat),(∀(p:ax)(v:af)(F:List Nat),SizeOf.sizeOf p<=N->jH h p v F-> ∀id∈F,id<h.length)/\
  ∀(ps:List ax)(vs:List af)(F:List Nat),SizeOf.sizeOf ps<=N->fG h ps vs F-> ∀id∈F,id<h.length:=by
   intro N
   induction N with
   |zero=>
    refine⟨fun p v F hs=>?_,fun ps vs F hs hp=>?_⟩
    ·cases p;simp at hs
    ·cases ps<;>simp at hs
   |succ N ih=>
    refine⟨fun p v F hs hp=>?_,fun ps vs F hs hp=>?_⟩
    ·obtain⟨aw,n,aA,cells,a,b,ao,agg,col,al⟩:=p;rw[kA]at hp;obtain⟨C,K,D,Fc,Fk,Fd,rfl,h1,h2,h3,rfl⟩:=hp;intro id cq;simp only[bu]at cq;rcases cq with cq|cq|cq
     ·exact h1.lt id cq
     ·exact h2.lt id cq
     ·rcases h3 with⟨_,_,rfl⟩|⟨id',vs,Fs,h4,h5,h6,rfl⟩
      ·simp at cq
      ·rcases aW.1 cq with rfl|cq
       ·exact fX h5
       ·exact ih.2 al vs Fs (by simp at hs;omega) h6 id cq
    ·cases ps with
     |nil=>simp only[fG]at hp;obtain⟨rfl,rfl⟩:=hp;simp
     |cons p ps=>
      simp only[fG]at hp;obtain⟨v,eo,F1,F2,rfl,rfl,h1,h2⟩:=hp;simp at hs;intro id cq;rcases bu.1 cq with cq|cq
      ·exact ih.1 p v F1 (by omega) h1 id cq
      ·exact ih.2 ps eo F2 (by omega) h2 id cq
theorem jH.lt{h:aC}{p:ax}{v:af}{F:List Nat}(ho:jH h p v F): ∀id∈F,id<h.length:=(OH _).1 p v F (aB _) ho
theorem fG.lt{h:aC}{ps:List ax}{vs:List af}{F:List Nat}(ho:fG h ps vs F): ∀id∈F,id<h.length:=(OH _).2 ps vs F (aB _) ho
theorem nR.lt{h:aC}{ps:List ax}{D:af}{F:List Nat}(ho:nR h ps D F): ∀id∈F,id<h.length:=by
 rcases ho with⟨_,_,rfl⟩|⟨id,vs,Fs,h4,h5,h6,rfl⟩
 ·simp
 ·intro i hi;rcases aW.1 hi with rfl|hi
  ·exact fX h5
  ·exact h6.lt i hi
theorem LY(h:aC)(n:Nat)(x:Int):bS h (n+1) (i64 x)=some (i64 x):=rfl
theorem IJ(h:aC)(n:Nat)(x:Bool):bS h (n+1) (.bool x)=some (.bool x):=rfl
theorem mK{h:aC}{n id len sz:Nat}{es xs:List af}(hi:h[id]?=some (.arr sz es))(hl:len=es.length)(hm:cp (bS h n) es=some xs):bS h (n+1) (.own id 0 len)=some (.sl xs):=by
 subst hl;simp only[bS,hi,bg,aB,if_true,List.drop_zero,aS,hm,bh]
theorem i7.bS{α:Type}{f:α->af}{sz:Nat}{h:aC}{xs:List α}{v:af}{F:List Nat}{n:Nat}(hf: ∀x,Am.bS h (n+1) (f x)=some (f x))(ho:i7 f sz h xs v F):Am.bS h (n+2) v=some (.sl (xs.map f)):=by
 rcases ho with⟨rfl,_,rfl|rfl⟩|⟨id,rfl,h2,_⟩
 ·rfl
 ·rfl
 ·exact mK h2 (by simp) (C7 _ fun x hx=>by obtain⟨y,_,rfl⟩:=bj.1 hx;exact hf y)
theorem Fh{h:aC}: ∀(N:Nat),(∀(p:ax)(v:af)(F:List Nat)(n:Nat),SizeOf.sizeOf p<=N->jH h p v F->2*p.sz+5<=n->Am.bS h n v=some p.enc)/\
  ∀(ps:List ax)(vs:List af)(F:List Nat)(n:Nat),SizeOf.sizeOf ps<=N->fG h ps vs F->2*ax.uD ps+5<=n->cp (Am.bS h n) vs=some (ax.cz ps):=by
   intro N
   induction N with
   |zero=>
    refine⟨fun p v F n hs=>?_,fun ps vs F n hs hp=>?_⟩
    ·cases p;simp at hs
    ·cases ps<;>simp at hs
   |succ N ih=>
    refine⟨fun p v F n hs hp hn=>?_,fun ps vs F n hs hp hn=>?_⟩
    ·obtain⟨aw,m,aA,cells,a,b,ao,agg,col,al⟩:=p;rw[kA]at hp;obtain⟨C,K,D,Fc,Fk,Fd,rfl,h1,h2,h3,rfl⟩:=hp;simp only[ax.sz]at hn;obtain⟨n,rfl⟩: ∃k,n=k+5:=⟨n-5,by omega⟩;have e1:Am.bS h (n+4) C=some (.sl (cells.map Cell.enc)):=i7.bS (n:=n+2) (fun x=>rfl) h1;have e2:Am.bS h (n+4) K=some (.sl (ao.map i64)):=i7.bS (n:=n+2) (fun x=>rfl) h2
     have e3:Am.bS h (n+4) D=some (.sl (ax.cz al)):=by
      rcases h3 with⟨rfl,rfl,_⟩|⟨id,vs,Fs,rfl,h5,h6,_⟩
      ·rfl
      ·refine mK h5 (by rw[BX h6]) ?_
       cases al with
       |nil=>simp only[fG]at h6;rw[h6.1];rfl
       |cons q qs=>
        refine ih.2 _ vs Fs (n+3) (by simp at hs⊢;omega) h6 ?_;simp at hn;omega
     show(cp (Am.bS h (n+4)) _).map af.agg=_;simp only[cp,e1,e2,e3,LY,IJ,bh,ax.enc]
    ·cases ps with
     |nil=>simp only[fG]at hp;rw[hp.1];rfl
     |cons p ps=>
      simp only[fG]at hp;obtain⟨v,eo,F1,F2,rfl,rfl,h1,h2⟩:=hp;simp at hs;simp only[ax.uD]at hn;simp only[cp,ih.1 p v F1 n (by omega) h1 (by omega),ih.2 ps eo F2 n (by omega) h2 (by omega),ax.cz]
theorem jH.snap{h:aC}{p:ax}{v:af}{F:List Nat}(ho:jH h p v F)(fm:p.small):Am.snap h v=some p.enc:=(Fh _).1 p v F _ (aB _) ho (by unfold ax.small at fm;omega)
end Go.Proofs.YtfepbikckfehlaaGreat

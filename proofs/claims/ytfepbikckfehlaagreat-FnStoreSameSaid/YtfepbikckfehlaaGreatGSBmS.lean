/- From Am's 'true' to the row's conclusion. -/
import Derived.Test.YtfepbikckfehlaaGreatGH9
set_option linter.unusedVariables false
set_option linter.unusedSimpArgs false
set_option maxHeartbeats 4000000
namespace Go.Am
open Go Go.ChangeShapes Go.RowKit
inductive NG(P:Program):List TypeId->List af->Prop
 |nil:NG P [] []
 |cons {t:TypeId} {ts:List TypeId} {n:Nat} {xs:List af} {as:List af} (h:uO P n t xs) (hr:NG P ts as):NG P (t::ts) (jm P t xs::as)
theorem Tk{P:Program}{W:World}{base n:Nat}{t:TypeId}{v:Value}{xs:List af}(hx:uO P n t xs)(hr:oI W xs v.cells.toList)(eb:Value.okWide P W .any base t v):fD (fun b=>b<W.heap.size) W (jm P t xs) v:=by
 cases n with
 |zero=>exact hx.elim
 |succ n=>
  have cell: ∀(x:af),xs=[x]->(∀cs,v≠ .agg cs)->fD (fun b=>b<W.heap.size) W x v:=by
   intro x he hv;subst he;refine hr.2 0 x v rfl ?_;cases v<;>first|rfl|exact absurd rfl (hv _)
  unfold uO at hx;unfold jm;unfold Value.okWide at eb
  cases hu:P.underlying t with
  |none=>simp only[hu]at hx
  |some d=>
   simp only[hu]at hx eb⊢;cases d<;>simp only at hx eb⊢
   case struct fs=>
    obtain⟨cs,rfl,_,_⟩:=eb;exact .agg xs cs (by simpa[Value.cells]using hr.1) fun i c v hc hv=>hr.2 i c v hc (by simpa[Value.cells]using hv)
   case bool=>
    obtain⟨b,rfl⟩:=hx;exact cell _ rfl fun cs e=>by subst e;simp[Cell.okWide,Cell.ok,hu]at eb
   case int k=>
    obtain⟨b,rfl,_⟩:=hx;exact cell _ rfl fun cs e=>by subst e;simp[Cell.okWide,Cell.ok,hu]at eb
   case string=>
    obtain⟨b,rfl,_⟩:=hx;exact cell _ rfl fun cs e=>by subst e;simp[Cell.okWide,Cell.ok,hu]at eb
   case slice e=>
    obtain⟨b,rfl,_⟩:=hx;exact cell _ rfl fun cs e=>by subst e;simp[Cell.okWide,Cell.ok,hu]at eb
theorem Qi{H:Type}{enc:TypeId×Value->H}{P:Program}{W:World}{base:Nat}{ts:List TypeId}(hp:Kg P ts=true): ∀(ps:List TypeId)(vs:List Value)(ds:List (DataW H))(p:List MemPlace),(∀t∈ps,t∈ts)->
  (∀(j:Nat) t v,ps[j]?=some t->vs[j]?=some v->Value.okWide P W .any base t v)->DataW.TrodAll enc P W 0 (fun _=>true) true ps vs ds p-> ∃as,NG P ps as/\oI W as vs:=by
   intro ps
   induction ps with
   |nil=>
    intro vs ds p _ _ h
    cases vs with
    |nil=>exact⟨[],.nil,rfl,fun i x v hx=>by simp at hx⟩
    |cons v vs=>exact h.elim
   |cons t ps ih=>
    intro vs ds p hm eb h
    cases vs with
    |nil=>exact h.elim
    |cons v vs=>
     cases ds with
     |nil=>exact h.elim
     |cons d ds=>
      obtain⟨q,q',⟨n,hn⟩,Au,_⟩:=h;obtain⟨_,xs,CB,yQ⟩:=Qh hp n t _ _ (hm t (by simp)) hn;obtain⟨as,ha,hr⟩:=ih vs ds q' (fun t ht=>hm t (by simp[ht])) (fun j t v h1 h2=>eb (j+1) t v (by simpa using h1) (by simpa using h2)) Au;exact⟨_,.cons yQ ha,(oI.one (Tk yQ CB (eb 0 t v rfl rfl))).append hr⟩
theorem CC{H:Type}{enc:TypeId×Value->H}{P:Program}{W W':World}(hl:laidOutB P=true){sp':Nat->Bool}: ∀(ps:List TypeId)(vs:List Value)(ds:List (DataW H))(p:List MemPlace),(∀t∈ps,P.readableRec t=true/\t<P.types.size)->
  DataW.TrodAll enc P W 0 (fun _=>true) true ps vs ds p->(∀x∈p,W.sameAt W' x)->(∀x∈p,sp' x.block=true)->DataW.TrodAll enc P W' 0 sp' true ps vs ds p:=by
   intro ps
   induction ps with
   |nil=>intro vs ds p _ h _ _;cases vs<;>cases ds<;>exact h
   |cons t ps ih=>
    intro vs ds p hr h hs UL
    cases vs with
    |nil=>exact h.elim
    |cons v vs=>
     cases ds with
     |nil=>exact h.elim
     |cons d ds=>
      obtain⟨q,q',h1,h2,rfl⟩:=h;exact⟨q,q',WideElems.Trod_stays hl (hr t (by simp)).1 (hr t (by simp)).2 h1 (fun x hx=>hs x (by simp[hx])) (fun x hx=>UL x (by simp[hx])),ih vs ds q' (fun t ht=>hr t (by simp[ht])) h2 (fun x hx=>hs x (by simp[hx])) (fun x hx=>UL x (by simp[hx])),rfl⟩
theorem Hi{S:Nat->Prop}{W W':World}{E':Env}{h':aG}{may:MemPlace->Prop}(x:Ext (Env.bare S) [] W E' h' W'):W.keptBut W' may:=by
 have hm: ∀b,b<W.heap.size->W'.heap[b]?=W.heap[b]?:=fun b hb=>x.mem b hb Env.gC;refine⟨x.os,x.output,fun i hi=>?_⟩;rw[hm i hi]
 cases hq:W.heap[i]? with
 |none=>rfl
 |some o=>cases o<;>simp
theorem Qj{cf:eP}(ok:wj cf){f:FuncId}{fn:Func}(hb:ia cf.P f=true){s:ChangeSpec}(hv:s.vars=[])(hl:laidOutB cf.P=true)(Yt: ∀t∈fn.params.toList,cf.P.readableRec t=true/\t<cf.P.types.size)
  {ts:List TypeId} (hp:Kg cf.P ts=true) (UM: ∀t∈fn.params.toList,t∈ts) {tb:TypeId} (aQ:fn.resultTypes= #[tb]) (Sp:cf.P.underlying tb=some .bool) (hG: ∀g,cf.G g=none)
  (Jw: ∀(H:Type)(ds:List (DataW H)),ds.length=fn.params.size->s.fn H ds={results:=[.lit (.bool true)],args:=ds})
  (yM: ∀as,NG cf.P fn.params.toList as-> ∃h,call cf f as []=some (.ret (.bool true) h))
  {H:Type} {enc:TypeId×Value->H} {W:World} {base:Nat} {args:Array Value} {ds gs:List (DataW H)} {before:List MemPlace}
  (Hd: ∀(j:Nat) t v,fn.params[j]?=some t->args[j]?=some v->Value.okWide cf.P W .any base t v)
  (hW:DataW.Whole enc cf.P fn.params.toList s.vars false W args.toList ds gs before):
  Calls cf.P f args W fun e W'=>∃v,e= .returned v/\s.post enc cf.P fn false true false false W args v W':=by
   have hW':=hW;obtain⟨p,q,hA,hV,hpq,hz,UN⟩:=hW;rw[hv]at hV;obtain⟨rfl,rfl⟩:=trodVars_none hV;rw[aaw]at hpq;subst hpq;obtain⟨as,ha,hr⟩:=Qi hp _ _ _ _ UM (fun j t v h1 h2=>Hd j t v (by simpa using h1) (by simpa using h2)) hA;obtain⟨h,hc⟩:=yM as ha
   have len: ∀(ps:List TypeId)(vs:List Value)(ds:List (DataW H))(p:List MemPlace),DataW.TrodAll enc cf.P W 0 (fun _=>true) true ps vs ds p->ds.length=ps.length:=by
    intro ps
    induction ps with
    |nil=>intro vs ds p h;cases vs<;>cases ds<;>first|rfl|exact h.elim
    |cons t ps ih=>
     intro vs ds p h
     cases vs with
     |nil=>exact h.elim
     |cons v vs=>
      cases ds with
      |nil=>exact h.elim
      |cons d ds=>obtain⟨_,_,_,h2,_⟩:=h;simp[ih vs ds _ h2]
   have VX:=Jw H ds (by rw[len _ _ _ _ hA];simp);have fK: ∀x∈before,x.block<W.heap.size:=fun x hx=>hW'.lt x hx;refine Calls.mono (uN ok f as [] _ hc (Env.bare fun b=>b<W.heap.size) W args hb (eG.bare fun _ h=>h) (fun _ _=>rfl) (fun g v hg=>by rw[hG]at hg;cases hg) ⟨by have:=hr.1;simpa using this,fun i c v h1 h2=>.fJ (hr.2 i c v h1 (by simpa using h2))⟩) fun e W' he=>?_
   cases e with
   |outgrown=>exact he.elim
   |panicked ch=>obtain⟨v,h',E',u,hq,_⟩:=he;cases hq
   |returned u=>
    obtain⟨v,h',E',hq,s',f',x',r'⟩:=he;cases hq
    obtain rfl:=r'.bool;refine⟨_,rfl,ds,[],before,[],before,[],hW',?_,?_,?_,Hi x',fun h=>by cases h⟩
    ·rw[aaw,VX,aQ];exact trodAll_mk1 ⟨1,by simp[DataW.trod,Value.cells,Sp]⟩
    ·rw[aaw,VX];refine CC hl _ _ _ _ Yt hA (fun x hx=>?_) fun x hx=>by simpa using fK x hx
     have hm:W'.heap[x.block]?=W.heap[x.block]?:=x'.mem _ (fK x hx) Env.gC
     cases x with
     |cell b off=>exact World.cell?_of_block (w:=W) hm
     |map b=>exact hm
    ·rw[aaw,VX,hv];rfl
end Go.Am

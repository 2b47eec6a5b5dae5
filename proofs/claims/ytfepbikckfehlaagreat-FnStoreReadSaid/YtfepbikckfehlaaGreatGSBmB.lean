/- What an abstract value says of a concrete one in a world; what a step may turn; that what was said stays. -/
import Derived.Test.YtfepbikckfehlaaGreatGSBmA
import Derived.Deep.AppendSrc
import Derived.Deep.MidRow
import Derived.Deep.Upon
import Derived.Laws.MakeOwn
import Derived.Laws.Build
import Derived.Laws.StructEq
import Derived.Laws.Slices
set_option linter.unusedVariables false
set_option linter.unusedSimpArgs false
set_option maxHeartbeats 4000000
namespace Go.Am
open Go
inductive Slot where
 |live (b iC sz:Nat)
 |HM (b:Nat)
 |Kb (b:Nat)
 |dead
def Slot.BC:Slot->Option Nat
 | .live b _ _=>some b
 | .HM b=>some b
 | .Kb b=>some b
 | .dead=>none
structure Env where
 m:Nat->Option Slot
 S:Nat->Prop
def Env.im(E:Env)(b:Nat):Prop:=∃id s,E.m id=some s/\s.BC=some b
inductive eA(S:Nat->Prop)(w:World):af->Value->Prop
 |int (k:IntKind) (n:Int):eA S w (.int k n) (.int k n)
 |bool (b:Bool):eA S w (.bool b) (.bool b)
 |str (s:ByteArray):eA S w (.str s) (.string s)
 |nil (a:Option Addr):eA S w .nil (.slice a 0 0)
 |sl (xs:List af) (a:Option Addr) (cap s b o:Nat) (vs:Nat->Nat->Value) (ha:xs≠[]->a=some ⟨b,o,none⟩) (fI:xs.length<=cap) (hs: ∀x∈xs,x.cells.length=s)
  (hc: ∀(i j:Nat)(x c:af),xs[i]?=some x->x.cells[j]?=some c->S b/\w.cell? ⟨b,o+(i*s+j),none⟩=some (vs i j))
  (hr: ∀(i j:Nat)(x c:af),xs[i]?=some x->x.cells[j]?=some c->eA S w c (vs i j)):eA S w (.sl xs) (.slice a xs.length cap)
 |eY (xs:List af) (i off:Nat) (s b o:Nat) (vs:Nat->Nat->Value) (hs: ∀x∈xs,x.cells.length=s)
  (hc: ∀(i j:Nat)(x c:af),xs[i]?=some x->x.cells[j]?=some c->S b/\w.cell? ⟨b,o+(i*s+j),none⟩=some (vs i j))
  (hr: ∀(i j:Nat)(x c:af),xs[i]?=some x->x.cells[j]?=some c->eA S w c (vs i j)):eA S w (.eY xs i off) (.pointer (some ⟨b,o+(i*s+off),none⟩))
 |qZ:eA S w .qZ (.pointer none)
 |pN:eA S w .pN (.map none)
 |mQ (ks vs:List af) (b clock:Nat) (es:Array MapEntry) (hS:S b) (hb:w.heap[b]?=some (.map es clock)) (hk:ks.length=es.size) (hv:vs.length=es.size)
  (rk: ∀(i:Nat)(k:af)(e:MapEntry),ks[i]?=some k->es[i]?=some e->eA S w k e.key) (rv: ∀(i:Nat)(v:af)(e:MapEntry),vs[i]?=some v->es[i]?=some e->eA S w v e.val):eA S w (.mQ ks vs) (.map (some b))
 |x9:eA S w .x9 .nilFunc
 |pO:eA S w .pO .nilIface
 |agg (cs:List af) (vs:Array Value) (hl:cs.length=vs.size) (hr: ∀(i:Nat)(c:af)(v:Value),cs[i]?=some c->vs[i]?=some v->eA S w c v):eA S w (.agg cs) (.agg vs)
 |dX (cs:List af) (vs:Array Value) (hl:cs.length=vs.size) (hr: ∀(i:Nat)(c:af)(v:Value),cs[i]?=some c->vs[i]?=some v->eA S w c v):eA S w (.dX cs) (.tuple vs)
 |func (fn:Fn) (a b:List af) (va vb:Array Value) (Ls:a.length=va.size) (El:b.length=vb.size) (NM: ∀(i:Nat)(c:af)(v:Value),a[i]?=some c->va[i]?=some v->eA S w c v) (NN: ∀(i:Nat)(c:af)(v:Value),b[i]?=some c->vb[i]?=some v->eA S w c v):
  eA S w (.func fn a b) (.func fn va vb)
 |iface (t:TypeId) (a:af) (v:Value) (hr:eA S w a v):eA S w (.iface t a) (.iface t v)
 |gv (g:Nat) (t:TypeId) (a:Addr) (hS:S g) (hc:w.cell? ⟨g,0,none⟩=some (.iface t (.pointer (some a)))):eA S w (.gv g t) (.iface t (.pointer (some a)))
inductive ck(E:Env)(w:World):af->Value->Prop
 |eG {a:af} {v:Value} (h:eA E.S w a v):ck E w a v
 |own (id st len:Nat) (a:Option Addr) (cap b iC sz:Nat) (hm:E.m id=some (.live b iC sz)) (fI:len<=cap) (h:(len=0/\cap=0)∨(a=some ⟨b,st*sz,none⟩/\(st+cap)*sz<=iC)):ck E w (.own id st len) (.slice a len cap)
 |ri (id st len:Nat) (a:Option Addr) (cap:Nat) (hm:E.m id=some .dead) (fI:len<=cap):ck E w (.own id st len) (.slice a len cap)
 |ptr (id i off:Nat) (b iC sz:Nat) (hm:E.m id=some (.live b iC sz)):ck E w (.ptr id i off) (.pointer (some ⟨b,i*sz+off,none⟩))
 |vK (id i off:Nat) (a:Addr) (hm:E.m id=some .dead):ck E w (.ptr id i off) (.pointer (some a))
 |map (id b:Nat) (hm:E.m id=some (.HM b)):ck E w (.map id) (.map (some b))
 |Lt (id:Nat) (b:Nat) (hm:E.m id=some .dead):ck E w (.map id) (.map (some b))
 |it (id b:Nat) (hm:E.m id=some (.Kb b)):ck E w (.it id) (.pointer (some ⟨b,0,none⟩))
 |VO (id:Nat) (a:Addr) (hm:E.m id=some .dead):ck E w (.it id) (.pointer (some a))
 |agg (cs:List af) (vs:Array Value) (hl:cs.length=vs.size) (hr: ∀(i:Nat)(c:af)(v:Value),cs[i]?=some c->vs[i]?=some v->ck E w c v):ck E w (.agg cs) (.agg vs)
 |dX (cs:List af) (vs:Array Value) (hl:cs.length=vs.size) (hr: ∀(i:Nat)(c:af)(v:Value),cs[i]?=some c->vs[i]?=some v->ck E w c v):ck E w (.dX cs) (.tuple vs)
 |func (fn:Fn) (a b:List af) (va vb:Array Value) (Ls:a.length=va.size) (El:b.length=vb.size) (NM: ∀(i:Nat)(c:af)(v:Value),a[i]?=some c->va[i]?=some v->ck E w c v) (NN: ∀(i:Nat)(c:af)(v:Value),b[i]?=some c->vb[i]?=some v->ck E w c v):
  ck E w (.func fn a b) (.func fn va vb)
 |iface (t:TypeId) (a:af) (v:Value) (hr:ck E w a v):ck E w (.iface t a) (.iface t v)
theorem eA.mono{S S':Nat->Prop}{w w':World}(hS: ∀b,S b->S' b)(hw: ∀b,S b->w'.heap[b]?=w.heap[b]?){a:af}{v:Value}(h:eA S w a v):eA S' w' a v:=by
 induction h with
 |int k n=>exact .int k n
 |bool b=>exact .bool b
 |str s=>exact .str s
 |nil a=>exact .nil a
 |sl xs a cap s b o vs ha fI hs hc hr ih=>
  refine .sl xs a cap s b o vs ha fI hs (fun i j x c hx BD=>?_) ih;obtain⟨h1,h2⟩:=hc i j x c hx BD
  exact⟨hS _ h1,by rw[World.cell?_of_block (w:=w) (hw b h1)];exact h2⟩
 |eY xs i off s b o vs hs hc hr ih=>
  refine .eY xs i off s b o vs hs (fun i j x c hx BD=>?_) ih;obtain⟨h1,h2⟩:=hc i j x c hx BD
  exact⟨hS _ h1,by rw[World.cell?_of_block (w:=w) (hw b h1)];exact h2⟩
 |qZ=>exact .qZ
 |pN=>exact .pN
 |mQ ks vs b clock es Ve hb hk hv rk rv Yp ihv=>exact .mQ ks vs b clock es (hS b Ve) ((hw b Ve).trans hb) hk hv Yp ihv
 |x9=>exact .x9
 |pO=>exact .pO
 |agg cs vs hl hr ih=>exact .agg cs vs hl ih
 |dX cs vs hl hr ih=>exact .dX cs vs hl ih
 |func fn a b va vb Ls El NM NN rf rh=>exact .func fn a b va vb Ls El rf rh
 |iface t a v hr ih=>exact .iface t a v ih
 |gv g t a hSg hc=>exact .gv g t a (hS g hSg) (by rw[World.cell?_of_block (w:=w) (hw g hSg)];exact hc)
theorem ck.mono{E E':Env}{w w':World}(hS: ∀b,E.S b->E'.S b)(hw: ∀b,E.S b->w'.heap[b]?=w.heap[b]?)(hm: ∀id s,E.m id=some s->E'.m id=some s∨E'.m id=some .dead){a:af}{v:Value}(h:ck E w a v):ck E' w' a v:=by
 induction h with
 |eG h=>exact .eG (h.mono hS hw)
 |own id st len a cap b iC sz gU fI h=>
  rcases hm _ _ gU with h1|h1
  ·exact .own id st len a cap b iC sz h1 fI h
  ·exact .ri id st len a cap h1 fI
 |ri id st len a cap gU fI=>
  rcases hm _ _ gU with h1|h1<;>exact .ri id st len a cap h1 fI
 |ptr id i off b iC sz gU=>
  rcases hm _ _ gU with h1|h1
  ·exact .ptr id i off b iC sz h1
  ·exact .vK id i off _ h1
 |vK id i off a gU=>rcases hm _ _ gU with h1|h1<;>exact .vK id i off a h1
 |map id b gU=>
  rcases hm _ _ gU with h1|h1
  ·exact .map id b h1
  ·exact .Lt id b h1
 |Lt id b gU=>rcases hm _ _ gU with h1|h1<;>exact .Lt id b h1
 |it id b gU=>
  rcases hm _ _ gU with h1|h1
  ·exact .it id b h1
  ·exact .VO id _ h1
 |VO id a gU=>rcases hm _ _ gU with h1|h1<;>exact .VO id a h1
 |agg cs vs hl hr ih=>exact .agg cs vs hl ih
 |dX cs vs hl hr ih=>exact .dX cs vs hl ih
 |func fn a b va vb Ls El NM NN rf rh=>exact .func fn a b va vb Ls El rf rh
 |iface t a v hr ih=>exact .iface t a v ih
def Row(w:World)(b iC:Nat):Prop:=∃c el,w.heap[b]?=some (.cells c el (0,0))/\c.size=iC
theorem Row.isSome{w:World}{b iC:Nat}(h:Row w b iC){k:Nat}(hk:k<iC):(w.cell? ⟨b,k,none⟩).isSome=true:=by
 obtain⟨c,el,hb,rfl⟩:=h;simp[World.cell?,hb,hk]
theorem Row.frozen{w:World}{b iC:Nat}(h:Row w b iC)(k:Nat):w.frozen? ⟨b,k,none⟩=false:=by
 obtain⟨c,el,hb,rfl⟩:=h;simp[World.frozen?,hb]
theorem Row.Em{w w':World}{b iC:Nat}(h:Row w b iC)(hw:w'.heap[b]?=w.heap[b]?):Row w' b iC:=by
 obtain⟨c,el,hb,hs⟩:=h;exact⟨c,el,hw.trans hb,hs⟩
theorem Row.lt{w:World}{b iC:Nat}(h:Row w b iC):b<w.heap.size:=by
 obtain⟨c,el,hb,hs⟩:=h;exact(Array.getElem?_eq_some_iff.1 hb).1
theorem Row.setCell{w:World}{b iC:Nat}(h:Row w b iC)(a:Addr)(v:Value):Row (w.setCell a v) b iC:=by
 obtain⟨c,el,hb,hs⟩:=h
 by_cases e:a.block=b
 ·refine⟨if a.spot.isSome then c else c.setIfInBounds a.off v,el,?_,?_⟩
  ·simp only[World.setCell,Array.getElem?_modify,e,if_true,hb,bh]
  ·split<;>simp[hs]
 ·exact⟨c,el,by simp only[World.setCell,Array.getElem?_modify,if_neg e];exact hb,hs⟩
theorem Row.setCells{b iC:Nat}(g:Nat): ∀(vs:List Value)(o:Nat)(w:World),Row w b iC->Row (w.setCells g o vs) b iC:=by
 intro vs
 induction vs with
 |nil=>intro o w h;exact h
 |cons v vs ih=>intro o w h;exact ih _ _ (h.setCell _ _)
def iP(E:Env)(w:World)(b o:Nat)(x:af):Prop:=∀j c,x.cells[j]?=some c-> ∃v,w.cell? ⟨b,o+j,none⟩=some v/\ck E w c v
def dR(E:Env)(w:World):cJ->Slot->Prop
 | .box x,.live b iC sz=>Row w b iC/\x.cells.length<=iC/\iP E w b 0 x
 | .arr sz es,.live b iC iz=>sz=iz/\Row w b iC/\es.length*sz<=iC/\(∀x∈es,x.cells.length=sz)/\ ∀i x,es[i]?=some x->iP E w b (i*sz) x
 | .oX ks vs,.HM b=>∃es clock,w.heap[b]?=some (.map es clock)/\ks.length=es.size/\vs.length=es.size/\
   (∀(i:Nat)(k:af)(e:MapEntry),ks[i]?=some k->es[i]?=some e->ck E w k e.key)/\ ∀(i:Nat)(v:af)(e:MapEntry),vs[i]?=some v->es[i]?=some e->ck E w v e.val
 | .iter s pos,.Kb b=>w.heap[b]?=some (.stringIter s pos)
 | .dead,_=>True
 |_,_=>False
structure dL(E:Env)(h:aC)(w:World):Prop where
 obj: ∀id o s,h[id]?=some o->E.m id=some s->dR E w o s
 inj: ∀i j si sj b,E.m i=some si->E.m j=some sj->si.BC=some b->sj.BC=some b->i=j
 nS: ∀b,E.im b-> ¬E.S b
 lt: ∀b,E.im b->b<w.heap.size
 nQ: ∀b,E.S b->b<w.heap.size
def Full(E:Env)(h:aC):Prop:=∀id,h.length<=id->E.m id=none
structure pU(E:Env)(h:aC)(w:World)(E':Env)(h':aC)(w':World):Prop where
 S: ∀b,E.S b->E'.S b
 SN: ∀b,E'.S b->E.S b∨E.im b∨w.heap.size<=b
 mem: ∀b,b<w.heap.size-> ¬E.im b->w'.heap[b]?=w.heap[b]?
 m: ∀id s,E.m id=some s->E'.m id=some s∨E'.m id=some .dead
 new: ∀b,E'.im b->E.im b∨w.heap.size<=b
 len:h.length<=h'.length
 size:w.heap.size<=w'.heap.size
 os:w'.os=w.os
 tape:w'.tape=w.tape
 output:w'.output=w.output
structure Ext(E:Env)(h:aC)(w:World)(E':Env)(h':aC)(w':World):Prop extends pU E h w E' h' w' where
 fresh: ∀id,id<h.length->E.m id=none->E'.m id=none
theorem Ext.refl(E:Env)(h:aC)(w:World):Ext E h w E h w:=
 ⟨⟨fun _ h=>h,fun _ h=>.inl h,fun _ _ _=>rfl,fun _ _ h=>.inl h,fun _ h=>.inl h,aB _,aB _,rfl,rfl,rfl⟩,fun _ _ h=>h⟩
theorem pU.trans{E E1 E2:Env}{h h1 h2:aC}{w w1 w2:World}(a:pU E h w E1 h1 w1)(b:pU E1 h1 w1 E2 h2 w2):pU E h w E2 h2 w2 where
 S:=fun x hx=>b.S x (a.S x hx)
 SN:=fun x hx=>by
  rcases b.SN x hx with h|h|h
  ·exact a.SN x h
  ·exact .inr (a.new x h)
  ·exact .inr (.inr (bw a.size h))
 mem:=fun x hx hn=>by
  have h1: ¬E1.im x:=fun hi=>by
   rcases a.new x hi with h|h
   ·exact hn h
   ·omega
  exact(b.mem x (Nat.lt_of_lt_of_le hx a.size) h1).trans (a.mem x hx hn)
 m:=fun id s hs=>by
  rcases a.m id s hs with h|h
  ·exact b.m id s h
  ·rcases b.m id _ h with h|h<;>exact .inr h
 new:=fun x hx=>by
  rcases b.new x hx with h|h
  ·exact a.new x h
  ·exact .inr (bw a.size h)
 len:=bw a.len b.len
 size:=bw a.size b.size
 os:=b.os.trans a.os
 tape:=b.tape.trans a.tape
 output:=b.output.trans a.output
theorem Ext.NO{E E1 E2:Env}{h h1 h2:aC}{w w1 w2:World}(a:Ext E h w E1 h1 w1)(b:pU E1 h1 w1 E2 h2 w2)(hf: ∀id,id<h.length->E1.m id=none->E2.m id=none):Ext E h w E2 h2 w2:=
 ⟨a.topU.trans b,fun id h1 h2=>hf id h1 (a.fresh id h1 h2)⟩
theorem Ext.trans{E E1 E2:Env}{h h1 h2:aC}{w w1 w2:World}(a:Ext E h w E1 h1 w1)(b:Ext E1 h1 w1 E2 h2 w2):Ext E h w E2 h2 w2:=
 a.NO b.topU fun id h1 h2=>b.fresh id (Nat.lt_of_lt_of_le h1 a.len) h2
theorem pU.NP{E E':Env}{h h':aC}{w w':World}(x:pU E h w E' h' w')(s:dL E h w){b:Nat}(hb:E.S b):w'.heap[b]?=w.heap[b]?:=
 x.mem b (s.nQ b hb) fun hi=>s.nS b hi hb
theorem Ext.NP{E E':Env}{h h':aC}{w w':World}(x:Ext E h w E' h' w')(s:dL E h w){b:Nat}(hb:E.S b):w'.heap[b]?=w.heap[b]?:=x.topU.NP s hb
theorem ck.QO{E E':Env}{h h':aC}{w w':World}(x:pU E h w E' h' w')(s:dL E h w){a:af}{v:Value}(hr:ck E w a v):ck E' w' a v:=
 hr.mono x.S (fun b hb=>x.NP s hb) x.m
theorem ck.ext{E E':Env}{h h':aC}{w w':World}(x:Ext E h w E' h' w')(s:dL E h w){a:af}{v:Value}(hr:ck E w a v):ck E' w' a v:=hr.QO x.topU s
theorem eA.scalar{S:Nat->Prop}{w:World}{a:af}{v:Value}(h:eA S w a v)(hs:a.isScalar=true)(S':Nat->Prop)(w':World):eA S' w' a v:=by
 cases h<;>first|(cases hs;done)|constructor
theorem ck.closed{E:Env}{w:World}{a:af}{v:Value}(h:ck E w a v)(hs:a.isScalar=true)(S':Nat->Prop)(w':World):eA S' w' a v:=by
 cases h with
 |eG h=>exact h.scalar hs S' w'
 |_=>cases hs
theorem d7(w:World)(o:Obj){b:Nat}(h:b<w.heap.size):(w.alloc o).heap[b]?=w.heap[b]?:=Go.RowKit.Below.heap_alloc w o b h
theorem heap_alloc_new(w:World)(o:Obj):(w.alloc o).heap[w.heap.size]?=some o:=by
 show(w.heap.push o)[w.heap.size]?=_;simp
def Env.put(E:Env)(id:Nat)(s:Slot):Env:=⟨fun k=>if k=id then some s else E.m k,E.S⟩
theorem Env.fi(E:Env)(id:Nat)(s:Slot):(E.put id s).m id=some s:=by simp[Env.put]
theorem Env.dj(E:Env){id k:Nat}(s:Slot)(h:k≠id):(E.put id s).m k=E.m k:=by simp[Env.put,h]
theorem dR.mono{E E':Env}{w w':World}{o:cJ}{s:Slot}(hr: ∀a v,ck E w a v->ck E' w' a v)(hb: ∀b,s.BC=some b->w'.heap[b]?=w.heap[b]?)(h:dR E w o s):dR E' w' o s:=by
 have hc: ∀b o x,w'.heap[b]?=w.heap[b]?->iP E w b o x->iP E' w' b o x:=by
  intro b o x NQ hc j c hj;obtain⟨v,h1,h2⟩:=hc j c hj;exact⟨v,by rw[World.cell?_of_block (w:=w) NQ];exact h1,hr _ _ h2⟩
 cases o<;>cases s<;>simp only[dR]at h⊢ <;>try exact h
 case box.live x b iC sz=>
  have NQ:=hb b rfl;exact⟨h.1.Em NQ,h.2.1,hc _ _ _ NQ h.2.2⟩
 case arr.live sz es b iC iz=>
  have NQ:=hb b rfl;obtain⟨h1,h2,h3,h4,h5⟩:=h;exact⟨h1,h2.Em NQ,h3,h4,fun i x hx=>hc _ _ _ NQ (h5 i x hx)⟩
 case oX.HM ks vs b=>
  have NQ:=hb b rfl;obtain⟨es,clock,h1,h2,h3,h4,h5⟩:=h;exact⟨es,clock,NQ.trans h1,h2,h3,fun i k e hk he=>hr _ _ (h4 i k e hk he),fun i v e hv he=>hr _ _ (h5 i v e hv he)⟩
 case iter.Kb s pos b=>exact(hb b rfl).trans h
theorem dL.alloc{E:Env}{h:aC}{w:World}(s:dL E h w)(o:cJ)(ob:Obj)(sl:Slot)(hf:E.m h.length=none)(HN:sl.BC=some w.heap.size)
  (dt:dR (E.put h.length sl) (w.alloc ob) o sl):
  dL (E.put h.length sl) (h++[o]) (w.alloc ob)/\Ext E h w (E.put h.length sl) (h++[o]) (w.alloc ob):=by
   have hx:Ext E h w (E.put h.length sl) (h++[o]) (w.alloc ob):=by
    refine⟨⟨fun _ h=>h,fun _ h=>.inl h,fun b hb _=>d7 w ob hb,fun id s' hs=>.inl ?_,fun b hb=>?_,by simp,by simp,rfl,rfl,rfl⟩,fun id h1 h2=>by rw[Env.dj E sl (by omega)];exact h2⟩
    ·by_cases e:id=h.length
     ·subst e;rw[hf]at hs;cases hs
     ·rw[Env.dj E sl e];exact hs
    ·obtain⟨id,s',h1,h2⟩:=hb
     by_cases e:id=h.length
     ·subst e;rw[Env.fi]at h1;cases h1;rw[HN]at h2;cases h2;exact .inr (aB _)
     ·rw[Env.dj E sl e]at h1;exact .inl ⟨id,s',h1,h2⟩
   refine⟨⟨?_,?_,?_,?_,?_⟩,hx⟩
   ·intro id o' s' ho hs
    by_cases e:id=h.length
    ·subst e;rw[Env.fi]at hs;cases hs
     rw[List.getElem?_append_right (aB _)]at ho;simp at ho;subst ho;exact dt
    ·rw[Env.dj E sl e]at hs
     have eH:id<h.length:=by
      have:=(az.1 ho).1;simp at this;omega
     rw[bp eH]at ho;refine(s.obj id o' s' ho hs).mono (fun a v hr=>hr.ext hx s) fun b hb=>d7 w ob (s.lt b ⟨id,s',hs,hb⟩)
   ·intro i j si sj b hi hj rj vD
    by_cases ei:i=h.length<;>by_cases ej:j=h.length
    ·omega
    ·subst ei;rw[Env.fi]at hi;cases hi
     rw[Env.dj E sl ej]at hj;rw[HN]at rj;cases rj
     exact absurd (s.lt _ ⟨j,sj,hj,vD⟩) (Nat.lt_irrefl _)
    ·subst ej;rw[Env.fi]at hj;cases hj
     rw[Env.dj E sl ei]at hi;rw[HN]at vD;cases vD
     exact absurd (s.lt _ ⟨i,si,hi,rj⟩) (Nat.lt_irrefl _)
    ·rw[Env.dj E sl ei]at hi;rw[Env.dj E sl ej]at hj;exact s.inj i j si sj b hi hj rj vD
   ·intro b hb hS;obtain⟨id,s',h1,h2⟩:=hb
    by_cases e:id=h.length
    ·subst e;rw[Env.fi]at h1;cases h1;rw[HN]at h2;cases h2;exact absurd (s.nQ _ hS) (Nat.lt_irrefl _)
    ·rw[Env.dj E sl e]at h1;exact s.nS b ⟨id,s',h1,h2⟩ hS
   ·intro b hb;obtain⟨id,s',h1,h2⟩:=hb
    by_cases e:id=h.length
    ·subst e;rw[Env.fi]at h1;cases h1;rw[HN]at h2;cases h2;simp
    ·rw[Env.dj E sl e]at h1;have:=s.lt b ⟨id,s',h1,h2⟩;simp;omega
   ·intro b hb;have:=s.nQ b hb;simp;omega
end Go.Am

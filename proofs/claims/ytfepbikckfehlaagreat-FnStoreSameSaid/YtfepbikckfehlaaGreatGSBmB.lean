/- What an abstract value says of a concrete one in a world; what a step may turn; that what was said stays. -/
import Derived.Test.YtfepbikckfehlaaGreatGSBmA
import Derived.Deep.AppendSrc
import Derived.Deep.MidRow
import Derived.Deep.Upon
import Derived.Laws.MakeOwn
import Derived.Laws.Build
import Derived.Laws.StructEq
import Derived.Laws.Slices
set_option linter.unusedVariables false
set_option linter.unusedSimpArgs false
set_option maxHeartbeats 4000000
namespace Go.Am
open Go
inductive Slot where
 |live (b jB sz:Nat)
 |JH (b:Nat)
 |L1 (b:Nat)
 |dead
def Slot.Da:Slot->Option Nat
 | .live b _ _=>some b
 | .JH b=>some b
 | .L1 b=>some b
 | .dead=>none
structure Env where
 m:Nat->Option Slot
 S:Nat->Prop
def Env.im(E:Env)(b:Nat):Prop:=∃id s,E.m id=some s/\s.Da=some b
inductive fD(S:Nat->Prop)(w:World):af->Value->Prop
 |int (k:IntKind) (n:Int):fD S w (.int k n) (.int k n)
 |bool (b:Bool):fD S w (.bool b) (.bool b)
 |str (s:ByteArray):fD S w (.str s) (.string s)
 |nil (a:Option Addr):fD S w .nil (.slice a 0 0)
 |sl (xs:List af) (a:Option Addr) (cap s b o:Nat) (vs:Nat->Nat->Value) (ha:xs≠[]->a=some ⟨b,o,none⟩) (gM:xs.length<=cap) (hs: ∀x∈xs,x.cells.length=s)
  (hc: ∀(i j:Nat)(x c:af),xs[i]?=some x->x.cells[j]?=some c->S b/\w.cell? ⟨b,o+(i*s+j),none⟩=some (vs i j))
  (hr: ∀(i j:Nat)(x c:af),xs[i]?=some x->x.cells[j]?=some c->fD S w c (vs i j)):fD S w (.sl xs) (.slice a xs.length cap)
 |fQ (xs:List af) (i off:Nat) (s b o:Nat) (vs:Nat->Nat->Value) (hs: ∀x∈xs,x.cells.length=s)
  (hc: ∀(i j:Nat)(x c:af),xs[i]?=some x->x.cells[j]?=some c->S b/\w.cell? ⟨b,o+(i*s+j),none⟩=some (vs i j))
  (hr: ∀(i j:Nat)(x c:af),xs[i]?=some x->x.cells[j]?=some c->fD S w c (vs i j)):fD S w (.fQ xs i off) (.pointer (some ⟨b,o+(i*s+off),none⟩))
 |sx:fD S w .sx (.pointer none)
 |qY:fD S w .qY (.map none)
 |oo (ks vs:List af) (b clock:Nat) (es:Array MapEntry) (hS:S b) (hb:w.heap[b]?=some (.map es clock)) (hk:ks.length=es.size) (hv:vs.length=es.size)
  (rk: ∀(i:Nat)(k:af)(e:MapEntry),ks[i]?=some k->es[i]?=some e->fD S w k e.key) (rv: ∀(i:Nat)(v:af)(e:MapEntry),vs[i]?=some v->es[i]?=some e->fD S w v e.val):fD S w (.oo ks vs) (.map (some b))
 |zB:fD S w .zB .nilFunc
 |qZ:fD S w .qZ .nilIface
 |agg (cs:List af) (vs:Array Value) (hl:cs.length=vs.size) (hr: ∀(i:Nat)(c:af)(v:Value),cs[i]?=some c->vs[i]?=some v->fD S w c v):fD S w (.agg cs) (.agg vs)
 |eT (cs:List af) (vs:Array Value) (hl:cs.length=vs.size) (hr: ∀(i:Nat)(c:af)(v:Value),cs[i]?=some c->vs[i]?=some v->fD S w c v):fD S w (.eT cs) (.tuple vs)
 |func (fn:Fn) (a b:List af) (va vb:Array Value) (Ng:a.length=va.size) (vM:b.length=vb.size) (PB: ∀(i:Nat)(c:af)(v:Value),a[i]?=some c->va[i]?=some v->fD S w c v) (PC: ∀(i:Nat)(c:af)(v:Value),b[i]?=some c->vb[i]?=some v->fD S w c v):
  fD S w (.func fn a b) (.func fn va vb)
 |iface (t:TypeId) (a:af) (v:Value) (hr:fD S w a v):fD S w (.iface t a) (.iface t v)
 |gv (g:Nat) (t:TypeId) (a:Addr) (hS:S g) (hc:w.cell? ⟨g,0,none⟩=some (.iface t (.pointer (some a)))):fD S w (.gv g t) (.iface t (.pointer (some a)))
inductive de(E:Env)(w:World):af->Value->Prop
 |fJ {a:af} {v:Value} (h:fD E.S w a v):de E w a v
 |own (id st len:Nat) (a:Option Addr) (cap b jB sz:Nat) (hm:E.m id=some (.live b jB sz)) (gM:len<=cap) (h:(len=0/\cap=0)∨(a=some ⟨b,st*sz,none⟩/\(st+cap)*sz<=jB)):de E w (.own id st len) (.slice a len cap)
 |sE (id st len:Nat) (a:Option Addr) (cap:Nat) (hm:E.m id=some .dead) (gM:len<=cap):de E w (.own id st len) (.slice a len cap)
 |ptr (id i off:Nat) (b jB sz:Nat) (hm:E.m id=some (.live b jB sz)):de E w (.ptr id i off) (.pointer (some ⟨b,i*sz+off,none⟩))
 |xy (id i off:Nat) (a:Addr) (hm:E.m id=some .dead):de E w (.ptr id i off) (.pointer (some a))
 |map (id b:Nat) (hm:E.m id=some (.JH b)):de E w (.map id) (.map (some b))
 |Nh (id:Nat) (b:Nat) (hm:E.m id=some .dead):de E w (.map id) (.map (some b))
 |it (id b:Nat) (hm:E.m id=some (.L1 b)):de E w (.it id) (.pointer (some ⟨b,0,none⟩))
 |XH (id:Nat) (a:Addr) (hm:E.m id=some .dead):de E w (.it id) (.pointer (some a))
 |agg (cs:List af) (vs:Array Value) (hl:cs.length=vs.size) (hr: ∀(i:Nat)(c:af)(v:Value),cs[i]?=some c->vs[i]?=some v->de E w c v):de E w (.agg cs) (.agg vs)
 |eT (cs:List af) (vs:Array Value) (hl:cs.length=vs.size) (hr: ∀(i:Nat)(c:af)(v:Value),cs[i]?=some c->vs[i]?=some v->de E w c v):de E w (.eT cs) (.tuple vs)
 |func (fn:Fn) (a b:List af) (va vb:Array Value) (Ng:a.length=va.size) (vM:b.length=vb.size) (PB: ∀(i:Nat)(c:af)(v:Value),a[i]?=some c->va[i]?=some v->de E w c v) (PC: ∀(i:Nat)(c:af)(v:Value),b[i]?=some c->vb[i]?=some v->de E w c v):
  de E w (.func fn a b) (.func fn va vb)
 |iface (t:TypeId) (a:af) (v:Value) (hr:de E w a v):de E w (.iface t a) (.iface t v)
theorem fD.mono{S S':Nat->Prop}{w w':World}(hS: ∀b,S b->S' b)(hw: ∀b,S b->w'.heap[b]?=w.heap[b]?){a:af}{v:Value}(h:fD S w a v):fD S' w' a v:=by
 induction h with
 |int k n=>exact .int k n
 |bool b=>exact .bool b
 |str s=>exact .str s
 |nil a=>exact .nil a
 |sl xs a cap s b o vs ha gM hs hc hr ih=>
  refine .sl xs a cap s b o vs ha gM hs (fun i j x c hx Db=>?_) ih;obtain⟨h1,h2⟩:=hc i j x c hx Db
  exact⟨hS _ h1,by rw[World.cell?_of_block (w:=w) (hw b h1)];exact h2⟩
 |fQ xs i off s b o vs hs hc hr ih=>
  refine .fQ xs i off s b o vs hs (fun i j x c hx Db=>?_) ih;obtain⟨h1,h2⟩:=hc i j x c hx Db
  exact⟨hS _ h1,by rw[World.cell?_of_block (w:=w) (hw b h1)];exact h2⟩
 |sx=>exact .sx
 |qY=>exact .qY
 |oo ks vs b clock es Xb hb hk hv rk rv ihk ihv=>exact .oo ks vs b clock es (hS b Xb) ((hw b Xb).trans hb) hk hv ihk ihv
 |zB=>exact .zB
 |qZ=>exact .qZ
 |agg cs vs hl hr ih=>exact .agg cs vs hl ih
 |eT cs vs hl hr ih=>exact .eT cs vs hl ih
 |func fn a b va vb Ng vM PB PC sC sD=>exact .func fn a b va vb Ng vM sC sD
 |iface t a v hr ih=>exact .iface t a v ih
 |gv g t a hSg hc=>exact .gv g t a (hS g hSg) (by rw[World.cell?_of_block (w:=w) (hw g hSg)];exact hc)
theorem de.mono{E E':Env}{w w':World}(hS: ∀b,E.S b->E'.S b)(hw: ∀b,E.S b->w'.heap[b]?=w.heap[b]?)(hm: ∀id s,E.m id=some s->E'.m id=some s∨E'.m id=some .dead){a:af}{v:Value}(h:de E w a v):de E' w' a v:=by
 induction h with
 |fJ h=>exact .fJ (h.mono hS hw)
 |own id st len a cap b jB sz ja gM h=>
  rcases hm _ _ ja with h1|h1
  ·exact .own id st len a cap b jB sz h1 gM h
  ·exact .sE id st len a cap h1 gM
 |sE id st len a cap ja gM=>
  rcases hm _ _ ja with h1|h1<;>exact .sE id st len a cap h1 gM
 |ptr id i off b jB sz ja=>
  rcases hm _ _ ja with h1|h1
  ·exact .ptr id i off b jB sz h1
  ·exact .xy id i off _ h1
 |xy id i off a ja=>rcases hm _ _ ja with h1|h1<;>exact .xy id i off a h1
 |map id b ja=>
  rcases hm _ _ ja with h1|h1
  ·exact .map id b h1
  ·exact .Nh id b h1
 |Nh id b ja=>rcases hm _ _ ja with h1|h1<;>exact .Nh id b h1
 |it id b ja=>
  rcases hm _ _ ja with h1|h1
  ·exact .it id b h1
  ·exact .XH id _ h1
 |XH id a ja=>rcases hm _ _ ja with h1|h1<;>exact .XH id a h1
 |agg cs vs hl hr ih=>exact .agg cs vs hl ih
 |eT cs vs hl hr ih=>exact .eT cs vs hl ih
 |func fn a b va vb Ng vM PB PC sC sD=>exact .func fn a b va vb Ng vM sC sD
 |iface t a v hr ih=>exact .iface t a v ih
def Row(w:World)(b jB:Nat):Prop:=∃c el,w.heap[b]?=some (.cells c el (0,0))/\c.size=jB
theorem Row.isSome{w:World}{b jB:Nat}(h:Row w b jB){k:Nat}(hk:k<jB):(w.cell? ⟨b,k,none⟩).isSome=true:=by
 obtain⟨c,el,hb,rfl⟩:=h;simp[World.cell?,hb,hk]
theorem Row.frozen{w:World}{b jB:Nat}(h:Row w b jB)(k:Nat):w.frozen? ⟨b,k,none⟩=false:=by
 obtain⟨c,el,hb,rfl⟩:=h;simp[World.frozen?,hb]
theorem Row.Gr{w w':World}{b jB:Nat}(h:Row w b jB)(hw:w'.heap[b]?=w.heap[b]?):Row w' b jB:=by
 obtain⟨c,el,hb,hs⟩:=h;exact⟨c,el,hw.trans hb,hs⟩
theorem Row.lt{w:World}{b jB:Nat}(h:Row w b jB):b<w.heap.size:=by
 obtain⟨c,el,hb,hs⟩:=h;exact(aaR.1 hb).1
theorem Row.setCell{w:World}{b jB:Nat}(h:Row w b jB)(a:Addr)(v:Value):Row (w.setCell a v) b jB:=by
 obtain⟨c,el,hb,hs⟩:=h
 by_cases e:a.block=b
 ·refine⟨if a.spot.isSome then c else c.setIfInBounds a.off v,el,?_,?_⟩
  ·simp only[World.setCell,Array.getElem?_modify,e,if_true,hb,aaL]
  ·split<;>simp[hs]
 ·exact⟨c,el,by simp only[World.setCell,Array.getElem?_modify,if_neg e];exact hb,hs⟩
theorem Row.setCells{b jB:Nat}(g:Nat): ∀(vs:List Value)(o:Nat)(w:World),Row w b jB->Row (w.setCells g o vs) b jB:=by
 intro vs
 induction vs with
 |nil=>intro o w h;exact h
 |cons v vs ih=>intro o w h;exact ih _ _ (h.setCell _ _)
def jO(E:Env)(w:World)(b o:Nat)(x:af):Prop:=∀j c,x.cells[j]?=some c-> ∃v,w.cell? ⟨b,o+j,none⟩=some v/\de E w c v
def eO(E:Env)(w:World):dH->Slot->Prop
 | .box x,.live b jB sz=>Row w b jB/\x.cells.length<=jB/\jO E w b 0 x
 | .arr sz es,.live b jB jz=>sz=jz/\Row w b jB/\es.length*sz<=jB/\(∀x∈es,x.cells.length=sz)/\ ∀i x,es[i]?=some x->jO E w b (i*sz) x
 | .qv ks vs,.JH b=>∃es clock,w.heap[b]?=some (.map es clock)/\ks.length=es.size/\vs.length=es.size/\
   (∀(i:Nat)(k:af)(e:MapEntry),ks[i]?=some k->es[i]?=some e->de E w k e.key)/\ ∀(i:Nat)(v:af)(e:MapEntry),vs[i]?=some v->es[i]?=some e->de E w v e.val
 | .iter s pos,.L1 b=>w.heap[b]?=some (.stringIter s pos)
 | .dead,_=>True
 |_,_=>False
structure eG(E:Env)(h:aG)(w:World):Prop where
 obj: ∀id o s,h[id]?=some o->E.m id=some s->eO E w o s
 inj: ∀i j si sj b,E.m i=some si->E.m j=some sj->si.Da=some b->sj.Da=some b->i=j
 nS: ∀b,E.im b-> ¬E.S b
 lt: ∀b,E.im b->b<w.heap.size
 pM: ∀b,E.S b->b<w.heap.size
def Full(E:Env)(h:aG):Prop:=∀id,h.length<=id->E.m id=none
structure ri(E:Env)(h:aG)(w:World)(E':Env)(h':aG)(w':World):Prop where
 S: ∀b,E.S b->E'.S b
 SN: ∀b,E'.S b->E.S b∨E.im b∨w.heap.size<=b
 mem: ∀b,b<w.heap.size-> ¬E.im b->w'.heap[b]?=w.heap[b]?
 m: ∀id s,E.m id=some s->E'.m id=some s∨E'.m id=some .dead
 new: ∀b,E'.im b->E.im b∨w.heap.size<=b
 len:h.length<=h'.length
 size:w.heap.size<=w'.heap.size
 os:w'.os=w.os
 tape:w'.tape=w.tape
 output:w'.output=w.output
structure Ext(E:Env)(h:aG)(w:World)(E':Env)(h':aG)(w':World):Prop extends ri E h w E' h' w' where
 fresh: ∀id,id<h.length->E.m id=none->E'.m id=none
theorem Ext.refl(E:Env)(h:aG)(w:World):Ext E h w E h w:=
 ⟨⟨fun _ h=>h,fun _ h=>.inl h,fun _ _ _=>rfl,fun _ _ h=>.inl h,fun _ h=>.inl h,aah _,aah _,rfl,rfl,rfl⟩,fun _ _ h=>h⟩
theorem ri.trans{E E1 E2:Env}{h h1 h2:aG}{w w1 w2:World}(a:ri E h w E1 h1 w1)(b:ri E1 h1 w1 E2 h2 w2):ri E h w E2 h2 w2 where
 S:=fun x hx=>b.S x (a.S x hx)
 SN:=fun x hx=>by
  rcases b.SN x hx with h|h|h
  ·exact a.SN x h
  ·exact .inr (a.new x h)
  ·exact .inr (.inr (aa3 a.size h))
 mem:=fun x hx hn=>by
  have h1: ¬E1.im x:=fun hi=>by
   rcases a.new x hi with h|h
   ·exact hn h
   ·omega
  exact(b.mem x (abc hx a.size) h1).trans (a.mem x hx hn)
 m:=fun id s hs=>by
  rcases a.m id s hs with h|h
  ·exact b.m id s h
  ·rcases b.m id _ h with h|h<;>exact .inr h
 new:=fun x hx=>by
  rcases b.new x hx with h|h
  ·exact a.new x h
  ·exact .inr (aa3 a.size h)
 len:=aa3 a.len b.len
 size:=aa3 a.size b.size
 os:=b.os.trans a.os
 tape:=b.tape.trans a.tape
 output:=b.output.trans a.output
theorem Ext.PD{E E1 E2:Env}{h h1 h2:aG}{w w1 w2:World}(a:Ext E h w E1 h1 w1)(b:ri E1 h1 w1 E2 h2 w2)(hf: ∀id,id<h.length->E1.m id=none->E2.m id=none):Ext E h w E2 h2 w2:=
 ⟨a.tori.trans b,fun id h1 h2=>hf id h1 (a.fresh id h1 h2)⟩
theorem Ext.trans{E E1 E2:Env}{h h1 h2:aG}{w w1 w2:World}(a:Ext E h w E1 h1 w1)(b:Ext E1 h1 w1 E2 h2 w2):Ext E h w E2 h2 w2:=
 a.PD b.tori fun id h1 h2=>b.fresh id (abc h1 a.len) h2
theorem ri.PE{E E':Env}{h h':aG}{w w':World}(x:ri E h w E' h' w')(s:eG E h w){b:Nat}(hb:E.S b):w'.heap[b]?=w.heap[b]?:=
 x.mem b (s.pM b hb) fun hi=>s.nS b hi hb
theorem Ext.PE{E E':Env}{h h':aG}{w w':World}(x:Ext E h w E' h' w')(s:eG E h w){b:Nat}(hb:E.S b):w'.heap[b]?=w.heap[b]?:=x.tori.PE s hb
theorem de.SD{E E':Env}{h h':aG}{w w':World}(x:ri E h w E' h' w')(s:eG E h w){a:af}{v:Value}(hr:de E w a v):de E' w' a v:=
 hr.mono x.S (fun b hb=>x.PE s hb) x.m
theorem de.ext{E E':Env}{h h':aG}{w w':World}(x:Ext E h w E' h' w')(s:eG E h w){a:af}{v:Value}(hr:de E w a v):de E' w' a v:=hr.SD x.tori s
theorem fD.scalar{S:Nat->Prop}{w:World}{a:af}{v:Value}(h:fD S w a v)(hs:a.isScalar=true)(S':Nat->Prop)(w':World):fD S' w' a v:=by
 cases h<;>first|(cases hs;done)|constructor
theorem de.closed{E:Env}{w:World}{a:af}{v:Value}(h:de E w a v)(hs:a.isScalar=true)(S':Nat->Prop)(w':World):fD S' w' a v:=by
 cases h with
 |fJ h=>exact h.scalar hs S' w'
 |_=>cases hs
theorem eX(w:World)(o:Obj){b:Nat}(h:b<w.heap.size):(w.alloc o).heap[b]?=w.heap[b]?:=Go.RowKit.Below.heap_alloc w o b h
theorem heap_alloc_new(w:World)(o:Obj):(w.alloc o).heap[w.heap.size]?=some o:=by
 show(w.heap.push o)[w.heap.size]?=_;simp
def Env.put(E:Env)(id:Nat)(s:Slot):Env:=⟨fun k=>if k=id then some s else E.m k,E.S⟩
theorem Env.gn(E:Env)(id:Nat)(s:Slot):(E.put id s).m id=some s:=by simp[Env.put]
theorem Env.dW(E:Env){id k:Nat}(s:Slot)(h:k≠id):(E.put id s).m k=E.m k:=by simp[Env.put,h]
theorem eO.mono{E E':Env}{w w':World}{o:dH}{s:Slot}(hr: ∀a v,de E w a v->de E' w' a v)(hb: ∀b,s.Da=some b->w'.heap[b]?=w.heap[b]?)(h:eO E w o s):eO E' w' o s:=by
 have hc: ∀b o x,w'.heap[b]?=w.heap[b]?->jO E w b o x->jO E' w' b o x:=by
  intro b o x PF hc j c hj;obtain⟨v,h1,h2⟩:=hc j c hj;exact⟨v,by rw[World.cell?_of_block (w:=w) PF];exact h1,hr _ _ h2⟩
 cases o<;>cases s<;>simp only[eO]at h⊢ <;>try exact h
 case box.live x b jB sz=>
  have PF:=hb b rfl;exact⟨h.1.Gr PF,h.2.1,hc _ _ _ PF h.2.2⟩
 case arr.live sz es b jB jz=>
  have PF:=hb b rfl;obtain⟨h1,h2,h3,h4,h5⟩:=h;exact⟨h1,h2.Gr PF,h3,h4,fun i x hx=>hc _ _ _ PF (h5 i x hx)⟩
 case qv.JH ks vs b=>
  have PF:=hb b rfl;obtain⟨es,clock,h1,h2,h3,h4,h5⟩:=h;exact⟨es,clock,PF.trans h1,h2,h3,fun i k e hk he=>hr _ _ (h4 i k e hk he),fun i v e hv he=>hr _ _ (h5 i v e hv he)⟩
 case iter.L1 s pos b=>exact(hb b rfl).trans h
theorem eG.alloc{E:Env}{h:aG}{w:World}(s:eG E h w)(o:dH)(ob:Obj)(sl:Slot)(hf:E.m h.length=none)(Gt:sl.Da=some w.heap.size)
  (eb:eO (E.put h.length sl) (w.alloc ob) o sl):
  eG (E.put h.length sl) (h++[o]) (w.alloc ob)/\Ext E h w (E.put h.length sl) (h++[o]) (w.alloc ob):=by
   have hx:Ext E h w (E.put h.length sl) (h++[o]) (w.alloc ob):=by
    refine⟨⟨fun _ h=>h,fun _ h=>.inl h,fun b hb _=>eX w ob hb,fun id s' hs=>.inl ?_,fun b hb=>?_,by simp,by simp,rfl,rfl,rfl⟩,fun id h1 h2=>by rw[Env.dW E sl (by omega)];exact h2⟩
    ·by_cases e:id=h.length
     ·subst e;rw[hf]at hs;cases hs
     ·rw[Env.dW E sl e];exact hs
    ·obtain⟨id,s',h1,h2⟩:=hb
     by_cases e:id=h.length
     ·subst e;rw[Env.gn]at h1;cases h1;rw[Gt]at h2;cases h2;exact .inr (aah _)
     ·rw[Env.dW E sl e]at h1;exact .inl ⟨id,s',h1,h2⟩
   refine⟨⟨?_,?_,?_,?_,?_⟩,hx⟩
   ·intro id o' s' ho hs
    by_cases e:id=h.length
    ·subst e;rw[Env.gn]at hs;cases hs
     rw[aaQ (aah _)]at ho;simp at ho;subst ho;exact eb
    ·rw[Env.dW E sl e]at hs
     have fK:id<h.length:=by
      have:=(aag.1 ho).1;simp at this;omega
     rw[aaN fK]at ho;refine(s.obj id o' s' ho hs).mono (fun a v hr=>hr.ext hx s) fun b hb=>eX w ob (s.lt b ⟨id,s',hs,hb⟩)
   ·intro i j si sj b hi hj sF xm
    by_cases ei:i=h.length<;>by_cases ej:j=h.length
    ·omega
    ·subst ei;rw[Env.gn]at hi;cases hi
     rw[Env.dW E sl ej]at hj;rw[Gt]at sF;cases sF
     exact absurd (s.lt _ ⟨j,sj,hj,xm⟩) (Nat.lt_irrefl _)
    ·subst ej;rw[Env.gn]at hj;cases hj
     rw[Env.dW E sl ei]at hi;rw[Gt]at xm;cases xm
     exact absurd (s.lt _ ⟨i,si,hi,sF⟩) (Nat.lt_irrefl _)
    ·rw[Env.dW E sl ei]at hi;rw[Env.dW E sl ej]at hj;exact s.inj i j si sj b hi hj sF xm
   ·intro b hb hS;obtain⟨id,s',h1,h2⟩:=hb
    by_cases e:id=h.length
    ·subst e;rw[Env.gn]at h1;cases h1;rw[Gt]at h2;cases h2;exact absurd (s.pM _ hS) (Nat.lt_irrefl _)
    ·rw[Env.dW E sl e]at h1;exact s.nS b ⟨id,s',h1,h2⟩ hS
   ·intro b hb;obtain⟨id,s',h1,h2⟩:=hb
    by_cases e:id=h.length
    ·subst e;rw[Env.gn]at h1;cases h1;rw[Gt]at h2;cases h2;simp
    ·rw[Env.dW E sl e]at h1;have:=s.lt b ⟨id,s',h1,h2⟩;simp;omega
   ·intro b hb;have:=s.pM b hb;simp;omega
end Go.Am

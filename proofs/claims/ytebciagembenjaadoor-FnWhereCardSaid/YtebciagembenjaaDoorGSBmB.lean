/- What an abstract value says of a concrete one in a world; what a step may turn; that what was said stays. -/
import Derived.Test.YtebciagembenjaaDoorGSBmA
import Derived.Deep.AppendSrc
import Derived.Deep.MidRow
import Derived.Deep.Upon
import Derived.Laws.MakeOwn
import Derived.Laws.Build
import Derived.Laws.StructEq
import Derived.Laws.Slices
set_option linter.unusedVariables false
set_option linter.unusedSimpArgs false
/- What an abstract value says of a concrete one in a world; what a step may turn; that what was said stays. -/
set_option maxHeartbeats 4000000
namespace Go.Am
open Go
inductive Slot where
 | live (b csz sz : Nat)
 | mapS (b : Nat)
 | iterS (b : Nat)
 | dead
def Slot.blk : Slot → Option Nat
 | .live b _ _=>some b
 | .mapS b=>some b
 | .iterS b=>some b
 | .dead=>none
structure Env where
 m : Nat → Option Slot
 S : Nat → Prop
def Env.im (E : Env) (b : Nat) : Prop:=∃ id s,E.m id = some s ∧ s.blk = some b
inductive RepC (S : Nat → Prop) (w : World) : AVal → Value → Prop
 | int (k : IntKind) (n : Int) : RepC S w (.int k n) (.int k n)
 | bool (b : Bool) : RepC S w (.bool b) (.bool b)
 | str (s : ByteArray) : RepC S w (.str s) (.string s)
 | nil (a : Option Addr) : RepC S w .nil (.slice a 0 0)
 | sl (xs : List AVal) (a : Option Addr) (cap s b o : Nat) (vs : Nat → Nat → Value) (ha : xs ≠ [] → a = some ⟨b,o,none⟩) (hcap : xs.length ≤ cap) (hs : ∀ x ∈ xs,x.cells.length = s)
   (hc : ∀ (i j : Nat) (x c : AVal),xs[i]? = some x → x.cells[j]? = some c → S b ∧ w.cell? ⟨b,o + (i * s + j),none⟩ = some (vs i j))
   (hr : ∀ (i j : Nat) (x c : AVal),xs[i]? = some x → x.cells[j]? = some c → RepC S w c (vs i j)) : RepC S w (.sl xs) (.slice a xs.length cap)
 | iptr (xs : List AVal) (i off : Nat) (s b o : Nat) (vs : Nat → Nat → Value) (hs : ∀ x ∈ xs,x.cells.length = s)
   (hc : ∀ (i j : Nat) (x c : AVal),xs[i]? = some x → x.cells[j]? = some c → S b ∧ w.cell? ⟨b,o + (i * s + j),none⟩ = some (vs i j))
   (hr : ∀ (i j : Nat) (x c : AVal),xs[i]? = some x → x.cells[j]? = some c → RepC S w c (vs i j)) : RepC S w (.iptr xs i off) (.pointer (some ⟨b,o + (i * s + off),none⟩))
 | nilp : RepC S w .nilp (.pointer none)
 | nilm : RepC S w .nilm (.map none)
 | cmap (ks vs : List AVal) (b clock : Nat) (es : Array MapEntry) (hS : S b) (hb : w.heap[b]? = some (.map es clock)) (hk : ks.length = es.size) (hv : vs.length = es.size)
   (rk : ∀ (i : Nat) (k : AVal) (e : MapEntry),ks[i]? = some k → es[i]? = some e → RepC S w k e.key) (rv : ∀ (i : Nat) (v : AVal) (e : MapEntry),vs[i]? = some v → es[i]? = some e → RepC S w v e.val) : RepC S w (.cmap ks vs) (.map (some b))
 | nilf : RepC S w .nilf .nilFunc
 | nili : RepC S w .nili .nilIface
 | agg (cs : List AVal) (vs : Array Value) (hl : cs.length = vs.size) (hr : ∀ (i : Nat) (c : AVal) (v : Value),cs[i]? = some c → vs[i]? = some v → RepC S w c v) : RepC S w (.agg cs) (.agg vs)
 | tup (cs : List AVal) (vs : Array Value) (hl : cs.length = vs.size) (hr : ∀ (i : Nat) (c : AVal) (v : Value),cs[i]? = some c → vs[i]? = some v → RepC S w c v) : RepC S w (.tup cs) (.tuple vs)
 | func (fn : Fn) (a b : List AVal) (va vb : Array Value) (hla : a.length = va.size) (hlb : b.length = vb.size) (hra : ∀ (i : Nat) (c : AVal) (v : Value),a[i]? = some c → va[i]? = some v → RepC S w c v) (hrb : ∀ (i : Nat) (c : AVal) (v : Value),b[i]? = some c → vb[i]? = some v → RepC S w c v) :
   RepC S w (.func fn a b) (.func fn va vb)
 | iface (t : TypeId) (a : AVal) (v : Value) (hr : RepC S w a v) : RepC S w (.iface t a) (.iface t v)
 | gv (g : Nat) (t : TypeId) (a : Addr) (hS : S g) (hc : w.cell? ⟨g,0,none⟩ = some (.iface t (.pointer (some a)))) : RepC S w (.gv g t) (.iface t (.pointer (some a)))
inductive Rep (E : Env) (w : World) : AVal → Value → Prop
 | clo {a : AVal} {v : Value} (h : RepC E.S w a v) : Rep E w a v
 | own (id st len : Nat) (a : Option Addr) (cap b csz sz : Nat) (hm : E.m id = some (.live b csz sz)) (hcap : len ≤ cap) (h : (len = 0 ∧ cap = 0) ∨ (a = some ⟨b,st * sz,none⟩ ∧ (st + cap) * sz ≤ csz)) : Rep E w (.own id st len) (.slice a len cap)
 | ownD (id st len : Nat) (a : Option Addr) (cap : Nat) (hm : E.m id = some .dead) (hcap : len ≤ cap) : Rep E w (.own id st len) (.slice a len cap)
 | ptr (id i off : Nat) (b csz sz : Nat) (hm : E.m id = some (.live b csz sz)) : Rep E w (.ptr id i off) (.pointer (some ⟨b,i * sz + off,none⟩))
 | ptrD (id i off : Nat) (a : Addr) (hm : E.m id = some .dead) : Rep E w (.ptr id i off) (.pointer (some a))
 | map (id b : Nat) (hm : E.m id = some (.mapS b)) : Rep E w (.map id) (.map (some b))
 | mapD (id : Nat) (b : Nat) (hm : E.m id = some .dead) : Rep E w (.map id) (.map (some b))
 | it (id b : Nat) (hm : E.m id = some (.iterS b)) : Rep E w (.it id) (.pointer (some ⟨b,0,none⟩))
 | itD (id : Nat) (a : Addr) (hm : E.m id = some .dead) : Rep E w (.it id) (.pointer (some a))
 | agg (cs : List AVal) (vs : Array Value) (hl : cs.length = vs.size) (hr : ∀ (i : Nat) (c : AVal) (v : Value),cs[i]? = some c → vs[i]? = some v → Rep E w c v) : Rep E w (.agg cs) (.agg vs)
 | tup (cs : List AVal) (vs : Array Value) (hl : cs.length = vs.size) (hr : ∀ (i : Nat) (c : AVal) (v : Value),cs[i]? = some c → vs[i]? = some v → Rep E w c v) : Rep E w (.tup cs) (.tuple vs)
 | func (fn : Fn) (a b : List AVal) (va vb : Array Value) (hla : a.length = va.size) (hlb : b.length = vb.size) (hra : ∀ (i : Nat) (c : AVal) (v : Value),a[i]? = some c → va[i]? = some v → Rep E w c v) (hrb : ∀ (i : Nat) (c : AVal) (v : Value),b[i]? = some c → vb[i]? = some v → Rep E w c v) :
   Rep E w (.func fn a b) (.func fn va vb)
 | iface (t : TypeId) (a : AVal) (v : Value) (hr : Rep E w a v) : Rep E w (.iface t a) (.iface t v)
theorem RepC.mono {S S' : Nat → Prop} {w w' : World} (hS : ∀ b,S b → S' b) (hw : ∀ b,S b → w'.heap[b]? = w.heap[b]?) {a : AVal} {v : Value} (h : RepC S w a v) : RepC S' w' a v:=by
 induction h with
 | int k n=>exact .int k n
 | bool b=>exact .bool b
 | str s=>exact .str s
 | nil a=>exact .nil a
 | sl xs a cap s b o vs ha hcap hs hc hr ih=>
  refine .sl xs a cap s b o vs ha hcap hs (fun i j x c hx hcc=>?_) ih
  obtain ⟨h1,h2⟩:=hc i j x c hx hcc
  exact ⟨hS _ h1,by rw [World.cell?_of_block (w:=w) (hw b h1)]; exact h2⟩
 | iptr xs i off s b o vs hs hc hr ih=>
  refine .iptr xs i off s b o vs hs (fun i j x c hx hcc=>?_) ih
  obtain ⟨h1,h2⟩:=hc i j x c hx hcc
  exact ⟨hS _ h1,by rw [World.cell?_of_block (w:=w) (hw b h1)]; exact h2⟩
 | nilp=>exact .nilp
 | nilm=>exact .nilm
 | cmap ks vs b clock es hSb hb hk hv rk rv ihk ihv=>exact .cmap ks vs b clock es (hS b hSb) ((hw b hSb).trans hb) hk hv ihk ihv
 | nilf=>exact .nilf
 | nili=>exact .nili
 | agg cs vs hl hr ih=>exact .agg cs vs hl ih
 | tup cs vs hl hr ih=>exact .tup cs vs hl ih
 | func fn a b va vb hla hlb hra hrb iha ihb=>exact .func fn a b va vb hla hlb iha ihb
 | iface t a v hr ih=>exact .iface t a v ih
 | gv g t a hSg hc=>exact .gv g t a (hS g hSg) (by rw [World.cell?_of_block (w:=w) (hw g hSg)]; exact hc)
theorem Rep.mono {E E' : Env} {w w' : World} (hS : ∀ b,E.S b → E'.S b) (hw : ∀ b,E.S b → w'.heap[b]? = w.heap[b]?) (hm : ∀ id s,E.m id = some s → E'.m id = some s ∨ E'.m id = some .dead) {a : AVal} {v : Value} (h : Rep E w a v) : Rep E' w' a v:=by
 induction h with
 | clo h=>exact .clo (h.mono hS hw)
 | own id st len a cap b csz sz hm' hcap h=>
  rcases hm _ _ hm' with h1 | h1
  ·exact .own id st len a cap b csz sz h1 hcap h
  ·exact .ownD id st len a cap h1 hcap
 | ownD id st len a cap hm' hcap=>
  rcases hm _ _ hm' with h1 | h1 <;> exact .ownD id st len a cap h1 hcap
 | ptr id i off b csz sz hm'=>
  rcases hm _ _ hm' with h1 | h1
  ·exact .ptr id i off b csz sz h1
  ·exact .ptrD id i off _ h1
 | ptrD id i off a hm'=>rcases hm _ _ hm' with h1 | h1 <;> exact .ptrD id i off a h1
 | map id b hm'=>
  rcases hm _ _ hm' with h1 | h1
  ·exact .map id b h1
  ·exact .mapD id b h1
 | mapD id b hm'=>rcases hm _ _ hm' with h1 | h1 <;> exact .mapD id b h1
 | it id b hm'=>
  rcases hm _ _ hm' with h1 | h1
  ·exact .it id b h1
  ·exact .itD id _ h1
 | itD id a hm'=>rcases hm _ _ hm' with h1 | h1 <;> exact .itD id a h1
 | agg cs vs hl hr ih=>exact .agg cs vs hl ih
 | tup cs vs hl hr ih=>exact .tup cs vs hl ih
 | func fn a b va vb hla hlb hra hrb iha ihb=>exact .func fn a b va vb hla hlb iha ihb
 | iface t a v hr ih=>exact .iface t a v ih
def Row (w : World) (b csz : Nat) : Prop:=∃ c el,w.heap[b]? = some (.cells c el (0,0)) ∧ c.size = csz
theorem Row.isSome {w : World} {b csz : Nat} (h : Row w b csz) {k : Nat} (hk : k < csz) : (w.cell? ⟨b,k,none⟩).isSome = true:=by
 obtain ⟨c,el,hb,rfl⟩:=h
 simp [World.cell?,hb,hk]
theorem Row.frozen {w : World} {b csz : Nat} (h : Row w b csz) (k : Nat) : w.frozen? ⟨b,k,none⟩ = false:=by
 obtain ⟨c,el,hb,rfl⟩:=h
 simp [World.frozen?,hb]
theorem Row.of_block {w w' : World} {b csz : Nat} (h : Row w b csz) (hw : w'.heap[b]? = w.heap[b]?) : Row w' b csz:=by
 obtain ⟨c,el,hb,hs⟩:=h
 exact ⟨c,el,hw.trans hb,hs⟩
theorem Row.lt {w : World} {b csz : Nat} (h : Row w b csz) : b < w.heap.size:=by
 obtain ⟨c,el,hb,hs⟩:=h
 exact (Array.getElem?_eq_some_iff.1 hb).1
theorem Row.setCell {w : World} {b csz : Nat} (h : Row w b csz) (a : Addr) (v : Value) : Row (w.setCell a v) b csz:=by
 obtain ⟨c,el,hb,hs⟩:=h
 by_cases e : a.block = b
 ·refine ⟨if a.spot.isSome then c else c.setIfInBounds a.off v,el,?_,?_⟩
  ·simp only [World.setCell,Array.getElem?_modify,e,if_true,hb,Option.map_some]
  ·split <;> simp [hs]
 ·exact ⟨c,el,by simp only [World.setCell,Array.getElem?_modify,if_neg e]; exact hb,hs⟩
theorem Row.setCells {b csz : Nat} (g : Nat) : ∀ (vs : List Value) (o : Nat) (w : World),Row w b csz → Row (w.setCells g o vs) b csz:=by
 intro vs
 induction vs with
 | nil=>intro o w h; exact h
 | cons v vs ih=>intro o w h; exact ih _ _ (h.setCell _ _)
def CellsAt (E : Env) (w : World) (b o : Nat) (x : AVal) : Prop:=∀ j c,x.cells[j]? = some c → ∃ v,w.cell? ⟨b,o + j,none⟩ = some v ∧ Rep E w c v
def ObjOk (E : Env) (w : World) : AObj → Slot → Prop
 | .box x,.live b csz sz=>Row w b csz ∧ x.cells.length ≤ csz ∧ CellsAt E w b 0 x
 | .arr sz es,.live b csz sz'=>sz = sz' ∧ Row w b csz ∧ es.length * sz ≤ csz ∧ (∀ x ∈ es,x.cells.length = sz) ∧ ∀ i x,es[i]? = some x → CellsAt E w b (i * sz) x
 | .amap ks vs,.mapS b=>∃ es clock,w.heap[b]? = some (.map es clock) ∧ ks.length = es.size ∧ vs.length = es.size ∧
   (∀ (i : Nat) (k : AVal) (e : MapEntry),ks[i]? = some k → es[i]? = some e → Rep E w k e.key) ∧ ∀ (i : Nat) (v : AVal) (e : MapEntry),vs[i]? = some v → es[i]? = some e → Rep E w v e.val
 | .iter s pos,.iterS b=>w.heap[b]? = some (.stringIter s pos)
 | .dead,_=>True
 | _,_=>False
structure Sim (E : Env) (h : Heap) (w : World) : Prop where
 obj : ∀ id o s,h[id]? = some o → E.m id = some s → ObjOk E w o s
 inj : ∀ i j si sj b,E.m i = some si → E.m j = some sj → si.blk = some b → sj.blk = some b → i = j
 nS : ∀ b,E.im b → ¬ E.S b
 lt : ∀ b,E.im b → b < w.heap.size
 Slt : ∀ b,E.S b → b < w.heap.size
def Full (E : Env) (h : Heap) : Prop:=∀ id,h.length ≤ id → E.m id = none
structure Ext0 (E : Env) (h : Heap) (w : World) (E' : Env) (h' : Heap) (w' : World) : Prop where
 S : ∀ b,E.S b → E'.S b
 SN : ∀ b,E'.S b → E.S b ∨ E.im b ∨ w.heap.size ≤ b
 mem : ∀ b,b < w.heap.size → ¬ E.im b → w'.heap[b]? = w.heap[b]?
 m : ∀ id s,E.m id = some s → E'.m id = some s ∨ E'.m id = some .dead
 new : ∀ b,E'.im b → E.im b ∨ w.heap.size ≤ b
 len : h.length ≤ h'.length
 size : w.heap.size ≤ w'.heap.size
 os : w'.os = w.os
 tape : w'.tape = w.tape
 output : w'.output = w.output
structure Ext (E : Env) (h : Heap) (w : World) (E' : Env) (h' : Heap) (w' : World) : Prop extends Ext0 E h w E' h' w' where
 fresh : ∀ id,id < h.length → E.m id = none → E'.m id = none
theorem Ext.refl (E : Env) (h : Heap) (w : World) : Ext E h w E h w:=
 ⟨⟨fun _ h=>h,fun _ h=>.inl h,fun _ _ _=>rfl,fun _ _ h=>.inl h,fun _ h=>.inl h,Nat.le_refl _,Nat.le_refl _,rfl,rfl,rfl⟩,fun _ _ h=>h⟩
theorem Ext0.trans {E E1 E2 : Env} {h h1 h2 : Heap} {w w1 w2 : World} (a : Ext0 E h w E1 h1 w1) (b : Ext0 E1 h1 w1 E2 h2 w2) : Ext0 E h w E2 h2 w2 where
 S:=fun x hx=>b.S x (a.S x hx)
 SN:=fun x hx=>by
  rcases b.SN x hx with h | h | h
  ·exact a.SN x h
  ·exact .inr (a.new x h)
  ·exact .inr (.inr (Nat.le_trans a.size h))
 mem:=fun x hx hn=>by
  have h1 : ¬ E1.im x:=fun hi=>by
   rcases a.new x hi with h | h
   ·exact hn h
   ·omega
  exact (b.mem x (Nat.lt_of_lt_of_le hx a.size) h1).trans (a.mem x hx hn)
 m:=fun id s hs=>by
  rcases a.m id s hs with h | h
  ·exact b.m id s h
  ·rcases b.m id _ h with h | h <;> exact .inr h
 new:=fun x hx=>by
  rcases b.new x hx with h | h
  ·exact a.new x h
  ·exact .inr (Nat.le_trans a.size h)
 len:=Nat.le_trans a.len b.len
 size:=Nat.le_trans a.size b.size
 os:=b.os.trans a.os
 tape:=b.tape.trans a.tape
 output:=b.output.trans a.output
theorem Ext.trans0 {E E1 E2 : Env} {h h1 h2 : Heap} {w w1 w2 : World} (a : Ext E h w E1 h1 w1) (b : Ext0 E1 h1 w1 E2 h2 w2) (hf : ∀ id,id < h.length → E1.m id = none → E2.m id = none) : Ext E h w E2 h2 w2:=
 ⟨a.toExt0.trans b,fun id h1 h2=>hf id h1 (a.fresh id h1 h2)⟩
theorem Ext.trans {E E1 E2 : Env} {h h1 h2 : Heap} {w w1 w2 : World} (a : Ext E h w E1 h1 w1) (b : Ext E1 h1 w1 E2 h2 w2) : Ext E h w E2 h2 w2:=
 a.trans0 b.toExt0 fun id h1 h2=>b.fresh id (Nat.lt_of_lt_of_le h1 a.len) h2
theorem Ext0.Smem {E E' : Env} {h h' : Heap} {w w' : World} (x : Ext0 E h w E' h' w') (s : Sim E h w) {b : Nat} (hb : E.S b) : w'.heap[b]? = w.heap[b]?:=
 x.mem b (s.Slt b hb) fun hi=>s.nS b hi hb
theorem Ext.Smem {E E' : Env} {h h' : Heap} {w w' : World} (x : Ext E h w E' h' w') (s : Sim E h w) {b : Nat} (hb : E.S b) : w'.heap[b]? = w.heap[b]?:=x.toExt0.Smem s hb
theorem Rep.ext0 {E E' : Env} {h h' : Heap} {w w' : World} (x : Ext0 E h w E' h' w') (s : Sim E h w) {a : AVal} {v : Value} (hr : Rep E w a v) : Rep E' w' a v:=
 hr.mono x.S (fun b hb=>x.Smem s hb) x.m
theorem Rep.ext {E E' : Env} {h h' : Heap} {w w' : World} (x : Ext E h w E' h' w') (s : Sim E h w) {a : AVal} {v : Value} (hr : Rep E w a v) : Rep E' w' a v:=hr.ext0 x.toExt0 s
theorem RepC.scalar {S : Nat → Prop} {w : World} {a : AVal} {v : Value} (h : RepC S w a v) (hs : a.isScalar = true) (S' : Nat → Prop) (w' : World) : RepC S' w' a v:=by
 cases h <;> first | (cases hs; done) | constructor
theorem Rep.closed {E : Env} {w : World} {a : AVal} {v : Value} (h : Rep E w a v) (hs : a.isScalar = true) (S' : Nat → Prop) (w' : World) : RepC S' w' a v:=by
 cases h with
 | clo h=>exact h.scalar hs S' w'
 | _=>cases hs
theorem heap_alloc_lt (w : World) (o : Obj) {b : Nat} (h : b < w.heap.size) : (w.alloc o).heap[b]? = w.heap[b]?:=Go.RowKit.Below.heap_alloc w o b h
theorem heap_alloc_new (w : World) (o : Obj) : (w.alloc o).heap[w.heap.size]? = some o:=by
 show (w.heap.push o)[w.heap.size]? = _
 simp
def Env.put (E : Env) (id : Nat) (s : Slot) : Env:=⟨fun k=>if k = id then some s else E.m k,E.S⟩
theorem Env.put_same (E : Env) (id : Nat) (s : Slot) : (E.put id s).m id = some s:=by simp [Env.put]
theorem Env.put_other (E : Env) {id k : Nat} (s : Slot) (h : k ≠ id) : (E.put id s).m k = E.m k:=by simp [Env.put,h]
theorem ObjOk.mono {E E' : Env} {w w' : World} {o : AObj} {s : Slot} (hr : ∀ a v,Rep E w a v → Rep E' w' a v) (hb : ∀ b,s.blk = some b → w'.heap[b]? = w.heap[b]?) (h : ObjOk E w o s) : ObjOk E' w' o s:=by
 have hc : ∀ b o x,w'.heap[b]? = w.heap[b]? → CellsAt E w b o x → CellsAt E' w' b o x:=by
  intro b o x hbb hc j c hj
  obtain ⟨v,h1,h2⟩:=hc j c hj
  exact ⟨v,by rw [World.cell?_of_block (w:=w) hbb]; exact h1,hr _ _ h2⟩
 cases o <;> cases s <;> simp only [ObjOk] at h ⊢ <;> try exact h
 case box.live x b csz sz=>
  have hbb:=hb b rfl
  exact ⟨h.1.of_block hbb,h.2.1,hc _ _ _ hbb h.2.2⟩
 case arr.live sz es b csz sz'=>
  have hbb:=hb b rfl
  obtain ⟨h1,h2,h3,h4,h5⟩:=h
  exact ⟨h1,h2.of_block hbb,h3,h4,fun i x hx=>hc _ _ _ hbb (h5 i x hx)⟩
 case amap.mapS ks vs b=>
  have hbb:=hb b rfl
  obtain ⟨es,clock,h1,h2,h3,h4,h5⟩:=h
  exact ⟨es,clock,hbb.trans h1,h2,h3,fun i k e hk he=>hr _ _ (h4 i k e hk he),fun i v e hv he=>hr _ _ (h5 i v e hv he)⟩
 case iter.iterS s pos b=>exact (hb b rfl).trans h
theorem Sim.alloc {E : Env} {h : Heap} {w : World} (s : Sim E h w) (o : AObj) (ob : Obj) (sl : Slot) (hf : E.m h.length = none) (hsl : sl.blk = some w.heap.size)
  (hok : ObjOk (E.put h.length sl) (w.alloc ob) o sl) :
  Sim (E.put h.length sl) (h ++ [o]) (w.alloc ob) ∧ Ext E h w (E.put h.length sl) (h ++ [o]) (w.alloc ob):=by
   have hx : Ext E h w (E.put h.length sl) (h ++ [o]) (w.alloc ob):=by
    refine ⟨⟨fun _ h=>h,fun _ h=>.inl h,fun b hb _=>heap_alloc_lt w ob hb,fun id s' hs=>.inl ?_,fun b hb=>?_,by simp,by simp,rfl,rfl,rfl⟩,fun id h1 h2=>by rw [Env.put_other E sl (by omega)]; exact h2⟩
    ·by_cases e : id = h.length
     ·subst e; rw [hf] at hs; cases hs
     ·rw [Env.put_other E sl e]; exact hs
    ·obtain ⟨id,s',h1,h2⟩:=hb
     by_cases e : id = h.length
     ·subst e; rw [Env.put_same] at h1; cases h1; rw [hsl] at h2; cases h2; exact .inr (Nat.le_refl _)
     ·rw [Env.put_other E sl e] at h1; exact .inl ⟨id,s',h1,h2⟩
   refine ⟨⟨?_,?_,?_,?_,?_⟩,hx⟩
   ·intro id o' s' ho hs
    by_cases e : id = h.length
    ·subst e
     rw [Env.put_same] at hs
     cases hs
     rw [List.getElem?_append_right (Nat.le_refl _)] at ho
     simp at ho
     subst ho
     exact hok
    ·rw [Env.put_other E sl e] at hs
     have hlt : id < h.length:=by
      have:=(List.getElem?_eq_some_iff.1 ho).1
      simp at this
      omega
     rw [List.getElem?_append_left hlt] at ho
     refine (s.obj id o' s' ho hs).mono (fun a v hr=>hr.ext hx s) fun b hb=>heap_alloc_lt w ob (s.lt b ⟨id,s',hs,hb⟩)
   ·intro i j si sj b hi hj hbi hbj
    by_cases ei : i = h.length <;> by_cases ej : j = h.length
    ·omega
    ·subst ei
     rw [Env.put_same] at hi
     cases hi
     rw [Env.put_other E sl ej] at hj
     rw [hsl] at hbi
     cases hbi
     exact absurd (s.lt _ ⟨j,sj,hj,hbj⟩) (Nat.lt_irrefl _)
    ·subst ej
     rw [Env.put_same] at hj
     cases hj
     rw [Env.put_other E sl ei] at hi
     rw [hsl] at hbj
     cases hbj
     exact absurd (s.lt _ ⟨i,si,hi,hbi⟩) (Nat.lt_irrefl _)
    ·rw [Env.put_other E sl ei] at hi
     rw [Env.put_other E sl ej] at hj
     exact s.inj i j si sj b hi hj hbi hbj
   ·intro b hb hS
    obtain ⟨id,s',h1,h2⟩:=hb
    by_cases e : id = h.length
    ·subst e; rw [Env.put_same] at h1; cases h1; rw [hsl] at h2; cases h2; exact absurd (s.Slt _ hS) (Nat.lt_irrefl _)
    ·rw [Env.put_other E sl e] at h1; exact s.nS b ⟨id,s',h1,h2⟩ hS
   ·intro b hb
    obtain ⟨id,s',h1,h2⟩:=hb
    by_cases e : id = h.length
    ·subst e; rw [Env.put_same] at h1; cases h1; rw [hsl] at h2; cases h2; simp
    ·rw [Env.put_other E sl e] at h1
     have:=s.lt b ⟨id,s',h1,h2⟩
     simp; omega
   ·intro b hb
    have:=s.Slt b hb
    simp; omega
end Go.Am

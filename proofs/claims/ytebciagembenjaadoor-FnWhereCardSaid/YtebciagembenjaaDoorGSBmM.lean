/- Frozen values; calls by mode. -/
import Derived.Test.YtebciagembenjaaDoorGSBmL
set_option linter.unusedVariables false
set_option linter.unusedSimpArgs false
/- Frozen values; calls by mode. -/
set_option maxHeartbeats 4000000
namespace Go.Am
open Go
section
variable {P : Program} {E : Env} {w : World} {h : Heap}
theorem Rep.func2 {fn : Fn} {a b : List AVal} {v : Value} (h : Rep E w (.func fn a b) v) : ∃ va vb,v = .func fn va vb ∧ a.length = va.size ∧ b.length = vb.size ∧
  (∀ (i : Nat) (c : AVal) (v : Value),a[i]? = some c → va[i]? = some v → Rep E w c v) ∧ ∀ (i : Nat) (c : AVal) (v : Value),b[i]? = some c → vb[i]? = some v → Rep E w c v:=by
   cases h with
   | clo h=>cases h with | func _ _ _ va vb hla hlb hra hrb=>exact ⟨va,vb,rfl,hla,hlb,fun i c v h1 h2=>.clo (hra i c v h1 h2),fun i c v h1 h2=>.clo (hrb i c v h1 h2)⟩
   | func _ _ _ va vb hla hlb hra hrb=>exact ⟨va,vb,rfl,hla,hlb,hra,hrb⟩
theorem snap_cells (h : Heap) : ∀ (n : Nat) (x x' : AVal),snapF h n x = some x' → x'.cells.length = x.cells.length ∧ ∀ (j : Nat) (c : AVal),x.cells[j]? = some c → ∃ c',x'.cells[j]? = some c' ∧ snapF h n c = some c':=by
 intro n x x' hx
 have one : x.cells = [x] → x'.cells = [x'] → x'.cells.length = x.cells.length ∧ ∀ (j : Nat) (c : AVal),x.cells[j]? = some c → ∃ c',x'.cells[j]? = some c' ∧ snapF h n c = some c':=by
  intro e1 e2
  rw [e1,e2]
  refine ⟨rfl,fun j c hj=>?_⟩
  cases j with
  | zero=>simp at hj; subst hj; exact ⟨x',rfl,hx⟩
  | succ j=>simp at hj
 cases n with
 | zero=>simp [snapF] at hx
 | succ n=>
  cases x <;> simp only [snapF] at hx
  case agg cs=>
   simp only [Option.map_eq_some_iff] at hx
   obtain ⟨l,hl,rfl⟩:=hx
   obtain ⟨h1,h2⟩:=mapO_some hl
   refine ⟨h1.symm,fun j c hj=>?_⟩
   obtain ⟨c',hc'⟩:=getElem?_some_of_lt (l:=l) (i:=j) (by rw [← h1]; exact (List.getElem?_eq_some_iff.1 hj).1)
   exact ⟨c',hc',snapF_mono h n _ _ (h2 j c c' hj hc')⟩
  case tup cs=>simp only [Option.map_eq_some_iff] at hx; obtain ⟨l,hl,rfl⟩:=hx; exact one rfl rfl
  case func fn a b=>
   split at hx
   ·cases hx; exact one rfl rfl
   ·cases hx
  case iface t v=>simp only [Option.map_eq_some_iff] at hx; obtain ⟨l,hl,rfl⟩:=hx; exact one rfl rfl
  case own id st len=>
   split at hx
   ·split at hx
    ·simp only [Option.map_eq_some_iff] at hx; obtain ⟨l,hl,rfl⟩:=hx; exact one rfl rfl
    ·cases hx
   ·cases hx
  case map id=>
   split at hx
   ·split at hx
    ·cases hx; exact one rfl rfl
    ·cases hx
   ·cases hx
  case ptr id i off=>
   split at hx
   ·split at hx
    ·simp only [Option.map_eq_some_iff] at hx; obtain ⟨l,hl,rfl⟩:=hx; exact one rfl rfl
    ·cases hx
   ·simp only [Option.map_eq_some_iff] at hx; obtain ⟨l,hl,rfl⟩:=hx; exact one rfl rfl
   ·cases hx
  all_goals first | (cases hx; exact one rfl rfl) | cases hx
theorem snap_sound (s : Sim E h w) {S' : Nat → Prop} (hS : ∀ b,E.S b → S' b) (himA : ∀ id o sl b,h[id]? = some o → E.m id = some sl → sl.blk = some b → S' b) :
  ∀ (n : Nat) (a a' : AVal) (v : Value),snapF h n a = some a' → Rep E w a v → RepC S' w a' v:=by
   have him : ∀ id o b csz sz,h[id]? = some o → E.m id = some (.live b csz sz) → S' b:=fun id o b csz sz h1 h2=>himA id o _ b h1 h2 rfl
   have himM : ∀ id o b,h[id]? = some o → E.m id = some (.mapS b) → S' b:=fun id o b h1 h2=>himA id o _ b h1 h2 rfl
   intro n
   induction n with
   | zero=>intro a a' v hh; simp [snapF] at hh
   | succ n ih=>
    intro a a' v hh hr
    have same : (∃ hc : RepC E.S w a v,True) → a' = a → RepC S' w a' v:=by
     rintro ⟨hc,_⟩ rfl
     exact hc.mono hS fun _ _=>rfl
    have row : ∀ (b o sz : Nat) (es xs : List AVal),S' b → mapO (snapF h n) es = some xs → (∀ x ∈ es,x.cells.length = sz) → (∀ (i : Nat) (x : AVal),es[i]? = some x → CellsAt E w b (o + i * sz) x) →
      xs.length = es.length ∧ (∀ x ∈ xs,x.cells.length = sz) ∧ ∃ vs : Nat → Nat → Value,(∀ (i j : Nat) (x c : AVal),xs[i]? = some x → x.cells[j]? = some c → S' b ∧ w.cell? ⟨b,o + (i * sz + j),none⟩ = some (vs i j)) ∧
       ∀ (i j : Nat) (x c : AVal),xs[i]? = some x → x.cells[j]? = some c → RepC S' w c (vs i j):=by
        intro b o sz es xs hb hm hs hc
        obtain ⟨h1,h2⟩:=mapO_some hm
        have back : ∀ (i : Nat) (x' : AVal),xs[i]? = some x' → ∃ x,es[i]? = some x ∧ snapF h n x = some x':=by
         intro i x' hx'
         obtain ⟨x,hx⟩:=getElem?_some_of_lt (l:=es) (i:=i) (by rw [h1]; exact (List.getElem?_eq_some_iff.1 hx').1)
         exact ⟨x,hx,h2 i x x' hx hx'⟩
        have cell : ∀ (i j : Nat) (x' c' : AVal),xs[i]? = some x' → x'.cells[j]? = some c' → ∃ v,w.cell? ⟨b,o + (i * sz + j),none⟩ = some v ∧ RepC S' w c' v:=by
         intro i j x' c' hx' hj
         obtain ⟨x,hx,hsx⟩:=back i x' hx'
         obtain ⟨g1,g2⟩:=snap_cells h n x x' hsx
         obtain ⟨c,hcj⟩:=getElem?_some_of_lt (l:=x.cells) (i:=j) (by rw [← g1]; exact (List.getElem?_eq_some_iff.1 hj).1)
         obtain ⟨c2,hc2,hsc⟩:=g2 j c hcj
         rw [hj] at hc2
         cases hc2
         obtain ⟨v,hv,hrv⟩:=hc i x hx j c hcj
         exact ⟨v,by rw [← Nat.add_assoc]; exact hv,ih c c' v hsc hrv⟩
        refine ⟨h1.symm,fun x' hx'=>?_,fun i j=>(w.cell? ⟨b,o + (i * sz + j),none⟩).getD undef,fun i j x' c' hx' hj=>?_,fun i j x' c' hx' hj=>?_⟩
        ·obtain ⟨i,hi⟩:=List.mem_iff_getElem?.1 hx'
         obtain ⟨x,hx,hsx⟩:=back i x' hi
         rw [(snap_cells h n x x' hsx).1]
         exact hs x (List.mem_of_getElem? hx)
        ·obtain ⟨v,hv,_⟩:=cell i j x' c' hx' hj
         exact ⟨hb,by simp only [hv,Option.getD_some]⟩
        ·obtain ⟨v,hv,hrv⟩:=cell i j x' c' hx' hj
         simp only [hv,Option.getD_some]
         exact hrv
    cases a <;> simp only [snapF] at hh
    case int=>cases hh; cases hr with | clo hc=>exact same ⟨hc,trivial⟩ rfl
    case bool=>cases hh; cases hr with | clo hc=>exact same ⟨hc,trivial⟩ rfl
    case str=>cases hh; cases hr with | clo hc=>exact same ⟨hc,trivial⟩ rfl
    case sl=>cases hh; cases hr with | clo hc=>exact same ⟨hc,trivial⟩ rfl
    case iptr=>cases hh; cases hr with | clo hc=>exact same ⟨hc,trivial⟩ rfl
    case nilp=>cases hh; cases hr with | clo hc=>exact same ⟨hc,trivial⟩ rfl
    case nilm=>cases hh; cases hr with | clo hc=>exact same ⟨hc,trivial⟩ rfl
    case nilf=>cases hh; cases hr with | clo hc=>exact same ⟨hc,trivial⟩ rfl
    case gv=>cases hh; cases hr with | clo hc=>exact same ⟨hc,trivial⟩ rfl
    case nili=>cases hh; cases hr with | clo hc=>exact same ⟨hc,trivial⟩ rfl
    case cmap=>cases hh; cases hr with | clo hc=>exact same ⟨hc,trivial⟩ rfl
    case map id=>
     split at hh
     ·rename_i ks vs ho
      split at hh
      ·rename_i ks' vs' h1 h2
       cases hh
       obtain ⟨b,rfl,hmm⟩:=hr.map'
       rcases hmm with hmm | hmm
       ·have hk:=s.obj id _ _ ho hmm
        simp only [ObjOk] at hk
        obtain ⟨es,clock,hb,l1,l2,r1,r2⟩:=hk
        obtain ⟨g1,g2⟩:=mapO_some h1
        obtain ⟨k1,k2⟩:=mapO_some h2
        refine .cmap ks' vs' b clock es (himM id _ b ho hmm) hb (by omega) (by omega) (fun i k e hk he=>?_) (fun i v e hv he=>?_)
        ·obtain ⟨c0,hc0⟩:=getElem?_some_of_lt (l:=ks) (i:=i) (by rw [g1]; exact (List.getElem?_eq_some_iff.1 hk).1)
         exact ih c0 k _ (g2 i c0 k hc0 hk) (r1 i c0 e hc0 he)
        ·obtain ⟨c0,hc0⟩:=getElem?_some_of_lt (l:=vs) (i:=i) (by rw [k1]; exact (List.getElem?_eq_some_iff.1 hv).1)
         exact ih c0 v _ (k2 i c0 v hc0 hv) (r2 i c0 e hc0 he)
       ·have:=s.obj id _ _ ho hmm
        simp [ObjOk] at this
      ·cases hh
     ·cases hh
    case it=>cases hh
    case nil=>
     cases hh
     cases hr with
     | clo hc=>
      cases hc with
      | nil ad=>exact .sl [] ad 0 0 0 0 (fun _ _=>undef) (fun h=>absurd rfl h) (Nat.le_refl _) (fun x hx=>by simp at hx) (fun i j x c hx=>by simp at hx) (fun i j x c hx=>by simp at hx)
    case agg cs=>
     simp only [Option.map_eq_some_iff] at hh
     obtain ⟨l,hl,rfl⟩:=hh
     obtain ⟨vs,rfl,h1,h2⟩:=hr.agg'
     obtain ⟨g1,g2⟩:=mapO_some hl
     refine .agg l vs (by omega) fun i c v hc hv=>?_
     obtain ⟨c0,hc0⟩:=getElem?_some_of_lt (l:=cs) (i:=i) (by rw [g1]; exact (List.getElem?_eq_some_iff.1 hc).1)
     exact ih c0 c v (g2 i c0 c hc0 hc) (h2 i c0 v hc0 hv)
    case tup cs=>
     simp only [Option.map_eq_some_iff] at hh
     obtain ⟨l,hl,rfl⟩:=hh
     obtain ⟨vs,rfl,h1,h2⟩:=hr.tup'
     obtain ⟨g1,g2⟩:=mapO_some hl
     refine .tup l vs (by omega) fun i c v hc hv=>?_
     obtain ⟨c0,hc0⟩:=getElem?_some_of_lt (l:=cs) (i:=i) (by rw [g1]; exact (List.getElem?_eq_some_iff.1 hc).1)
     exact ih c0 c v (g2 i c0 c hc0 hc) (h2 i c0 v hc0 hv)
    case func fn xs ys=>
     split at hh
     ·rename_i as bs ha hb
      cases hh
      obtain ⟨va,vb,rfl,l1,l2,r1,r2⟩:=hr.func2
      obtain ⟨g1,g2⟩:=mapO_some ha
      obtain ⟨k1,k2⟩:=mapO_some hb
      refine .func fn as bs va vb (by omega) (by omega) (fun i c v hc hv=>?_) (fun i c v hc hv=>?_)
      ·obtain ⟨c0,hc0⟩:=getElem?_some_of_lt (l:=xs) (i:=i) (by rw [g1]; exact (List.getElem?_eq_some_iff.1 hc).1)
       exact ih c0 c v (g2 i c0 c hc0 hc) (r1 i c0 v hc0 hv)
      ·obtain ⟨c0,hc0⟩:=getElem?_some_of_lt (l:=ys) (i:=i) (by rw [k1]; exact (List.getElem?_eq_some_iff.1 hc).1)
       exact ih c0 c v (k2 i c0 c hc0 hc) (r2 i c0 v hc0 hv)
     ·cases hh
    case iface t x=>
     simp only [Option.map_eq_some_iff] at hh
     obtain ⟨x',hx',rfl⟩:=hh
     obtain ⟨u,rfl,hu⟩:=hr.iface'
     exact .iface t x' u (ih _ _ _ hx' hu)
    case own id st len=>
     split at hh
     ·rename_i sz es ho
      split at hh
      ·rename_i hle
       simp only [Option.map_eq_some_iff] at hh
       obtain ⟨xs,hxs,rfl⟩:=hh
       cases hr with
       | clo hc=>cases hc
       | ownD _ _ _ ad cap hm hcap=>
        have:=s.obj id _ _ ho hm
        simp [ObjOk] at this
       | own _ _ _ ad cap b csz bsz hm hcap hp=>
        have hk:=s.obj id _ _ ho hm
        simp only [ObjOk] at hk
        obtain ⟨rfl,hrow,hle2,hs,hcells⟩:=hk
        obtain ⟨h1,h2,vs,h3,h4⟩:=row b (st * sz) sz _ xs (him _ _ _ _ _ ho hm) hxs (fun x hx=>hs x (List.mem_of_mem_drop (List.mem_of_mem_take hx))) (fun i x hx=>by
         have hi : i < len:=by
          have:=(List.getElem?_eq_some_iff.1 hx).1
          simp at this; omega
         rw [List.getElem?_take,if_pos hi,List.getElem?_drop] at hx
         have:=hcells _ x hx
         rw [Nat.add_mul] at this
         exact this)
        have hlen : xs.length = len:=by rw [h1]; simp; omega
        have:=RepC.sl (S:=S') (w:=w) xs ad cap sz b (st * sz) vs (fun hne=>?_) (by omega) h2 h3 h4
        ·rw [hlen] at this; exact this
        ·rcases hp with ⟨h5,_⟩ | ⟨h5,_⟩
         ·exact absurd (List.eq_nil_of_length_eq_zero (by omega)) hne
         ·exact h5
      ·cases hh
     ·cases hh
    case ptr id i off=>
     cases ho : h[id]? with
     | none=>simp [ho] at hh
     | some o=>
      cases hr with
      | clo hc=>cases hc
      | ptrD _ _ _ ad hm=>
       have:=s.obj id _ _ ho hm
       cases o <;> simp only [ObjOk] at this <;> simp [ho] at hh
      | ptr _ _ _ b csz bsz hm=>
       have hk:=s.obj id _ _ ho hm
       cases o with
       | box x=>
        simp only [ho] at hh
        simp only [ObjOk] at hk
        split at hh
        ·rename_i hi
         subst hi
         simp only [Option.map_eq_some_iff] at hh
         obtain ⟨x',hx',rfl⟩:=hh
         obtain ⟨h1,h2,vs,h3,h4⟩:=row b 0 x.cells.length [x] [x'] (him _ _ _ _ _ ho hm) (by simp [mapO,hx']) (fun y hy=>by simp at hy; subst hy; rfl) (fun i y hy=>by
          cases i with
          | zero=>simp at hy; subst hy; simpa using hk.2.2
          | succ i=>simp at hy)
         have:=RepC.iptr (S:=S') (w:=w) [x'] 0 off x.cells.length b 0 vs h2 h3 h4
         simpa using this
        ·cases hh
       | arr sz es=>
        simp only [ho,Option.map_eq_some_iff] at hh
        obtain ⟨xs,hxs,rfl⟩:=hh
        simp only [ObjOk] at hk
        obtain ⟨rfl,hrow,hle2,hs,hcells⟩:=hk
        obtain ⟨h1,h2,vs,h3,h4⟩:=row b 0 sz es xs (him _ _ _ _ _ ho hm) hxs hs (fun i x hx=>by rw [Nat.zero_add]; exact hcells i x hx)
        have:=RepC.iptr (S:=S') (w:=w) xs i off sz b 0 vs h2 h3 h4
        rw [Nat.zero_add] at this
        exact this
       | amap ks vs=>simp [ho] at hh
       | iter q pos=>simp [ho] at hh
       | dead=>simp [ho] at hh
def Reps (E : Env) (w : World) (as : List AVal) (vs : Array Value) : Prop:=as.length = vs.size ∧ ∀ (i : Nat) (c : AVal) (v : Value),as[i]? = some c → vs[i]? = some v → Rep E w c v
def Post (E : Env) (h : Heap) (w : World) (r : ARes) : Ending → World → Prop
 | .returned u,w'=>∃ v h' E',r = .ret v h' ∧ Sim E' h' w' ∧ Full E' h' ∧ Ext E h w E' h' w' ∧ Rep E' w' v u
 | .panicked chain,w'=>∃ v h' E' u,r = .pan v h' ∧ chain = [{ v:=u,recovered:=false }] ∧ Sim E' h' w' ∧ Full E' h' ∧ Ext E h w E' h' w' ∧ Rep E' w' v u
 | .outgrown,_=>False
def Sound (cf : Cfg) (C : COr) : Prop:=∀ f args h r,C f args h = some r → ∀ (E : Env) (w : World) (vs : Array Value),bodied cf.P f = true → Sim E h w → Full E h → GOk cf.G E.S w → Reps E w args vs → Calls cf.P f vs w (Post E h w r)
theorem GOk.mono {G : Nat → Option AVal} {S S' : Nat → Prop} {w w' : World} (hg : GOk G S w) (hS : ∀ b,S b → S' b) (hw : ∀ b,S b → w'.heap[b]? = w.heap[b]?) : GOk G S' w':=fun g v h=>(hg g v h).mono hS hw
theorem GOk.ext {G : Nat → Option AVal} {E' : Env} {h' : Heap} {w' : World} (hg : GOk G E.S w) (s : Sim E h w) (x : Ext E h w E' h' w') : GOk G E'.S w':=hg.mono x.S fun b hb=>x.Smem s hb
theorem Reps.ext {E' : Env} {h' : Heap} {w' : World} {as : List AVal} {vs : Array Value} (hr : Reps E w as vs) (s : Sim E h w) (x : Ext E h w E' h' w') : Reps E' w' as vs:=⟨hr.1,fun i c v h1 h2=>(hr.2 i c v h1 h2).ext x s⟩
def Env.bare (S : Nat → Prop) : Env:=⟨fun _=>none,S⟩
theorem Env.bare_im {S : Nat → Prop} {b : Nat} : ¬ (Env.bare S).im b:=by rintro ⟨id,s,h,_⟩; cases h
theorem Sim.bare {S : Nat → Prop} (h : ∀ b,S b → b < w.heap.size) : Sim (Env.bare S) [] w:=
 ⟨fun id o s ho=>by simp at ho,fun i j si sj b hi=>by simp [Env.bare] at hi,fun b hb=>absurd hb Env.bare_im,fun b hb=>absurd hb Env.bare_im,h⟩
def Env.plus (E : Env) (w : World) (S1 : Nat → Prop) : Env:=⟨E.m,fun b=>E.S b ∨ (w.heap.size ≤ b ∧ S1 b)⟩
theorem Sim.plus {w1 : World} {S1 : Nat → Prop} (s : Sim E h w) (hw : ∀ b,b < w.heap.size → w1.heap[b]? = w.heap[b]?) (hs : w.heap.size ≤ w1.heap.size) (h1 : ∀ b,S1 b → b < w1.heap.size) (hos : w1.os = w.os) (ht : w1.tape = w.tape) (ho : w1.output = w.output) :
  Sim (E.plus w S1) h w1 ∧ Ext E h w (E.plus w S1) h w1:=by
   have hx : Ext E h w (E.plus w S1) h w1:=⟨⟨fun b hb=>.inl hb,fun b hb=>hb.elim .inl fun h=>.inr (.inr h.1),fun b hb _=>hw b hb,fun id sl hm=>.inl hm,fun b hb=>.inl hb,Nat.le_refl _,hs,hos,ht,ho⟩,fun _ _ h=>h⟩
   refine ⟨⟨fun id o sl hid hm=>(s.obj id o sl hid hm).mono (fun a v hr=>hr.ext hx s) fun b hb=>hw b (s.lt b ⟨id,sl,hm,hb⟩),s.inj,fun b hb hS=>?_,fun b hb=>Nat.lt_of_lt_of_le (s.lt b hb) hs,fun b hb=>?_⟩,hx⟩
   ·rcases hS with h | ⟨h,_⟩
    ·exact s.nS b hb h
    ·have:=s.lt b hb; omega
   ·rcases hb with h | ⟨_,h⟩
    ·exact Nat.lt_of_lt_of_le (s.Slt b h) hs
    ·exact h1 b h
theorem snapL_reps (s : Sim E h w) {S' : Nat → Prop} (hS : ∀ b,E.S b → S' b) (himA : ∀ id o sl b,h[id]? = some o → E.m id = some sl → sl.blk = some b → S' b) {as as' : List AVal} {vs : Array Value} (hl : snapL h as = some as') (hr : Reps E w as vs) :
  Reps (Env.bare S') w as' vs:=by
   obtain ⟨h1,h2⟩:=mapO_some hl
   refine ⟨by rw [← h1]; exact hr.1,fun i c v hc hv=>?_⟩
   obtain ⟨c0,hc0⟩:=getElem?_some_of_lt (l:=as) (i:=i) (by rw [h1]; exact (List.getElem?_eq_some_iff.1 hc).1)
   exact .clo (snap_sound s hS himA _ _ _ _ (h2 i c0 c hc0 hc) (hr.2 i c0 v hc0 hv))
theorem scal_rep {S : Nat → Prop} {w1 : World} {E1 : Env} {v : AVal} {u : Value} (hs : v.scal = true) (hr : Rep E1 w1 v u) : RepC S w1 v u:=by
 cases v <;> simp only [AVal.scal] at hs <;> try (exact hr.closed hs S w1)
 rename_i vs
 obtain ⟨us,rfl,h1,h2⟩:=hr.tup'
 exact .tup vs us h1 fun i c v hc hv=>(h2 i c v hc hv).closed (List.all_eq_true.1 hs c (List.mem_of_getElem? hc)) S w1
def PPost (E : Env) (h H : Heap) (w : World) (r : ARes) : Ending → World → Prop
 | .returned u,w1=>∃ v S1,r = .ret v h ∧ Sim (E.plus w S1) H w1 ∧ Ext E H w (E.plus w S1) H w1 ∧ Rep (E.plus w S1) w1 v u
 | .panicked chain,w1=>∃ v S1 u,r = .pan v h ∧ chain = [{ v:=u,recovered:=false }] ∧ Sim (E.plus w S1) H w1 ∧ Ext E H w (E.plus w S1) H w1 ∧ Rep (E.plus w S1) w1 v u
 | .outgrown,_=>False
theorem pcall_sound {cf : Cfg} {C : COr} {H : Heap} (hC : Sound cf C) {f : FuncId} (hm : cf.M f = .P) {args : List AVal} {r : ARes} {vs : Array Value} (hc : callM cf C f args h = some r) (hb : bodied cf.P f = true) (hp : h <+: H) (sH : Sim E H w) (hg : GOk cf.G E.S w) (hr : Reps E w args vs) :
  Calls cf.P f vs w (PPost E h H w r):=by
   have s : Sim E h w:=sH.sub hp
   unfold callM at hc
   simp only [hm] at hc
   have s0 : Sim E [] w:=s.sub List.nil_prefix
   cases hs : snapL [] args with
   | some as=>
    simp only [hs] at hc
    have hr0 : Reps (Env.bare E.S) w as vs:=snapL_reps s0 (fun _ h=>h) (fun id o sl b ho=>by simp at ho) hs hr
    cases hq : C f as [] with
    | none=>simp [hq] at hc
    | some q=>
     simp only [hq] at hc
     refine Calls.mono (hC f as [] q hq (Env.bare E.S) w vs hb (Sim.bare s.Slt) (fun _ _=>rfl) hg hr0) fun e w1 he=>?_
     have back : ∀ (v v' : AVal) (u : Value) (h1 : Heap) (E1 : Env),Sim E1 h1 w1 → Full E1 h1 → Ext (Env.bare E.S) [] w E1 h1 w1 → Rep E1 w1 v u → snap h1 v = some v' → ∃ S1,Sim (E.plus w S1) H w1 ∧ Ext E H w (E.plus w S1) H w1 ∧ Rep (E.plus w S1) w1 v' u:=by
      intro v v' u h1 E1 s1 _ x1 r1 hsn
      have hrc:=snap_sound s1 (S':=fun b=>E1.S b ∨ E1.im b) (fun _ h=>.inl h) (fun id o sl b _ hm hb=>.inr ⟨id,_,hm,hb⟩) _ _ _ _ hsn r1
      obtain ⟨p1,p2⟩:=sH.plus (w1:=w1) (S1:=fun b=>E1.S b ∨ E1.im b) (fun b hb=>x1.mem b hb Env.bare_im) x1.size (fun b hb=>hb.elim (s1.Slt b) (s1.lt b)) x1.os x1.tape x1.output
      refine ⟨_,p1,p2,.clo (hrc.mono (fun b hb=>?_) fun _ _=>rfl)⟩
      rcases hb with h2 | h2
      ·rcases x1.SN b h2 with h3 | h3 | h3
       ·exact .inl h3
       ·exact absurd h3 Env.bare_im
       ·exact .inr ⟨h3,.inl h2⟩
      ·rcases x1.new b h2 with h3 | h3
       ·exact absurd h3 Env.bare_im
       ·exact .inr ⟨h3,.inr h2⟩
     cases e with
     | returned u=>
      obtain ⟨v,h1,E1,rfl,s1,f1,x1,r1⟩:=he
      simp only [Option.map_eq_some_iff] at hc
      obtain ⟨v',hv',rfl⟩:=hc
      obtain ⟨S1,g1,g3,g4⟩:=back v v' u h1 E1 s1 f1 x1 r1 hv'
      exact ⟨v',S1,rfl,g1,g3,g4⟩
     | panicked chain=>
      obtain ⟨v,h1,E1,u,rfl,rfl,s1,f1,x1,r1⟩:=he
      simp only [Option.map_eq_some_iff] at hc
      obtain ⟨v',hv',rfl⟩:=hc
      obtain ⟨S1,g1,g3,g4⟩:=back v v' u h1 E1 s1 f1 x1 r1 hv'
      exact ⟨v',S1,u,rfl,rfl,g1,g3,g4⟩
     | outgrown=>exact he.elim
   | none=>
    simp only [hs] at hc
    cases hs2 : snapL h args with
    | none=>simp [hs2] at hc
    | some as=>
     simp only [hs2] at hc
     have hr0 : Reps (Env.bare fun b=>E.S b ∨ E.im b) w as vs:=snapL_reps s (fun _ h=>.inl h) (fun id o sl b _ hm hb=>.inr ⟨id,_,hm,hb⟩) hs2 hr
     cases hq : C f as [] with
     | none=>simp [hq] at hc
     | some q=>
      cases q with
      | pan v h1=>simp [hq] at hc
      | ret v h1=>
       simp only [hq] at hc
       split at hc
       ·rename_i hsc
        cases hc
        refine Calls.mono (hC f as [] _ hq (Env.bare fun b=>E.S b ∨ E.im b) w vs hb (Sim.bare fun b hb=>hb.elim (s.Slt b) (s.lt b)) (fun _ _=>rfl) (hg.mono (fun _ h=>.inl h) fun _ _=>rfl) hr0) fun e w1 he=>?_
        cases e with
        | returned u=>
         obtain ⟨v2,h2,E1,he2,s1,f1,x1,r1⟩:=he
         cases he2
         obtain ⟨p1,p2⟩:=sH.plus (w1:=w1) (S1:=fun _=>False) (fun b hb=>x1.mem b hb Env.bare_im) x1.size (fun b hb=>hb.elim) x1.os x1.tape x1.output
         exact ⟨v,_,rfl,p1,p2,.clo (scal_rep hsc r1)⟩
        | panicked chain=>
         obtain ⟨v2,h2,E1,u,he2,_⟩:=he
         cases he2
        | outgrown=>exact he.elim
       ·cases hc
theorem ownc_rep {E1 E' : Env} {w1 : World} {n : Nat} (hm : ∀ id s,E1.m id = some s → E'.m (id + n) = some s ∨ E'.m (id + n) = some .dead) {c : AVal} {v : Value} (hc : c.ownc = true) (hr : Rep E1 w1 c v) : Rep E' w1 (shift0 n c) v:=by
 cases c <;> simp only [AVal.ownc] at hc <;> first
  | (exact .clo (hr.closed hc _ _))
  | (cases hc; done)
  | skip
 case own id st len=>
  cases hr with
  | clo h=>cases h
  | own _ _ _ a cap b csz sz hm' hcap hq=>
   rcases hm _ _ hm' with h | h
   ·exact .own (id + n) st len a cap b csz sz h hcap hq
   ·exact .ownD (id + n) st len a cap h hcap
  | ownD _ _ _ a cap hm' hcap=>
   rcases hm _ _ hm' with h | h <;> exact .ownD (id + n) st len a cap h hcap
 case nil=>
  cases hr with
  | clo h=>cases h with | nil a=>exact .clo (.nil a)
 case sl xs=>
  cases xs with
  | cons y ys=>cases hc
  | nil=>
   cases hr with
   | clo h=>
    cases h with
    | sl _ a cap s b o vs h1 h2 h3 h4 h5=>exact .clo (.sl [] a cap s b o vs h1 h2 (by simp) (by simp) (by simp))
theorem oneclean_rep {E1 E' : Env} {w1 : World} {n : Nat} (hm : ∀ id s,E1.m id = some s → E'.m (id + n) = some s ∨ E'.m (id + n) = some .dead) {c : AVal} {v : Value} (hc : (match c with | .agg ds=>ds.all AVal.ownc | c=>c.ownc) = true) (hr : Rep E1 w1 c v) : Rep E' w1 (shift1 n c) v:=by
 cases c
 case agg cs=>
  obtain ⟨vs,rfl,h1,h2⟩:=hr.agg'
  simp only at hc
  refine .agg _ vs (by simpa using h1) fun i c v hi hv=>?_
  rw [List.getElem?_map,Option.map_eq_some_iff] at hi
  obtain ⟨c0,hc0,rfl⟩:=hi
  exact ownc_rep hm (List.all_eq_true.1 hc c0 (List.mem_of_getElem? hc0)) (h2 i c0 v hc0 hv)
 all_goals exact ownc_rep hm hc hr
theorem clean_own {c : AVal} (h : c.clean = true) (h1 : ∀ cs,c ≠ .agg cs) (h2 : ∀ cs,c ≠ .tup cs) : c.ownc = true:=by
 cases c <;> first | exact h | exact absurd rfl (h1 _) | exact absurd rfl (h2 _)
theorem shiftA_own (n : Nat) {c : AVal} (h1 : ∀ cs,c ≠ .agg cs) (h2 : ∀ cs,c ≠ .tup cs) : shiftA n c = shift0 n c:=by
 cases c <;> first | rfl | exact absurd rfl (h1 _) | exact absurd rfl (h2 _)
theorem clean_rep {E1 E' : Env} {w1 : World} {n : Nat} (hm : ∀ id s,E1.m id = some s → E'.m (id + n) = some s ∨ E'.m (id + n) = some .dead) {c : AVal} {v : Value} (hc : c.clean = true) (hr : Rep E1 w1 c v) : Rep E' w1 (shiftA n c) v:=by
 by_cases h1 : ∃ cs,c = .agg cs
 ·obtain ⟨cs,rfl⟩:=h1
  exact oneclean_rep (c:=.agg cs) hm hc hr
 by_cases h2 : ∃ cs,c = .tup cs
 ·obtain ⟨cs,rfl⟩:=h2
  obtain ⟨vs,rfl,h1,h2⟩:=hr.tup'
  simp only [AVal.clean] at hc
  refine .tup _ vs (by simpa using h1) fun i c v hi hv=>?_
  rw [List.getElem?_map,Option.map_eq_some_iff] at hi
  obtain ⟨c0,hc0,rfl⟩:=hi
  exact oneclean_rep hm (List.all_eq_true.1 hc c0 (List.mem_of_getElem? hc0)) (h2 i c0 v hc0 hv)
 have g1 : ∀ cs,c ≠ .agg cs:=fun cs e=>h1 ⟨cs,e⟩
 have g2 : ∀ cs,c ≠ .tup cs:=fun cs e=>h2 ⟨cs,e⟩
 rw [shiftA_own n g1 g2]
 exact ownc_rep hm (clean_own hc g1 g2) hr
theorem shift1_cells {n : Nat} {c : AVal} (hc : (match c with | .agg ds=>ds.all AVal.ownc | c=>c.ownc) = true) : (shift1 n c).cells = c.cells.map (shift0 n):=by
 cases c <;> first | rfl | (simp only [AVal.ownc,AVal.isScalar] at hc; cases hc)
theorem cells_ownc {c : AVal} (hc : (match c with | .agg ds=>ds.all AVal.ownc | c=>c.ownc) = true) {j : Nat} {d : AVal} (hj : c.cells[j]? = some d) : d.ownc = true:=by
 cases c
 case agg cs=>exact List.all_eq_true.1 hc d (List.mem_of_getElem? hj)
 all_goals
  cases j with
  | zero=>simp [AVal.cells] at hj; subst hj; exact hc
  | succ j=>simp [AVal.cells] at hj
def Env.newN (E E1 : Env) (n m : Nat) (h1 : Heap) : Env:=
 ⟨fun k=>if k < n then E.m k else if k < n + m then (match E1.m (k - n) with
  | some s=>match h1[k - n]? with
   | some o=>if o.keeps then some s else some .dead
   | none=>some .dead
  | none=>none) else E.m k,E.S⟩
def NPost (E : Env) (h H : Heap) (w : World) (r : ARes) : Ending → World → Prop
 | .returned u,w1=>∃ v h' E',r = .ret v h' ∧ Sim E' H w1 ∧ Ext0 E H w E' H w1 ∧ Rep E' w1 v u ∧ ∀ k,E'.m k = E.m k ∨ (h.length ≤ k ∧ k < h'.length)
 | _,_=>False
theorem ncall_sound {cf : Cfg} {C : COr} {H : Heap} (hC : Sound cf C) {f : FuncId} (hm : cf.M f = .N) {args : List AVal} {v : AVal} {h' : Heap} {vs : Array Value} (hc : callM cf C f args h = some (.ret v h')) (hb : bodied cf.P f = true) (hp : h' <+: H) (hn : ∀ k,h.length ≤ k → k < h'.length → E.m k = none)
  (sH : Sim E H w) (hg : GOk cf.G E.S w) (hr : Reps E w args vs) : h <+: h' ∧ Calls cf.P f vs w (NPost E h H w (.ret v h')):=by
   unfold callM at hc
   simp only [hm] at hc
   cases hs2 : snapL h args with
   | none=>simp [hs2] at hc
   | some as=>
   simp only [hs2] at hc
   cases hq : C f as [] with
   | none=>simp [hq] at hc
   | some q=>
   cases q with
   | pan v h1=>simp [hq] at hc
   | ret v1 h1=>
   simp only [hq] at hc
   split at hc
   ·rename_i hcl
    cases hc
    refine ⟨List.prefix_append _ _,?_⟩
    have hph : h <+: H:=(List.prefix_append _ _).trans hp
    have s : Sim E h w:=sH.sub hph
    have hr0 : Reps (Env.bare fun b=>E.S b ∨ E.im b) w as vs:=snapL_reps s (fun _ h=>.inl h) (fun id o sl b _ hm hb=>.inr ⟨id,_,hm,hb⟩) hs2 hr
    refine Calls.mono (hC f as [] _ hq (Env.bare fun b=>E.S b ∨ E.im b) w vs hb (Sim.bare fun b hb=>hb.elim (s.Slt b) (s.lt b)) (fun _ _=>rfl) (hg.mono (fun _ h=>.inl h) fun _ _=>rfl) hr0) fun e w1 he=>?_
    cases e with
    | panicked chain=>obtain ⟨v2,h2,E1,u,he2,_⟩:=he; cases he2
    | outgrown=>exact he.elim
    | returned u=>
     obtain ⟨v2,h2,E1,he2,s1,f1,x1,r1⟩:=he
     cases he2
     have hlen : (h ++ h1.map (AObj.keep h.length)).length = h.length + h1.length:=by simp
     rw [hlen] at hn
     have hmem : ∀ b,b < w.heap.size → w1.heap[b]? = w.heap[b]?:=fun b hb=>x1.mem b hb Env.bare_im
     obtain ⟨E',hE'⟩ : ∃ E',E' = E.newN E1 h.length h1.length h1:=⟨_,rfl⟩
     have m1 : ∀ k,k < h.length ∨ h.length + h1.length ≤ k → E'.m k = E.m k:=fun k hk=>by
      subst hE'
      show (if k < h.length then E.m k else if k < h.length + h1.length then _ else E.m k) = _
      by_cases e : k < h.length
      ·rw [if_pos e]
      ·rw [if_neg e,if_neg (by omega)]
     have m2 : ∀ k s,k < h1.length → E1.m k = some s → (∃ o,h1[k]? = some o ∧ ((o.keeps = true ∧ E'.m (k + h.length) = some s) ∨ (o.keeps = false ∧ E'.m (k + h.length) = some .dead))):=fun k sl hk hs=>by
      subst hE'
      obtain ⟨o,ho⟩:=getElem?_some_of_lt hk
      refine ⟨o,ho,?_⟩
      have : (E.newN E1 h.length h1.length h1).m (k + h.length) = if o.keeps then some sl else some .dead:=by
       show (if k + h.length < h.length then _ else if k + h.length < h.length + h1.length then _ else _) = _
       rw [if_neg (by omega),if_pos (by omega),Nat.add_sub_cancel,hs]
       simp only [ho]
      rw [this]
      cases o.keeps
      ·exact .inr ⟨rfl,rfl⟩
      ·exact .inl ⟨rfl,rfl⟩
     have m3 : ∀ k sl,h.length ≤ k → k < h.length + h1.length → E'.m k = some sl → ∃ s1 o,E1.m (k - h.length) = some s1 ∧ h1[k - h.length]? = some o ∧ ((o.keeps = true ∧ sl = s1) ∨ (o.keeps = false ∧ sl = .dead)):=fun k sl hk1 hk2 hs=>by
      cases he1 : E1.m (k - h.length) with
      | none=>
       exfalso
       subst hE'
       have : (E.newN E1 h.length h1.length h1).m k = none:=by
        show (if k < h.length then _ else if k < h.length + h1.length then _ else _) = _
        rw [if_neg (by omega),if_pos hk2,he1]
       rw [this] at hs; cases hs
      | some s1=>
       obtain ⟨o,ho,hq⟩:=m2 (k - h.length) s1 (by omega) he1
       rw [show k - h.length + h.length = k by omega] at hq
       refine ⟨s1,o,rfl,ho,?_⟩
       rcases hq with ⟨h1,h2⟩ | ⟨h1,h2⟩
       ·rw [h2] at hs; cases hs; exact .inl ⟨h1,rfl⟩
       ·rw [h2] at hs; cases hs; exact .inr ⟨h1,rfl⟩
     have hmE : ∀ id sl,E1.m id = some sl → E'.m (id + h.length) = some sl ∨ E'.m (id + h.length) = some .dead:=fun id sl hs=>by
      by_cases hid : id < h1.length
      ·obtain ⟨o,_,hq⟩:=m2 id sl hid hs
       exact hq.elim (fun h=>.inl h.2) fun h=>.inr h.2
      ·rw [f1 id (by omega)] at hs; cases hs
     have hS : ∀ b,E'.S b ↔ E.S b:=fun b=>by subst hE'; exact Iff.rfl
     have keepE : ∀ k sl,E.m k = some sl → E'.m k = some sl:=fun k sl hs=>by
      by_cases hk : k < h.length ∨ h.length + h1.length ≤ k
      ·rw [m1 k hk]; exact hs
      ·rw [hn k (by omega) (by omega)] at hs; cases hs
     have hrep : ∀ a v,Rep E w a v → Rep E' w1 a v:=fun a v hr=>hr.mono (fun b hb=>(hS b).2 hb) (fun b hb=>hmem b (sH.Slt b hb)) fun id sl hs=>.inl (keepE id sl hs)
     have im1 : ∀ b,E1.im b → w.heap.size ≤ b ∧ b < w1.heap.size:=fun b hb=>⟨(x1.new b hb).elim (fun h=>absurd h Env.bare_im) id,s1.lt b hb⟩
     have imE : ∀ k sl b,E'.m k = some sl → sl.blk = some b → (k < h.length ∨ h.length + h1.length ≤ k) ∧ E.m k = some sl ∨ (h.length ≤ k ∧ k < h.length + h1.length) ∧ E1.m (k - h.length) = some sl:=fun k sl b hs hb=>by
      by_cases hk : k < h.length ∨ h.length + h1.length ≤ k
      ·rw [m1 k hk] at hs; exact .inl ⟨hk,hs⟩
      ·obtain ⟨s1',o,g1,g2,g3⟩:=m3 k sl (by omega) (by omega) hs
       rcases g3 with ⟨_,rfl⟩ | ⟨_,rfl⟩
       ·exact .inr ⟨by omega,g1⟩
       ·cases hb
     refine ⟨shiftA h.length v1,_,E',rfl,⟨?_,?_,?_,?_,?_⟩,⟨fun b hb=>(hS b).2 hb,fun b hb=>.inl ((hS b).1 hb),fun b hb _=>hmem b hb,fun id sl hs=>.inl (keepE id sl hs),fun b hb=>?_,Nat.le_refl _,x1.size,x1.os,x1.tape,x1.output⟩,clean_rep hmE hcl r1,fun k=>?_⟩
     ·intro id o sl ho hs
      by_cases hk : id < h.length ∨ h.length + h1.length ≤ id
      ·rw [m1 id hk] at hs
       exact (sH.obj id o sl ho hs).mono hrep fun b hb=>hmem b (sH.lt b ⟨id,sl,hs,hb⟩)
      ·obtain ⟨s1',o1,g1,g2,g3⟩:=m3 id sl (by omega) (by omega) hs
       have hoo : o = AObj.keep h.length o1:=by
        obtain ⟨t,rfl⟩:=hp
        rw [List.getElem?_append_left (by simp; omega),List.getElem?_append_right (by omega),List.getElem?_map,g2] at ho
        simpa using ho.symm
       subst hoo
       rcases g3 with ⟨g3,rfl⟩ | ⟨g3,rfl⟩
       ·have hobj:=s1.obj _ _ _ g2 g1
        cases o1 <;> simp only [AObj.keeps] at g3 <;> try (cases g3; done)
        rename_i sz es
        have hkp : AObj.keep h.length (.arr sz es) = .arr sz (es.map (shift1 h.length)):=by simp only [AObj.keep,AObj.keeps,g3]
        rw [hkp]
        cases sl <;> simp only [ObjOk] at hobj ⊢ <;> try exact hobj
        obtain ⟨rfl,hrow,hle,hsz,hcells⟩:=hobj
        refine ⟨rfl,hrow,by simpa using hle,fun x hx=>?_,fun i x hx j c hj=>?_⟩
        ·obtain ⟨y,hy,rfl⟩:=List.mem_map.1 hx
         rw [shift1_cells (List.all_eq_true.1 g3 y hy),List.length_map]
         exact hsz y hy
        ·rw [List.getElem?_map,Option.map_eq_some_iff] at hx
         obtain ⟨y,hy,rfl⟩:=hx
         have hyc:=List.all_eq_true.1 g3 y (List.mem_of_getElem? hy)
         rw [shift1_cells hyc,List.getElem?_map,Option.map_eq_some_iff] at hj
         obtain ⟨d,hd,rfl⟩:=hj
         obtain ⟨u',k1,k2⟩:=hcells i y hy j d hd
         exact ⟨u',k1,ownc_rep hmE (cells_ownc hyc hd) k2⟩
       ·have hkp : AObj.keep h.length o1 = .dead:=by cases o1 <;> simp [AObj.keep,g3]
        rw [hkp]
        simp only [ObjOk]
     ·intro i j si sj b hi hj hbi hbj
      rcases imE i si b hi hbi with ⟨ki,ei⟩ | ⟨ki,ei⟩ <;> rcases imE j sj b hj hbj with ⟨kj,ej⟩ | ⟨kj,ej⟩
      ·exact sH.inj i j si sj b ei ej hbi hbj
      ·exfalso
       have a1:=sH.lt b ⟨i,si,ei,hbi⟩
       have a2:=(im1 b ⟨_,sj,ej,hbj⟩).1
       omega
      ·exfalso
       have a1:=sH.lt b ⟨j,sj,ej,hbj⟩
       have a2:=(im1 b ⟨_,si,ei,hbi⟩).1
       omega
      ·have:=s1.inj _ _ si sj b ei ej hbi hbj
       omega
     ·intro b hb hSb
      obtain ⟨k,sl,hs,hbl⟩:=hb
      have hSb':=(hS b).1 hSb
      rcases imE k sl b hs hbl with ⟨_,e⟩ | ⟨_,e⟩
      ·exact sH.nS b ⟨k,sl,e,hbl⟩ hSb'
      ·have a1:=(im1 b ⟨_,sl,e,hbl⟩).1
       have a2:=sH.Slt b hSb'
       omega
     ·intro b hb
      obtain ⟨k,sl,hs,hbl⟩:=hb
      rcases imE k sl b hs hbl with ⟨_,e⟩ | ⟨_,e⟩
      ·exact Nat.lt_of_lt_of_le (sH.lt b ⟨k,sl,e,hbl⟩) x1.size
      ·exact (im1 b ⟨_,sl,e,hbl⟩).2
     ·intro b hb
      exact Nat.lt_of_lt_of_le (sH.Slt b ((hS b).1 hb)) x1.size
     ·obtain ⟨k,sl,hs,hbl⟩:=hb
      rcases imE k sl b hs hbl with ⟨_,e⟩ | ⟨_,e⟩
      ·exact .inl ⟨k,sl,e,hbl⟩
      ·exact .inr (im1 b ⟨_,sl,e,hbl⟩).1
     ·by_cases hk : k < h.length ∨ h.length + h1.length ≤ k
      ·exact .inl (m1 k hk)
      ·right; rw [hlen]; omega
   ·cases hc
theorem nonm_rep {S : Nat → Prop} {w1 : World} {E1 : Env} {a : AVal} {v : Value} (ha : a.nonm = true) (hr : Rep E1 w1 a v) : RepC E1.S w1 a v:=by
 cases hr with
 | clo h=>exact h
 | _=>cases ha
theorem nonm1_cells {a : AVal} (ha : a.nonm1 = true) {j : Nat} {c : AVal} (hj : a.cells[j]? = some c) : c.nonm = true:=by
 cases a
 case agg cs=>exact List.all_eq_true.1 ha c (List.mem_of_getElem? hj)
 all_goals
  cases j with
  | zero=>simp [AVal.cells] at hj; subst hj; exact ha
  | succ j=>simp [AVal.cells] at hj
def Env.rows (E : Env) (h : Heap) : Env:=⟨fun id=>match h[id]? with
 | some (.arr _ _)=>E.m id
 | some .dead=>(E.m id).map fun _=>.dead
 | _=>none,E.S⟩
theorem oneR_rep0 {a : AVal} {v : Value} (ha : a.oneR0 h = true) (hr : Rep E w a v) : Rep (E.rows h) w a v:=by
 cases a <;> simp only [AVal.oneR0] at ha <;> try (cases ha; done)
 case own id st len=>
  have hm : ∀ s,E.m id = some s → (E.rows h).m id = some s ∨ (E.rows h).m id = some .dead:=by
   intro s hs
   show (match h[id]? with
    | some (.arr _ _)=>E.m id
    | some .dead=>(E.m id).map fun _=>Slot.dead
    | _=>none) = _ ∨ (match h[id]? with
    | some (.arr _ _)=>E.m id
    | some .dead=>(E.m id).map fun _=>Slot.dead
    | _=>none) = _
   split at ha
   ·rename_i ho; simp only [ho]; exact .inl hs
   ·rename_i ho; simp only [ho,hs]; exact .inr rfl
   ·cases ha
  cases hr with
  | clo h=>cases h
  | own _ _ _ a cap b csz sz hm' hcap hq=>
   rcases hm _ hm' with g | g
   ·exact .own id st len a cap b csz sz g hcap hq
   ·exact .ownD id st len a cap g hcap
  | ownD _ _ _ a cap hm' hcap=>exact .ownD id st len a cap ((hm _ hm').elim (fun g=>g) fun g=>g) hcap
 all_goals exact .clo (nonm_rep (E1:=E) (S:=E.S) (by rfl) hr)
theorem oneR_rep {a : AVal} {v : Value} (ha : a.oneR h = true) (hr : Rep E w a v) : Rep (E.rows h) w a v:=by
 cases a
 case agg cs=>
  obtain ⟨vs,rfl,h1,h2⟩:=hr.agg'
  exact .agg cs vs h1 fun i c v hc hv=>oneR_rep0 (List.all_eq_true.1 ha c (List.mem_of_getElem? hc)) (h2 i c v hc hv)
 all_goals exact oneR_rep0 ha hr
theorem rows_m {id : Nat} {s : Slot} (hm : (E.rows h).m id = some s) : (s = .dead ∧ h[id]? = some .dead) ∨ (E.m id = some s ∧ ∃ sz es,h[id]? = some (.arr sz es)):=by
 have hm' : (match h[id]? with
  | some (.arr _ _)=>E.m id
  | some .dead=>(E.m id).map fun _=>Slot.dead
  | _=>none) = some s:=hm
 split at hm'
 ·rename_i ho; exact .inr ⟨hm',_,_,ho⟩
 ·rename_i ho
  simp only [Option.map_eq_some_iff] at hm'
  obtain ⟨_,_,rfl⟩:=hm'
  exact .inl ⟨rfl,ho⟩
 ·cases hm'
theorem rows_b {id : Nat} {s : Slot} {b : Nat} (hm : (E.rows h).m id = some s) (hb : s.blk = some b) : E.m id = some s ∧ ∃ sz es,h[id]? = some (.arr sz es):=by
 rcases rows_m hm with ⟨rfl,_⟩ | h
 ·cases hb
 ·exact h
theorem Sim.rows (s : Sim E h w) (hp : h.all AObj.plainR = true) : Sim (E.rows h) h w:=by
 have im : ∀ b,(E.rows h).im b → E.im b:=fun b ⟨id,sl,hm,hb⟩=>⟨id,sl,(rows_b hm hb).1,hb⟩
 refine ⟨fun id o sl ho hm=>?_,fun i j si sj b hi hj hbi hbj=>s.inj i j si sj b (rows_b hi hbi).1 (rows_b hj hbj).1 hbi hbj,fun b hb=>s.nS b (im b hb),fun b hb=>s.lt b (im b hb),s.Slt⟩
 rcases rows_m hm with ⟨_,hk⟩ | ⟨hm',sz,es,hk⟩
 ·rw [ho] at hk
  cases hk
  simp only [ObjOk]
 ·have hobj:=s.obj id o sl ho hm'
  rw [ho] at hk
  cases hk
  have hpl:=List.all_eq_true.1 hp _ (List.mem_of_getElem? ho)
  simp only [AObj.plainR] at hpl
  cases sl <;> simp only [ObjOk] at hobj ⊢ <;> try exact hobj
  obtain ⟨h1,h2,h3,h4,h5⟩:=hobj
  refine ⟨h1,h2,h3,h4,fun i x hx j c hj=>?_⟩
  obtain ⟨v,hv,hr⟩:=h5 i x hx j c hj
  exact ⟨v,hv,.clo (nonm_rep (E1:=E) (S:=E.S) (nonm1_cells (List.all_eq_true.1 hpl x (List.mem_of_getElem? hx)) hj) hr)⟩
def Env.cold (E : Env) (h : Heap) (S1 : Nat → Prop) : Env:=⟨fun id=>match h[id]? with
 | some (.arr _ _)=>(E.m id).map fun _=>.dead
 | _=>E.m id,S1⟩
theorem kcall_sound {cf : Cfg} {C : COr} (hC : Sound cf C) {f : FuncId} (hm : cf.M f = .K) {args : List AVal} {r : ARes} {vs : Array Value} (hc : callM cf C f args h = some r) (hb : bodied cf.P f = true) (s : Sim E h w) (hf : Full E h) (hg : GOk cf.G E.S w) (hr : Reps E w args vs) :
  Calls cf.P f vs w (Post E h w r):=by
   unfold callM at hc
   simp only [hm] at hc
   have s0 : Sim E [] w:=s.sub List.nil_prefix
   cases hs : snapL [] args with
   | some as=>
    simp only [hs] at hc
    have hr0 : Reps (Env.bare E.S) w as vs:=snapL_reps s0 (fun _ h=>h) (fun id o sl b ho=>by simp at ho) hs hr
    cases hq : C f as [] with
    | none=>simp [hq] at hc
    | some q=>
    cases q with
    | pan v h1=>simp [hq] at hc
    | ret v h1=>
     simp only [hq,Option.map_eq_some_iff] at hc
     obtain ⟨v',hv',rfl⟩:=hc
     refine Calls.mono (hC f as [] _ hq (Env.bare E.S) w vs hb (Sim.bare s.Slt) (fun _ _=>rfl) hg hr0) fun e w1 he=>?_
     cases e with
     | panicked chain=>obtain ⟨_,_,_,_,he,_⟩:=he; cases he
     | outgrown=>exact he.elim
     | returned u=>
      obtain ⟨v2,h2,E1,he2,s1,f1,x1,r1⟩:=he
      cases he2
      have hrc:=snap_sound s1 (S':=fun b=>E1.S b ∨ E1.im b) (fun _ h=>.inl h) (fun id o sl b _ hm hb=>.inr ⟨id,_,hm,hb⟩) _ _ _ _ hv' r1
      obtain ⟨p1,p2⟩:=s.plus (w1:=w1) (S1:=fun b=>E1.S b ∨ E1.im b) (fun b hb=>x1.mem b hb Env.bare_im) x1.size (fun b hb=>hb.elim (s1.Slt b) (s1.lt b)) x1.os x1.tape x1.output
      refine ⟨v',h,_,rfl,p1,hf,p2,.clo (hrc.mono (fun b hb=>?_) fun _ _=>rfl)⟩
      rcases hb with h2 | h2
      ·rcases x1.SN b h2 with h3 | h3 | h3
       ·exact .inl h3
       ·exact absurd h3 Env.bare_im
       ·exact .inr ⟨h3,.inl h2⟩
      ·rcases x1.new b h2 with h3 | h3
       ·exact absurd h3 Env.bare_im
       ·exact .inr ⟨h3,.inr h2⟩
   | none=>
    simp only [hs] at hc
    split at hc
    ·rename_i hk
     simp only [Bool.and_eq_true] at hk
     cases hs2 : snapL h args with
     | none=>simp [hs2] at hc
     | some as=>
     simp only [hs2] at hc
     have sR:=s.rows hk.2
     have hrR : Reps (E.rows h) w args vs:=⟨hr.1,fun i c v h1 h2=>oneR_rep (List.all_eq_true.1 hk.1 c (List.mem_of_getElem? h1)) (hr.2 i c v h1 h2)⟩
     have hr0 : Reps (Env.bare fun b=>E.S b ∨ (E.rows h).im b) w as vs:=snapL_reps sR (fun _ h=>.inl h) (fun id o sl b _ hm hb=>.inr ⟨id,_,hm,hb⟩) hs2 hrR
     cases hq : C f as [] with
     | none=>simp [hq] at hc
     | some q=>
     cases q with
     | pan v h1=>simp [hq] at hc
     | ret v h1=>
      simp only [hq,Option.map_eq_some_iff] at hc
      obtain ⟨v',hv',rfl⟩:=hc
      refine Calls.mono (hC f as [] _ hq (Env.bare fun b=>E.S b ∨ (E.rows h).im b) w vs hb (Sim.bare fun b hb=>hb.elim (s.Slt b) (sR.lt b)) (fun _ _=>rfl) (hg.mono (fun _ h=>.inl h) fun _ _=>rfl) hr0) fun e w1 he=>?_
      cases e with
      | panicked chain=>obtain ⟨_,_,_,_,he,_⟩:=he; cases he
      | outgrown=>exact he.elim
      | returned u=>
       obtain ⟨v2,h2,E1,he2,s1,f1,x1,r1⟩:=he
       cases he2
       have hrc:=snap_sound s1 (S':=fun b=>E1.S b ∨ E1.im b) (fun _ h=>.inl h) (fun id o sl b _ hm hb=>.inr ⟨id,_,hm,hb⟩) _ _ _ _ hv' r1
       have hmem : ∀ b,b < w.heap.size → w1.heap[b]? = w.heap[b]?:=fun b hb=>x1.mem b hb Env.bare_im
       let E' : Env:=E.cold h fun b=>E.S b ∨ (E.rows h).im b ∨ (w.heap.size ≤ b ∧ (E1.S b ∨ E1.im b))
       have imR : ∀ b,(E.rows h).im b → E.im b:=fun b ⟨id,sl,hm,hb⟩=>⟨id,sl,(rows_b hm hb).1,hb⟩
       have m1 : ∀ id sl,E.m id = some sl → E'.m id = some sl ∨ E'.m id = some .dead:=by
        intro id sl hs
        show (match h[id]? with
         | some (.arr _ _)=>(E.m id).map fun _=>Slot.dead
         | _=>E.m id) = _ ∨ (match h[id]? with
         | some (.arr _ _)=>(E.m id).map fun _=>Slot.dead
         | _=>E.m id) = _
        split
        ·right; rw [hs]; rfl
        ·left; exact hs
       have m2 : ∀ id sl b,E'.m id = some sl → sl.blk = some b → E.m id = some sl ∧ ∀ sz es,h[id]? ≠ some (.arr sz es):=by
        intro id sl b hs hb
        have hs' : (match h[id]? with
         | some (.arr _ _)=>(E.m id).map fun _=>Slot.dead
         | _=>E.m id) = some sl:=hs
        split at hs'
        ·simp only [Option.map_eq_some_iff] at hs'
         obtain ⟨_,_,rfl⟩:=hs'
         cases hb
        ·rename_i hno
         exact ⟨hs',fun sz es he=>hno _ _ he⟩
       have hrep : ∀ a v,Rep E w a v → Rep E' w1 a v:=fun a v hr=>hr.mono (fun b hb=>Or.inl hb) (fun b hb=>hmem b (s.Slt b hb)) m1
       have imE : ∀ b,E'.im b → E.im b ∧ ¬ (E.rows h).im b:=by
        rintro b ⟨id,sl,hs,hbl⟩
        obtain ⟨g1,g2⟩:=m2 id sl b hs hbl
        refine ⟨⟨id,sl,g1,hbl⟩,?_⟩
        rintro ⟨id2,sl2,hs2',hbl2⟩
        obtain ⟨g3,sz,es,g4⟩:=rows_b hs2' hbl2
        have:=s.inj id id2 sl sl2 b g1 g3 hbl hbl2
        subst this
        exact g2 sz es g4
       refine ⟨v',h.map AObj.freeze,E',rfl,⟨fun id o sl ho hs=>?_,fun i j si sj b hi hj hbi hbj=>s.inj i j si sj b (m2 i si b hi hbi).1 (m2 j sj b hj hbj).1 hbi hbj,fun b hb hS=>?_,fun b hb=>Nat.lt_of_lt_of_le (s.lt b (imE b hb).1) x1.size,fun b hb=>?_⟩,fun k hk=>?_,⟨⟨fun b hb=>Or.inl hb,fun b hb=>?_,fun b hb _=>hmem b hb,m1,fun b hb=>.inl (imE b hb).1,by simp,x1.size,x1.os,x1.tape,x1.output⟩,fun k g1 g2=>?_⟩,.clo (hrc.mono (fun b hb=>?_) fun _ _=>rfl)⟩
       ·rw [List.getElem?_map,Option.map_eq_some_iff] at ho
        obtain ⟨o0,ho0,rfl⟩:=ho
        have hs' : (match h[id]? with
         | some (.arr _ _)=>(E.m id).map fun _=>Slot.dead
         | _=>E.m id) = some sl:=hs
        cases o0 with
        | arr sz es=>simp only [AObj.freeze,ObjOk]
        | dead=>simp only [AObj.freeze,ObjOk]
        | _=>
         rw [ho0] at hs'
         exact (s.obj id _ sl ho0 hs').mono hrep fun b hb=>hmem b (s.lt b ⟨id,sl,hs',hb⟩)
       ·rcases hS with h3 | h3 | ⟨h3,_⟩
        ·exact s.nS b (imE b hb).1 h3
        ·exact (imE b hb).2 h3
        ·have:=s.lt b (imE b hb).1; omega
       ·rcases hb with h3 | h3 | ⟨_,h3 | h3⟩
        ·exact Nat.lt_of_lt_of_le (s.Slt b h3) x1.size
        ·exact Nat.lt_of_lt_of_le (sR.lt b h3) x1.size
        ·exact s1.Slt b h3
        ·exact s1.lt b h3
       ·have : h[k]? = none:=List.getElem?_eq_none (by simpa using hk)
        show (match h[k]? with
         | some (.arr _ _)=>(E.m k).map fun _=>Slot.dead
         | _=>E.m k) = none
        rw [this]
        exact hf k (by simpa using hk)
       ·rcases hb with h3 | h3 | ⟨h3,_⟩
        ·exact .inl h3
        ·exact .inr (.inl (imR b h3))
        ·exact .inr (.inr h3)
       ·show (match h[k]? with
         | some (.arr _ _)=>(E.m k).map fun _=>Slot.dead
         | _=>E.m k) = none
        rw [g2]
        split <;> rfl
       ·rcases hb with h2 | h2
        ·rcases x1.SN b h2 with h3 | h3 | h3
         ·rcases h3 with h3 | h3
          ·exact Or.inl h3
          ·exact Or.inr (.inl h3)
         ·exact absurd h3 Env.bare_im
         ·exact Or.inr (.inr ⟨h3,.inl h2⟩)
        ·rcases x1.new b h2 with h3 | h3
         ·exact absurd h3 Env.bare_im
         ·exact Or.inr (.inr ⟨h3,.inr h2⟩)
    ·cases hc
theorem callM_sound {cf : Cfg} {C : COr} (hC : Sound cf C) (hX : ∀ f,cf.M f ≠ .X) {f : FuncId} {args : List AVal} {r : ARes} {vs : Array Value} (hc : callM cf C f args h = some r) (hb : bodied cf.P f = true) (s : Sim E h w) (hf : Full E h) (hg : GOk cf.G E.S w) (hr : Reps E w args vs) :
  Calls cf.P f vs w (Post E h w r):=by
   cases hm : cf.M f with
   | X=>exact absurd hm (hX f)
   | K=>exact kcall_sound hC hm hc hb s hf hg hr
   | F=>unfold callM at hc; simp only [hm] at hc; exact hC f args h r hc E w vs hb s hf hg hr
   | N=>
    cases r with
    | pan v h'=>
     exfalso
     unfold callM at hc
     simp only [hm] at hc
     split at hc
     ·split at hc
      ·split at hc <;> cases hc
      ·cases hc
     ·cases hc
    | ret v h'=>
     have hpre : h <+: h':=by
      have hc':=hc
      unfold callM at hc'
      simp only [hm] at hc'
      split at hc'
      ·split at hc'
       ·split at hc'
        ·cases hc'; exact List.prefix_append _ _
        ·cases hc'
       ·cases hc'
      ·cases hc'
     obtain ⟨_,hcall⟩:=ncall_sound hC hm hc hb (List.prefix_refl h') (fun k h1 _=>hf k h1) (s.more hpre hf) hg hr
     refine Calls.mono hcall fun e w1 he=>?_
     cases e with
     | panicked chain=>exact he.elim
     | outgrown=>exact he.elim
     | returned u=>
      obtain ⟨v2,h2,E',hq,s',x',r',hm'⟩:=he
      cases hq
      refine ⟨v,h',E',rfl,s',fun k hk=>?_,⟨⟨x'.S,x'.SN,x'.mem,x'.m,x'.new,hpre.length_le,x'.size,x'.os,x'.tape,x'.output⟩,fun k g1 g2=>(hm' k).elim (fun h=>h.trans g2) fun h=>by omega⟩,r'⟩
      rcases hm' k with h1 | ⟨_,h2⟩
      ·rw [h1]; exact hf k (Nat.le_trans hpre.length_le hk)
      ·omega
   | P=>
    refine Calls.mono (pcall_sound hC hm hc hb (List.prefix_refl _) s hg hr) fun e w1 he=>?_
    cases e with
    | returned u=>obtain ⟨v,S1,rfl,p1,p2,p3⟩:=he; exact ⟨v,h,_,rfl,p1,hf,p2,p3⟩
    | panicked chain=>obtain ⟨v,S1,u,rfl,rfl,p1,p2,p3⟩:=he; exact ⟨v,h,_,u,rfl,rfl,p1,hf,p2,p3⟩
    | outgrown=>exact he.elim
end
end Go.Am

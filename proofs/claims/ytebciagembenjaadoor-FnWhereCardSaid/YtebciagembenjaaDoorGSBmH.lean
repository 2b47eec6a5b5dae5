/- The operations that make: variables, structs, rows, maps. -/
import Derived.Test.YtebciagembenjaaDoorGSBmG
import Derived.Great.BuildSlice
set_option linter.unusedVariables false
set_option linter.unusedSimpArgs false
/- The operations that make: variables, structs, rows, maps. -/
set_option maxHeartbeats 4000000
namespace Go.Am
open Go
theorem Sim.place {E : Env} {H : Heap} {w : World} (s : Sim E H w) {id : Nat} {o : AObj} (ob : Obj) (sl : Slot) (hid : H[id]? = some o) (hn : E.m id = none) (hsl : sl.blk = some w.heap.size)
  (hok : ObjOk (E.put id sl) (w.alloc ob) o sl) : Sim (E.put id sl) H (w.alloc ob) ∧ Ext0 E H w (E.put id sl) H (w.alloc ob):=by
   have hne : ∀ k s',E.m k = some s' → k ≠ id:=fun k s' hs e=>by subst e; rw [hn] at hs; cases hs
   have hx : Ext0 E H w (E.put id sl) H (w.alloc ob):=by
    refine ⟨fun _ h=>h,fun _ h=>.inl h,fun b hb _=>heap_alloc_lt w ob hb,fun k s' hs=>.inl ?_,fun b hb=>?_,Nat.le_refl _,by simp,rfl,rfl,rfl⟩
    ·rw [Env.put_other E sl (hne k s' hs)]; exact hs
    ·obtain ⟨k,s',h1,h2⟩:=hb
     by_cases e : k = id
     ·subst e; rw [Env.put_same] at h1; cases h1; rw [hsl] at h2; cases h2; exact .inr (Nat.le_refl _)
     ·rw [Env.put_other E sl e] at h1; exact .inl ⟨k,s',h1,h2⟩
   refine ⟨⟨?_,?_,?_,?_,?_⟩,hx⟩
   ·intro k o' s' ho hs
    by_cases e : k = id
    ·subst e
     rw [Env.put_same] at hs
     cases hs
     rw [hid] at ho
     cases ho
     exact hok
    ·rw [Env.put_other E sl e] at hs
     exact (s.obj k o' s' ho hs).mono (fun a v hr=>hr.ext0 hx s) fun b hb=>heap_alloc_lt w ob (s.lt b ⟨k,s',hs,hb⟩)
   ·intro i j si sj b hi hj hbi hbj
    by_cases ei : i = id <;> by_cases ej : j = id
    ·omega
    ·subst ei
     rw [Env.put_same] at hi
     cases hi
     rw [Env.put_other E sl ej] at hj
     rw [hsl] at hbi
     cases hbi
     exact absurd (s.lt _ ⟨j,sj,hj,hbj⟩) (Nat.lt_irrefl _)
    ·subst ej
     rw [Env.put_same] at hj
     cases hj
     rw [Env.put_other E sl ei] at hi
     rw [hsl] at hbj
     cases hbj
     exact absurd (s.lt _ ⟨i,si,hi,hbi⟩) (Nat.lt_irrefl _)
    ·rw [Env.put_other E sl ei] at hi
     rw [Env.put_other E sl ej] at hj
     exact s.inj i j si sj b hi hj hbi hbj
   ·intro b hb hS
    obtain ⟨k,s',h1,h2⟩:=hb
    by_cases e : k = id
    ·subst e; rw [Env.put_same] at h1; cases h1; rw [hsl] at h2; cases h2; exact absurd (s.Slt _ hS) (Nat.lt_irrefl _)
    ·rw [Env.put_other E sl e] at h1; exact s.nS b ⟨k,s',h1,h2⟩ hS
   ·intro b hb
    obtain ⟨k,s',h1,h2⟩:=hb
    by_cases e : k = id
    ·subst e; rw [Env.put_same] at h1; cases h1; rw [hsl] at h2; cases h2; simp
    ·rw [Env.put_other E sl e] at h1
     have:=s.lt b ⟨k,s',h1,h2⟩
     simp; omega
   ·intro b hb
    have:=s.Slt b hb
    simp; omega
theorem Sim.anon {E : Env} {H : Heap} {w : World} (s : Sim E H w) (ob : Obj) : Sim E H (w.alloc ob) ∧ Ext0 E H w E H (w.alloc ob):=by
 have hx : Ext0 E H w E H (w.alloc ob):=⟨fun _ h=>h,fun _ h=>.inl h,fun b hb _=>heap_alloc_lt w ob hb,fun _ _ h=>.inl h,fun _ h=>.inl h,Nat.le_refl _,by simp,rfl,rfl,rfl⟩
 exact ⟨⟨fun id o sl ho hm=>(s.obj id o sl ho hm).mono (fun a v hr=>hr.ext0 hx s) fun b hb=>heap_alloc_lt w ob (s.lt b ⟨id,sl,hm,hb⟩),s.inj,s.nS,fun b hb=>by have:=s.lt b hb; simp; omega,fun b hb=>by have:=s.Slt b hb; simp; omega⟩,hx⟩
theorem Sim.sub {E : Env} {h H : Heap} {w : World} (s : Sim E H w) (hp : h <+: H) : Sim E h w:=
 ⟨fun id o sl ho hm=>s.obj id o sl (by obtain ⟨t,rfl⟩:=hp; rw [List.getElem?_append_left (List.getElem?_eq_some_iff.1 ho).1]; exact ho) hm,s.inj,s.nS,s.lt,s.Slt⟩
theorem Sim.more {E : Env} {h H : Heap} {w : World} (s : Sim E h w) (hp : h <+: H) (hf : ∀ k,h.length ≤ k → E.m k = none) : Sim E H w:=by
 refine ⟨fun id o sl ho hm=>s.obj id o sl ?_ hm,s.inj,s.nS,s.lt,s.Slt⟩
 have hlt : id < h.length:=Nat.lt_of_not_le fun hc=>by rw [hf id hc] at hm; cases hm
 obtain ⟨t,rfl⟩:=hp
 rw [List.getElem?_append_left hlt] at ho
 exact ho
theorem cell_new (w : World) (cs : Array Value) (el : TypeId) (j : Nat) : (w.alloc (.cells cs el)).cell? ⟨w.heap.size,j,none⟩ = cs[j]?:=by
 simp only [World.cell?,heap_alloc_new]
 rfl
theorem row_new (w : World) (cs : Array Value) (el : TypeId) : Row (w.alloc (.cells cs el)) w.heap.size cs.size:=⟨cs,el,heap_alloc_new w _,rfl⟩
theorem Rep.put {E : Env} {w : World} {H : Heap} (s : Sim E H w) {id : Nat} (sl : Slot) (hn : E.m id = none) (ob : Obj) {a : AVal} {v : Value} (h : Rep E w a v) : Rep (E.put id sl) (w.alloc ob) a v:=
 Rep.mono (E:=E) (E':=E.put id sl) (fun _ h=>h) (fun b hb=>heap_alloc_lt w ob (s.Slt b hb)) (fun k s' hs=>.inl (by rw [Env.put_other E sl (fun e=>by subst e; rw [hn] at hs; cases hs)]; exact hs)) h
def CellsRel (E : Env) (w : World) (l : List AVal) (cs : Array Value) : Prop:=l.length = cs.size ∧ ∀ (j : Nat) (c : AVal),l[j]? = some c → ∃ v,cs[j]? = some v ∧ Rep E w c v
def Flat (E : Env) (w : World) (sz : Nat) (es : List AVal) (cs : Array Value) : Prop:=
 es.length * sz = cs.size ∧ (∀ x ∈ es,x.cells.length = sz) ∧ ∀ (i : Nat) (x : AVal),es[i]? = some x → ∀ (j : Nat) (c : AVal),x.cells[j]? = some c → ∃ v,cs[i * sz + j]? = some v ∧ Rep E w c v
theorem Rep.rel {E : Env} {w : World} {a : AVal} {v : Value} (h : Rep E w a v) : CellsRel E w a.cells v.cells:=h.cells
def okx (P : Program) (E : Env) (H : Heap) (w : World) (x : Sem Next) (v : AVal) (lo hi : Nat) : Prop:=
 ∃ u w' E',x.run P w = .ok (.value u) w' ∧ Sim E' H w' ∧ Ext0 E H w E' H w' ∧ Rep E' w' v u ∧ ∀ k,E'.m k = E.m k ∨ (lo ≤ k ∧ k < hi)
section
variable {P : Program} {E : Env} {w : World} {H : Heap}
theorem new_box (s : Sim E H w) {id : Nat} (hn : E.m id = none) {x : AVal} {cs : Array Value} (el : TypeId) (hid : H[id]? = some (.box x)) (hc : CellsRel E w x.cells cs) :
  ∃ E',Sim E' H (w.alloc (.cells cs el)) ∧ Ext0 E H w E' H (w.alloc (.cells cs el)) ∧ Rep E' (w.alloc (.cells cs el)) (.ptr id 0 0) (.pointer (some ⟨w.heap.size,0,none⟩)) ∧ ∀ k,E'.m k = E.m k ∨ (id ≤ k ∧ k < id + 1):=by
   obtain ⟨h1,h2⟩:=s.place (.cells cs el) (.live w.heap.size cs.size 0) hid hn rfl ⟨row_new w cs el,by rw [hc.1]; exact Nat.le_refl _,fun j c hj=>by
    obtain ⟨v,g1,g2⟩:=hc.2 j c hj
    exact ⟨v,by rw [Nat.zero_add,cell_new]; exact g1,g2.put s _ hn _⟩⟩
   refine ⟨_,h1,h2,?_,fun k=>?_⟩
   ·have:=Rep.ptr (w:=w.alloc (.cells cs el)) id 0 0 w.heap.size cs.size 0 (Env.put_same E id (.live w.heap.size cs.size 0))
    simpa using this
   ·by_cases e : k = id
    ·exact .inr (by omega)
    ·exact .inl (Env.put_other E _ e)
theorem new_row (s : Sim E H w) {id : Nat} (hn : E.m id = none) {sz len cap : Nat} {es : List AVal} {cs : Array Value} (el : TypeId) (hid : H[id]? = some (.arr sz es)) (hc : Flat E w sz es cs) (hl : len ≤ cap) (hcap : cap ≤ es.length) :
  ∃ E',Sim E' H (w.alloc (.cells cs el)) ∧ Ext0 E H w E' H (w.alloc (.cells cs el)) ∧ Rep E' (w.alloc (.cells cs el)) (.own id 0 len) (.slice (some ⟨w.heap.size,0,none⟩) len cap) ∧ ∀ k,E'.m k = E.m k ∨ (id ≤ k ∧ k < id + 1):=by
   obtain ⟨f1,f2,f3⟩:=hc
   obtain ⟨h1,h2⟩:=s.place (.cells cs el) (.live w.heap.size cs.size sz) hid hn rfl ⟨rfl,row_new w cs el,by rw [f1]; exact Nat.le_refl _,f2,fun i x hx j c hj=>by
    obtain ⟨v,g1,g2⟩:=f3 i x hx j c hj
    exact ⟨v,by rw [cell_new]; exact g1,g2.put s _ hn _⟩⟩
   refine ⟨_,h1,h2,?_,fun k=>?_⟩
   ·refine .own id 0 len _ cap w.heap.size cs.size sz (Env.put_same E id _) hl (.inr ⟨by simp,?_⟩)
    rw [Nat.zero_add,← f1]
    exact Nat.mul_le_mul_right _ hcap
   ·by_cases e : k = id
    ·exact .inr (by omega)
    ·exact .inl (Env.put_other E _ e)
def fillOne (off : Nat) (cells : Array Value) (v : Value) : Array Value:=v.cells.zipIdx.foldl (fun cs (c,j)=>cs.setIfInBounds (off + j) c) cells
theorem fillOne_get (off : Nat) (cells : Array Value) (v : Value) (hle : off + v.cells.size ≤ cells.size) :
  (fillOne off cells v).size = cells.size ∧ ∀ k,(fillOne off cells v)[k]? = if off ≤ k ∧ k < off + v.cells.size then v.cells[k - off]? else cells[k]?:=by
   have h:=Go.Great.foldl_set off v.cells.toList 0 cells
   have e : fillOne off cells v = (v.cells.toList.zipIdx 0).foldl (fun cs (x : Value × Nat)=>cs.setIfInBounds (off + x.2) x.1) cells:=by
    unfold fillOne
    rw [← Array.foldl_toList,Array.toList_zipIdx]
   rw [e]
   refine ⟨h.1,fun k=>?_⟩
   rw [h.2 k]
   simp only [Nat.add_zero,Array.length_toList,Array.getElem?_toList]
   by_cases hk : off ≤ k ∧ k < off + v.cells.size
   ·rw [if_pos hk,if_pos ⟨hk.1,hk.2,by omega⟩]
   ·rw [if_neg hk,if_neg (fun h=>hk ⟨h.1,h.2.1⟩)]
theorem fill_cons (place : Nat → Option (Nat × Nat)) (cells : Array Value) (i : Nat) (v : Value) (rest : List (Nat × Value)) (off size : Nat) (hp : place i = some (off,size)) (hs : v.cells.size = size) (hle : off + size ≤ cells.size) :
  Instr.fill place cells ((i,v) :: rest) = Instr.fill place (fillOne off cells v) rest:=by
   have h1 : ¬ (v.cells.size ≠ size ∨ off + v.cells.size > cells.size):=by omega
   simp only [Instr.fill,hp]
   rw [if_neg (by simpa using h1)]
   rfl
theorem splice_get (cs vs : List AVal) (off : Nat) (hle : off + vs.length ≤ cs.length) (k : Nat) : (cs.take off ++ (vs ++ cs.drop (off + vs.length)))[k]? = if off ≤ k ∧ k < off + vs.length then vs[k - off]? else cs[k]?:=by
 have hl : (cs.take off).length = off:=by simp; omega
 by_cases h1 : k < off
 ·rw [if_neg (by omega),List.getElem?_append_left (by omega),List.getElem?_take,if_pos h1]
 ·rw [List.getElem?_append_right (by omega),hl]
  by_cases h2 : k < off + vs.length
  ·rw [if_pos ⟨by omega,h2⟩,List.getElem?_append_left (by omega)]
  ·rw [if_neg (by omega),List.getElem?_append_right (by omega),List.getElem?_drop]
   congr 1
   omega
theorem splice_rel {l vs : List AVal} {cs : Array Value} {v : Value} {off : Nat} (hc : CellsRel E w l cs) (hv : CellsRel E w vs v.cells) (hle : off + vs.length ≤ l.length) :
  CellsRel E w (l.take off ++ (vs ++ l.drop (off + vs.length))) (fillOne off cs v):=by
   have hle' : off + v.cells.size ≤ cs.size:=by rw [← hv.1,← hc.1]; exact hle
   obtain ⟨g1,g2⟩:=fillOne_get off cs v hle'
   refine ⟨by rw [g1,← hc.1]; simp; omega,fun j c hj=>?_⟩
   rw [splice_get _ _ _ hle] at hj
   rw [g2]
   by_cases hk : off ≤ j ∧ j < off + vs.length
   ·rw [if_pos hk] at hj
    rw [if_pos (by rw [← hv.1]; exact hk)]
    exact hv.2 _ _ hj
   ·rw [if_neg hk] at hj
    rw [if_neg (by rw [← hv.1]; exact hk)]
    exact hc.2 _ _ hj
inductive PartsRel (E : Env) (w : World) : List (Nat × AVal) → List (Nat × Value) → Prop
 | nil : PartsRel E w [] []
 | cons {p : Nat × AVal} {v : Nat × Value} {ps : List (Nat × AVal)} {vs : List (Nat × Value)} (h : p.1 = v.1 ∧ Rep E w p.2 v.2) (hr : PartsRel E w ps vs) : PartsRel E w (p :: ps) (v :: vs)
theorem fill_rel {pl : Nat → Option (Nat × Nat)} : ∀ (ps : List (Nat × AVal)) (vs : List (Nat × Value)) (l r : List AVal) (cs : Array Value),PartsRel E w ps vs → CellsRel E w l cs → fillParts pl l ps = some r →
  ∃ rs,Instr.fill pl cs vs = some rs ∧ CellsRel E w r rs:=by
   intro ps
   induction ps with
   | nil=>
    intro vs l r cs hp hc hf
    cases hp
    simp only [fillParts] at hf
    cases hf
    exact ⟨cs,rfl,hc⟩
   | cons p ps ih=>
    intro vs l r cs hp hc hf
    cases hp with
    | cons h1 hp=>
     rename_i v vs
     obtain ⟨i,a⟩:=p
     obtain ⟨i',u⟩:=v
     obtain ⟨rfl,hr⟩:=h1
     simp only [fillParts] at hf
     split at hf
     ·rename_i off sz hpl
      split at hf
      ·rename_i hle
       have hr':=hr.rel
       have hs : u.cells.size = sz:=by rw [← hr'.1]; exact hle.1
       rw [fill_cons pl cs i u vs off sz hpl hs (by rw [← hc.1]; exact hle.2)]
       refine ih vs _ r _ hp ?_ hf
       have:=splice_rel hc hr' (off:=off) (by rw [hle.1]; exact hle.2)
       rw [hle.1] at this
       exact this
      ·cases hf
     ·cases hf
theorem parts_rel {cf : Cfg} {tm : Nat → AVal} {ρ : Operand → Value} (ps : Array (Nat × Operand)) (hr : ∀ p ∈ ps.toList,∀ v,ev cf.G tm p.2 = some v → Rep E w v (ρ p.2)) (vs : List (Nat × AVal))
  (h : mapO (fun p=>(ev cf.G tm p.2).map fun v=>(p.1,v)) ps.toList = some vs) : PartsRel E w vs (ps.map fun (i,x)=>(i,ρ x)).toList:=by
   rw [Array.toList_map]
   revert vs hr
   generalize ps.toList = l
   induction l with
   | nil=>intro hr vs h; simp only [mapO] at h; cases h; exact .nil
   | cons p l ih=>
    intro hr vs h
    simp only [mapO] at h
    cases hp : ev cf.G tm p.2 with
    | none=>simp [hp] at h
    | some a=>
     cases hl : mapO (fun p=>(ev cf.G tm p.2).map fun v=>(p.1,v)) l with
     | none=>simp [hp,hl] at h
     | some r=>
      simp only [hp,hl,Option.map_some] at h
      cases h
      exact .cons ⟨rfl,hr p (by simp) a hp⟩ (ih (fun q hq=>hr q (by simp [hq])) r hl)
theorem zeroA_cells {t : TypeId} {z : AVal} (h : zeroA P t = some z) : ∃ i v,P.info? t = some i ∧ i.zero = some v ∧ ∀ (E : Env) (w : World),CellsRel E w z.cells v.cells:=by
 unfold zeroA at h
 simp only [Option.bind_eq_some_iff] at h
 obtain ⟨v,⟨i,hi,hz⟩,hv⟩:=h
 exact ⟨i,v,hi,hz,fun E w=>(Rep.clo (ofV_rep hv) : Rep E w z v).rel⟩
theorem mapM_opt {α β : Type} (f : α → Option β) : ∀ (l : List α),(∀ x ∈ l,(f x).isSome = true) → ∃ r,l.mapM f = some r ∧ ∀ i : Nat,r[i]? = (l[i]?).bind f
 | [],_=>⟨[],rfl,fun i=>by simp⟩
 | x :: l,h=>by
  obtain ⟨y,hy⟩:=Option.isSome_iff_exists.1 (h x (by simp))
  obtain ⟨r,hr,hg⟩:=mapM_opt f l fun z hz=>h z (by simp [hz])
  refine ⟨y :: r,by simp [List.mapM_cons,hy,hr],fun i=>?_⟩
  cases i with
  | zero=>simp [hy]
  | succ i=>simpa using hg i
theorem fill_congr {pl pl' : Nat → Option (Nat × Nat)} (h : ∀ i,pl i = pl' i) : ∀ (vs : List (Nat × Value)) (cs : Array Value),Instr.fill pl cs vs = Instr.fill pl' cs vs
 | [],cs=>rfl
 | (i,v) :: vs,cs=>by
  simp only [Instr.fill,h i]
  split
  ·rfl
  ·split
   ·rfl
   ·exact fill_congr h vs _
theorem build_sound {cf : Cfg} {tm : Nat → AVal} {ρ : Operand → Value} {t : TypeId} {ps : Array (Nat × Operand)} {z : AVal} {vs : List (Nat × AVal)} {r : List AVal} (hz : zeroA P t = some z) (hok : typesOk P t = true)
  (hr : ∀ p ∈ ps.toList,∀ v,ev cf.G tm p.2 = some v → Rep E w v (ρ p.2)) (hv : mapO (fun p=>(ev cf.G tm p.2).map fun v=>(p.1,v)) ps.toList = some vs) (hf : fillParts (placeA P t) z.cells vs = some r) :
  okv P E w (Instr.build t (ps.map fun (i,x)=>(i,ρ x))) (.agg r):=by
   obtain ⟨i,zv,hi,hzz,hzr⟩:=zeroA_cells hz
   obtain ⟨rs,hrs,hrr⟩:=fill_rel _ _ _ _ _ (parts_rel ps hr vs hv) (hzr E w) hf
   refine ⟨.agg rs,run_build w t _ rs ?_,.agg r rs hrr.1 fun j c v hc hv=>?_⟩
   ·unfold Program.built
    unfold typesOk at hok
    split at hok
    ·rename_i fs hu
     obtain ⟨q,hq,hg⟩:=mapM_opt (fun f : Field=>(P.info? f.type).map fun i=>(f.offset,i.size)) fs.toList (fun f hf=>by
      have:=List.all_eq_true.1 hok f hf
      obtain ⟨x,hx⟩:=Option.isSome_iff_exists.1 this
      simp [hx])
     simp only [hi,hu,hzz,hq]
     rw [← hrs]
     refine fill_congr (fun k=>?_) _ _
     simp only [List.getElem?_toArray,hg,placeA,hu,Array.getElem?_toList]
     cases fs[k]? <;> rfl
    ·rename_i n e hu
     obtain ⟨x,hx⟩:=Option.isSome_iff_exists.1 hok
     simp only [hi,hu,hzz,hx]
     rw [← hrs]
     refine fill_congr (fun k=>?_) _ _
     simp [placeA,hu,hx]
    ·cases hok
   ·obtain ⟨u,hu,hru⟩:=hrr.2 j c hc
    rw [hv] at hu
    cases hu
    exact hru
theorem flat_set {sz : Nat} {es : List AVal} {cs : Array Value} {i : Nat} {a : AVal} {v : Value} (hc : Flat E w sz es cs) (hr : Rep E w a v) (hi : i < es.length) (hs : a.cells.length = sz) : Flat E w sz (es.set i a) (fillOne (i * sz) cs v):=by
 obtain ⟨f1,f2,f3⟩:=hc
 have hr':=hr.rel
 have hvs : v.cells.size = sz:=by rw [← hr'.1]; exact hs
 have hle : i * sz + v.cells.size ≤ cs.size:=by
  rw [hvs,← f1,← Nat.succ_mul]
  exact Nat.mul_le_mul_right _ hi
 obtain ⟨g1,g2⟩:=fillOne_get (i * sz) cs v hle
 refine ⟨by rw [g1]; simpa using f1,fun x hx=>?_,fun k x hx j c hj=>?_⟩
 ·rcases List.mem_or_eq_of_mem_set hx with h | h
  ·exact f2 x h
  ·subst h; exact hs
 ·rw [g2]
  rw [List.getElem?_set] at hx
  split at hx
  ·rename_i e
   subst e
   simp [hi] at hx
   subst hx
   have hj' : j < sz:=by rw [← hs]; exact (List.getElem?_eq_some_iff.1 hj).1
   rw [if_pos (by omega),Nat.add_sub_cancel_left]
   exact hr'.2 j c hj
  ·rename_i e
   have hj' : j < sz:=by
    rw [← f2 x (List.mem_of_getElem? hx)]
    exact (List.getElem?_eq_some_iff.1 hj).1
   have hout : ¬ (i * sz ≤ k * sz + j ∧ k * sz + j < i * sz + v.cells.size):=by
    rw [hvs]
    rintro ⟨h1,h2⟩
    rcases Nat.lt_or_gt_of_ne e with h | h
    ·have:=Nat.mul_le_mul_right sz (show i + 1 ≤ k from h)
     rw [Nat.succ_mul] at this
     omega
    ·have:=Nat.mul_le_mul_right sz (show k + 1 ≤ i from h)
     rw [Nat.succ_mul] at this
     omega
   rw [if_neg hout]
   exact f3 k x hx j c hj
theorem fillS_rel {sz : Nat} : ∀ (ps : List (Nat × AVal)) (vs : List (Nat × Value)) (es r : List AVal) (cs : Array Value),PartsRel E w ps vs → Flat E w sz es cs → setParts es sz ps = some r →
  ∃ rs,Instr.fill (fun i=>some (i * sz,sz)) cs vs = some rs ∧ Flat E w sz r rs ∧ r.length = es.length:=by
   intro ps
   induction ps with
   | nil=>
    intro vs es r cs hp hc hf
    cases hp
    simp only [setParts] at hf
    cases hf
    exact ⟨cs,rfl,hc,rfl⟩
   | cons p ps ih=>
    intro vs es r cs hp hc hf
    cases hp with
    | cons h1 hp=>
     rename_i v vs
     obtain ⟨i,a⟩:=p
     obtain ⟨i',u⟩:=v
     obtain ⟨rfl,hr⟩:=h1
     simp only [setParts] at hf
     split at hf
     ·rename_i hle
      have hs : u.cells.size = sz:=by rw [← hr.rel.1]; exact hle.2
      have hle2 : i * sz + sz ≤ cs.size:=by
       rw [← hc.1,← Nat.succ_mul]
       exact Nat.mul_le_mul_right _ hle.1
      rw [fill_cons (fun i=>some (i * sz,sz)) cs i u vs (i * sz) sz rfl hs hle2]
      obtain ⟨rs,g1,g2,g3⟩:=ih vs _ r _ hp (flat_set hc hr hle.1 hle.2) hf
      exact ⟨rs,g1,g2,by rw [g3]; simp⟩
     ·cases hf
theorem made_flat {z : AVal} {zv : Value} (hz : CellsRel E w z.cells zv.cells) (n : Nat) : Flat E w z.cells.length (List.replicate n z) (madeCells zv.cells (n * z.cells.length)):=by
 refine ⟨by simp [size_madeCells],fun x hx=>by rw [(List.mem_replicate.1 hx).2],fun i x hx j c hj=>?_⟩
 rw [List.getElem?_replicate] at hx
 split at hx
 ·rename_i hi
  cases hx
  obtain ⟨v,hv,hr⟩:=hz.2 j c hj
  refine ⟨v,?_,hr⟩
  have hjl : j < z.cells.length:=(List.getElem?_eq_some_iff.1 hj).1
  have hlt : i * z.cells.length + j < n * z.cells.length:=by
   have:=Nat.mul_le_mul_right z.cells.length (show i + 1 ≤ n from hi)
   rw [Nat.succ_mul] at this
   omega
  unfold madeCells
  rw [Array.getElem?_map,Array.getElem?_range,if_pos hlt]
  simp only [Option.map_some,← hz.1,Nat.mul_add_mod_of_lt hjl]
  have : j < zv.cells.size:=by rw [← hz.1]; exact hjl
  rw [getElem!_pos zv.cells j this]
  rw [Array.getElem?_eq_getElem this] at hv
  exact hv
 ·cases hx
theorem run_buildSlice_any (w : World) (t e : TypeId) (len : Nat) (parts : Array (Nat × Value)) (cells : Array Value) (ie : TypeInfo) (z : Value)
  (hu : P.underlying t = some (.slice e)) (hie : P.info? e = some ie) (hz : ie.zero = some z) (hsmall : ¬ len * ie.size > 2 ^ 24)
  (h : Instr.fill (fun i=>some (i * ie.size,ie.size)) (madeCells z.cells (len * ie.size)) parts.toList = some cells) :
  (Instr.buildSlice t len parts).run P w = .ok (.slice (some ⟨w.heap.size,0,none⟩) len len) (w.alloc (.cells cells e)):=by
   by_cases hpos : len * ie.size = 0
   ·have e0 : madeCells z.cells (len * ie.size) = #[]:=by rw [hpos]; simp [madeCells]
    rw [e0] at h
    simp only [hpos] at hsmall
    simp [Instr.buildSlice,run_underlying hu,sizeOf,typeInfo,hie,hpos,h,newRow,Array.range_zero']
   ·exact run_buildSlice w t e len parts cells ie z hu hie hz hsmall hpos h
end
end Go.Am

/- append. -/
import Derived.Test.YtebciagembenjaaDoorGH7
set_option linter.unusedVariables false
set_option linter.unusedSimpArgs false
/- append. -/
set_option maxHeartbeats 4000000
namespace Go.Am
open Go
section
variable {P : Program} {E : Env} {w : World} {h : Heap}
def FlatL (E : Env) (w : World) (sz : Nat) (es : List AVal) (cs : List Value) : Prop:=
 cs.length = es.length * sz ∧ (∀ x ∈ es,x.cells.length = sz) ∧ ∀ (i : Nat) (x : AVal),es[i]? = some x → ∀ (j : Nat) (c : AVal),x.cells[j]? = some c → ∃ v,cs[i * sz + j]? = some v ∧ Rep E w c v
theorem FlatL.append {sz : Nat} {xs ys : List AVal} {cs ds : List Value} (hx : FlatL E w sz xs cs) (hy : FlatL E w sz ys ds) : FlatL E w sz (xs ++ ys) (cs ++ ds):=by
 obtain ⟨x1,x2,x3⟩:=hx
 obtain ⟨y1,y2,y3⟩:=hy
 refine ⟨by simp [x1,y1,Nat.add_mul],fun x hx=>?_,fun i x hx j c hj=>?_⟩
 ·rcases List.mem_append.1 hx with h | h
  ·exact x2 x h
  ·exact y2 x h
 ·by_cases hi : i < xs.length
  ·rw [List.getElem?_append_left hi] at hx
   obtain ⟨v,hv,hr⟩:=x3 i x hx j c hj
   exact ⟨v,by rw [List.getElem?_append_left (List.getElem?_eq_some_iff.1 hv).1]; exact hv,hr⟩
  ·rw [List.getElem?_append_right (by omega)] at hx
   obtain ⟨v,hv,hr⟩:=y3 _ x hx j c hj
   refine ⟨v,?_,hr⟩
   have hge : cs.length ≤ i * sz + j:=by
    rw [x1]
    have:=Nat.mul_le_mul_right sz (show xs.length ≤ i by omega)
    omega
   rw [List.getElem?_append_right hge,← hv,x1]
   congr 1
   rw [Nat.sub_mul]
   have:=Nat.mul_le_mul_right sz (show xs.length ≤ i by omega)
   omega
theorem FlatL.mono {E' : Env} {w' : World} {sz : Nat} {xs : List AVal} {cs : List Value} (h : FlatL E w sz xs cs) (hr : ∀ a v,Rep E w a v → Rep E' w' a v) : FlatL E' w' sz xs cs:=
 ⟨h.1,h.2.1,fun i x hx j c hj=>by obtain ⟨v,h1,h2⟩:=h.2.2 i x hx j c hj; exact ⟨v,h1,hr _ _ h2⟩⟩
theorem row_cells {ys : List AVal} {b o sz : Nat} (hs : ∀ y ∈ ys,y.cells.length = sz) (hone : ∀ y ∈ ys,y.cells.all AVal.isCell = true) (hc : ∀ (i : Nat) (y : AVal),ys[i]? = some y → CellsAt E w b (o + i * sz) y) :
  ∃ news : List Value,FlatL E w sz ys news ∧ (∀ j v,news[j]? = some v → w.cell? ⟨b,o + j,none⟩ = some v) ∧ ∀ u ∈ news,u.oneCell' = true:=by
   let news : List Value:=(List.range (ys.length * sz)).map fun j=>(w.cell? ⟨b,o + j,none⟩).getD undef
   have hv : ∀ k,k < ys.length * sz → ∃ y c v,ys[k / sz]? = some y ∧ y.cells[k % sz]? = some c ∧ w.cell? ⟨b,o + k,none⟩ = some v ∧ Rep E w c v:=by
    intro k hk
    have hsz : 0 < sz:=Nat.pos_of_ne_zero fun e=>by subst e; simp at hk
    have hi : k / sz < ys.length:=Nat.div_lt_of_lt_mul (by rw [Nat.mul_comm]; exact hk)
    obtain ⟨y,hy⟩:=getElem?_some_of_lt hi
    have hj : k % sz < y.cells.length:=by rw [hs y (List.mem_of_getElem? hy)]; exact Nat.mod_lt _ hsz
    obtain ⟨c,hc'⟩:=getElem?_some_of_lt hj
    obtain ⟨v,h1,h2⟩:=hc _ y hy _ c hc'
    refine ⟨y,c,v,hy,hc',?_,h2⟩
    rw [← h1]
    congr 2
    rw [Nat.add_assoc,Nat.mul_comm,Nat.div_add_mod]
   have hget : ∀ k v,news[k]? = some v → k < ys.length * sz ∧ w.cell? ⟨b,o + k,none⟩ = some v:=by
    intro k v hk
    have hlt : k < ys.length * sz:=by
     have:=(List.getElem?_eq_some_iff.1 hk).1
     simpa [news] using this
    obtain ⟨_,_,u,_,_,hu,_⟩:=hv k hlt
    simp [news,hlt,hu] at hk
    exact ⟨hlt,by rw [hu,hk]⟩
   refine ⟨news,⟨by simp [news],hs,fun i x hx j c hj=>?_⟩,fun j v hj=>(hget j v hj).2,fun u hu=>?_⟩
   ·have hj' : j < sz:=by
     rw [← hs x (List.mem_of_getElem? hx)]
     exact (List.getElem?_eq_some_iff.1 hj).1
    have hlt : i * sz + j < ys.length * sz:=by
     have:=Nat.mul_le_mul_right sz (show i + 1 ≤ ys.length from (List.getElem?_eq_some_iff.1 hx).1)
     rw [Nat.succ_mul] at this
     omega
    obtain ⟨v,h1,h2⟩:=hc i x hx j c hj
    rw [Nat.add_assoc] at h1
    exact ⟨v,by simp [news,hlt,h1],h2⟩
   ·obtain ⟨k,hk⟩:=List.mem_iff_getElem?.1 hu
    obtain ⟨hlt,hcell⟩:=hget k u hk
    obtain ⟨y,c,v,hy,hc',hv',hr⟩:=hv k hlt
    rw [hcell] at hv'
    cases hv'
    exact hr.isCell (List.all_eq_true.1 (hone y (List.mem_of_getElem? hy)) c (List.mem_of_getElem? hc'))
theorem elemOk_all {sz : Nat} {ys : List AVal} (h : ys.all (elemOk sz) = true) : (∀ y ∈ ys,y.cells.length = sz) ∧ ∀ y ∈ ys,y.cells.all AVal.isCell = true:=by
 refine ⟨fun y hy=>?_,fun y hy=>?_⟩ <;> have:=List.all_eq_true.1 h y hy <;> simp only [elemOk,Bool.and_eq_true,beq_iff_eq] at this
 ·exact this.1
 ·exact this.2
theorem src_sound (s : Sim E h w) {x : AVal} {vx : Value} {ys : List AVal} {sz : Nat} {tx : TypeId} (hx : Rep E w x vx) (he : elemsA h x = some ys) (hok : ys.all (elemOk sz) = true)
  (hk : (∃ e',P.underlying tx = some (.slice e')) ∨ P.underlying tx = some .string) : ∃ news,Src P sz tx vx ys.length news w ∧ FlatL E w sz ys news:=by
   obtain ⟨hs,hone⟩:=elemOk_all hok
   by_cases hstr : ∃ q,x = .str q
   ·obtain ⟨q,rfl⟩:=hstr
    obtain rfl:=hx.str
    simp only [elemsA] at he
    cases he
    have hlen : (q.data.toList.map fun b=>AVal.int .u8 b.toNat).length = q.size:=by simp
    by_cases hq : q.size = 0
    ·have hnil : (q.data.toList.map fun b=>AVal.int .u8 b.toNat) = []:=List.eq_nil_of_length_eq_zero (by rw [hlen]; exact hq)
     rw [hnil]
     refine ⟨[],⟨hk,fun w'=>?_,?_,?_,by simp,fun u hu=>by cases hu⟩,by simp,fun x hx=>(by cases hx),fun i x hx=>(by simp at hx)⟩
     ·simp [Builtin.lenOf,hq]
     ·simp [Builtin.firstCells]
     ·simp [Builtin.firstCells]
    ·have h1 : sz = 1:=by
      cases hl : q.data.toList with
      | nil=>exact absurd (by rw [← hlen,hl]; rfl) hq
      | cons b bs=>
       have:=hs (.int .u8 b.toNat) (by rw [hl]; simp)
       simpa [AVal.cells] using this.symm
     subst h1
     have hks : ∀ w' : World,Src P 1 tx (.string q) q.size (byteCells q) w:=fun _=>
      ⟨hk,fun _=>rfl,firstCells_string q w,firstCells_string q w.drew,by rw [byteCells_length,Nat.mul_one],fun u hu=>by
       obtain ⟨_,_,rfl⟩:=List.mem_map.1 hu
       rfl⟩
     refine ⟨byteCells q,by rw [hlen]; exact hks w,by rw [byteCells_length,hlen,Nat.mul_one],hs,fun i x hx j c hj=>?_⟩
     rw [List.getElem?_map] at hx
     cases hb : q.data.toList[i]? with
     | none=>simp [hb] at hx
     | some b=>
      simp [hb] at hx
      subst hx
      cases j with
      | zero=>
       simp [AVal.cells] at hj
       subst hj
       refine ⟨.int .u8 b.toNat,?_,.clo (.int _ _)⟩
       simp only [byteCells,Nat.mul_one,Nat.add_zero,List.getElem?_map,hb]
       rfl
      | succ j=>simp [AVal.cells] at hj
   ·obtain ⟨a,cap,rfl,hcap,b,o,sz',ha,hs',hcells⟩:=slice_cells s hx he (fun q hq=>hstr ⟨q,hq⟩)
    have hke : ∀ (a : Addr) (n c : Nat) (news : List Value),news.length = n * sz → (∀ j u,news[j]? = some u → w.cell? (a.add j) = some u) → (∀ u ∈ news,u.oneCell' = true) → Src P sz tx (.slice (some a) n c) n news w:=
     fun a n c news hl hn h1=>⟨hk,fun _=>rfl,run_firstCells_some w sz n a n c news hl hn,run_firstCells_some w.drew sz n a n c news hl (by simpa using hn),hl,h1⟩
    by_cases hne : ys = []
    ·subst hne
     refine ⟨[],?_,by simp,fun x hx=>(by cases hx),fun i x hx=>(by simp at hx)⟩
     cases a with
     | none=>exact ⟨hk,fun _=>rfl,run_firstCells_none w sz 0 0 cap,run_firstCells_none w.drew sz 0 0 cap,by simp,fun u hu=>by cases hu⟩
     | some a=>exact hke a 0 cap [] (by simp) (fun j u hj=>by simp at hj) (fun u hu=>by cases hu)
    ·obtain ⟨y0,yr,rfl⟩:=List.exists_cons_of_ne_nil hne
     have he' : sz' = sz:=by have h1:=hs y0 (by simp); have h2:=hs' y0 (by simp); omega
     subst he'
     obtain ⟨news,f1,f2,f3⟩:=row_cells hs hone hcells
     rw [ha hne]
     exact ⟨news,hke _ _ _ news f1.1 (fun j u hj=>by rw [Addr.add_mid]; exact f2 j u hj) f3,f1⟩
def Env.move (E : Env) (id new : Nat) (s : Slot) : Env:=⟨fun k=>if k = new then some s else if k = id then some .dead else E.m k,E.S⟩
theorem Sim.move (s : Sim E h w) (hf : Full E h) {id b0 b : Nat} {sl0 sl : Slot} {o : AObj} {w' : World} (hm : E.m id = some sl0) (hb0 : sl0.blk = some b0) (hid : id < h.length) (hsl : sl.blk = some b) (hb : b = b0 ∨ b = w.heap.size)
  (hmem : ∀ i,i < w.heap.size → i ≠ b0 → w'.heap[i]? = w.heap[i]?) (hsize : w.heap.size ≤ w'.heap.size) (hbl : b < w'.heap.size) (hos : w'.os = w.os) (ht : w'.tape = w.tape) (ho : w'.output = w.output)
  (hok : (∀ a v,Rep E w a v → Rep (E.move id h.length sl) w' a v) → ObjOk (E.move id h.length sl) w' o sl) :
  Sim (E.move id h.length sl) (h.set id .dead ++ [o]) w' ∧ Full (E.move id h.length sl) (h.set id .dead ++ [o]) ∧ Ext E h w (E.move id h.length sl) (h.set id .dead ++ [o]) w':=by
   have mnew : (E.move id h.length sl).m h.length = some sl:=by simp [Env.move]
   have mid : (E.move id h.length sl).m id = some .dead:=by simp only [Env.move]; rw [if_neg (show id ≠ h.length by omega)]; simp
   have mold : ∀ k,k ≠ h.length → k ≠ id → (E.move id h.length sl).m k = E.m k:=fun k h1 h2=>by simp only [Env.move]; rw [if_neg h1,if_neg h2]
   have im0 : E.im b0:=⟨id,sl0,hm,hb0⟩
   have imE : ∀ c,(E.move id h.length sl).im c → (c = b ∨ (E.im c ∧ c ≠ b0)):=by
    rintro c ⟨k,s',h1,h2⟩
    by_cases e1 : k = h.length
    ·subst e1; rw [mnew] at h1; cases h1; rw [hsl] at h2; cases h2; exact .inl rfl
    ·by_cases e2 : k = id
     ·subst e2; rw [mid] at h1; cases h1; cases h2
     ·rw [mold k e1 e2] at h1
      exact .inr ⟨⟨k,s',h1,h2⟩,fun e=>by subst e; exact e2 (s.inj k id _ _ _ h1 hm h2 hb0)⟩
   have hx : Ext E h w (E.move id h.length sl) (h.set id .dead ++ [o]) w':=by
    refine ⟨⟨fun _ h=>h,fun _ h=>.inl h,fun c hc hn=>hmem c hc fun e=>hn (by subst e; exact im0),fun k s' hs=>?_,fun c hc=>?_,by simp,hsize,hos,ht,ho⟩,fun k h1 h2=>by rw [mold k (by omega) (fun e=>by subst e; rw [hm] at h2; cases h2)]; exact h2⟩
    ·by_cases e1 : k = h.length
     ·subst e1; rw [hf _ (Nat.le_refl _)] at hs; cases hs
     ·by_cases e2 : k = id
      ·subst e2; exact .inr mid
      ·left; rw [mold k e1 e2]; exact hs
    ·rcases imE c hc with h1 | h1
     ·subst h1
      rcases hb with rfl | rfl
      ·exact .inl im0
      ·exact .inr (Nat.le_refl _)
     ·exact .inl h1.1
   have hr : ∀ a v,Rep E w a v → Rep (E.move id h.length sl) w' a v:=fun a v h=>h.ext hx s
   refine ⟨⟨?_,?_,?_,?_,?_⟩,?_,hx⟩
   ·intro k ob s' hk hs
    by_cases e1 : k = h.length
    ·subst e1
     rw [mnew] at hs
     cases hs
     rw [List.getElem?_append_right (by simp)] at hk
     simp at hk
     subst hk
     exact hok hr
    ·have hlt : k < h.length:=by
      have:=(List.getElem?_eq_some_iff.1 hk).1
      simp at this; omega
     rw [List.getElem?_append_left (by simpa using hlt),List.getElem?_set] at hk
     by_cases e2 : k = id
     ·subst e2
      simp [hid] at hk
      subst hk
      rw [mid] at hs
      cases hs
      trivial
     ·rw [if_neg (Ne.symm e2)] at hk
      rw [mold k e1 e2] at hs
      refine (s.obj k ob s' hk hs).mono hr fun c hc=>hmem c (s.lt c ⟨k,s',hs,hc⟩) fun e=>?_
      subst e
      exact e2 (s.inj k id _ _ _ hs hm hc hb0)
   ·have key : ∀ i si c,(E.move id h.length sl).m i = some si → si.blk = some c → (i = h.length ∧ c = b) ∨ (i ≠ h.length ∧ i ≠ id ∧ E.m i = some si ∧ c ≠ b0):=by
     intro i si c hi hbi
     by_cases e1 : i = h.length
     ·subst e1; rw [mnew] at hi; cases hi; rw [hsl] at hbi; cases hbi; exact .inl ⟨rfl,rfl⟩
     ·by_cases e2 : i = id
      ·subst e2; rw [mid] at hi; cases hi; cases hbi
      ·rw [mold i e1 e2] at hi
       exact .inr ⟨e1,e2,hi,fun e=>by subst e; exact e2 (s.inj i id _ _ _ hi hm hbi hb0)⟩
    have notb : ∀ i si c,E.m i = some si → si.blk = some c → c ≠ b0 → c ≠ b:=by
     intro i si c hi hbi hn e
     subst e
     rcases hb with h1 | h1
     ·exact hn h1
     ·have:=s.lt c ⟨i,si,hi,hbi⟩; omega
    intro i j si sj c hi hj hbi hbj
    rcases key i si c hi hbi with ⟨h1,h2⟩ | ⟨h1,h2,h3,h4⟩ <;> rcases key j sj c hj hbj with ⟨g1,g2⟩ | ⟨g1,g2,g3,g4⟩
    ·omega
    ·exact absurd h2 (notb j sj c g3 hbj g4)
    ·exact absurd g2 (notb i si c h3 hbi h4)
    ·exact s.inj i j si sj c h3 g3 hbi hbj
   ·intro c hc hS
    rcases imE c hc with h1 | h1
    ·subst h1
     rcases hb with rfl | rfl
     ·exact s.nS c im0 hS
     ·exact absurd (s.Slt _ hS) (Nat.lt_irrefl _)
    ·exact s.nS c h1.1 hS
   ·intro c hc
    rcases imE c hc with h1 | h1
    ·subst h1; exact hbl
    ·have:=s.lt c h1.1; omega
   ·intro c hc
    have:=s.Slt c hc; omega
   ·intro k hk
    simp at hk
    rw [mold k (by omega) (by omega)]
    exact hf k (by omega)
theorem Sim.of_heap {w' : World} (s : Sim E h w) (e : w'.heap = w.heap) : Sim E h w':=
 ⟨fun id o sl ho hm=>(s.obj id o sl ho hm).mono (fun a v hr=>hr.mono (fun _ h=>h) (fun b _=>by rw [e]) (fun _ _ h=>.inl h)) fun b _=>by rw [e],s.inj,s.nS,fun b hb=>by rw [e]; exact s.lt b hb,fun b hb=>by rw [e]; exact s.Slt b hb⟩
theorem Rep.of_heap {w' : World} (e : w'.heap = w.heap) {a : AVal} {v : Value} (h : Rep E w a v) : Rep E w' a v:=h.mono (fun _ h=>h) (fun b _=>by rw [e]) (fun _ _ h=>.inl h)
theorem grown_cells {z : Array Value} {sz need cap : Nat} (hz : z.size = sz) (hle : need ≤ cap) (cs : List Value) (hl : cs.length = need * sz) : (cs.toArray ++ Builtin.zeroCells z (cap - need)).size = cap * sz:=by
 simp only [Array.size_append,List.size_toArray,hl,Builtin.zeroCells,Array.size_map,Array.size_range,hz,← Nat.add_mul]
 congr 1
 omega
theorem Sim.cut (s : Sim E h w) {id sz : Nat} {es : List AVal} (n : Nat) (ho : h[id]? = some (.arr sz es)) : Sim E (h.set id (.arr sz (es.take n))) w where
 obj:=fun j o sl hj hm=>by
  by_cases e : id = j
  ·subst e
   rw [List.getElem?_set_self (List.getElem?_eq_some_iff.1 ho).1] at hj
   cases hj
   have:=s.obj id _ sl ho hm
   cases sl <;> simp only [ObjOk] at this ⊢
   obtain ⟨rfl,h1,h2,h3,h4⟩:=this
   exact ⟨rfl,h1,Nat.le_trans (Nat.mul_le_mul_right _ (by simp; omega)) h2,fun x hx=>h3 x (List.mem_of_mem_take hx),fun i x hx=>h4 i x (by
    rw [List.getElem?_take] at hx
    split at hx
    ·exact hx
    ·cases hx)⟩
  ·rw [List.getElem?_set_ne e] at hj
   exact s.obj j o sl hj hm
 inj:=s.inj
 nS:=s.nS
 lt:=s.lt
 Slt:=s.Slt
theorem append_sound (s : Sim E h w) (hf : Full E h) {t tx ty : TypeId} {a x r : AVal} {va vx : Value} {h' : Heap} (hh : appendA P t a x h = some (r,h')) (ha : Rep E w a va) (hx : Rep E w x vx)
  (hk : (∃ e',P.underlying tx = some (.slice e')) ∨ P.underlying tx = some .string) :
  ∃ u w' E',(Builtin.append_ #[t,tx] ty #[va,vx]).run P w = .ok u w' ∧ Sim E' h' w' ∧ Full E' h' ∧ Ext E h w E' h' w' ∧ Rep E' w' r u:=by
   unfold appendA at hh
   split at hh
   ·rename_i e sz ys hsel hys
    obtain ⟨i,hu,hi,hisz,hby,hsz,z,hz,hzs⟩:=selA_some hsel
    split at hh
    ·rename_i hall
     obtain ⟨news,hsrc,hflat⟩:=src_sound (tx:=tx) s hx hys hall hk
     have hsrc' : Src P i.size tx vx ys.length news w:=by rw [hisz]; exact hsrc
     have hfit : ∀ {old need : Nat},old < need → need ≤ sizeLim → Builtin.nextslicecap need old * i.bytes ≤ 281474976710656:=by
      intro old need h1 h2
      refine growslice_fits h1 ?_
      have:=Nat.mul_le_mul h2 hby
      unfold sizeLim at this
      omega
     have hlim : ∀ {need : Nat},need ≤ sizeLim → ((need : Nat) : Int) ≤ 9223372036854775807:=by
      intro need h1
      unfold sizeLim at h1
      omega
     split at hh
     ·-- onto nil
      cases ha with
      | clo ha=>
       cases ha with
       | nil ad=>
        split at hh
        ·rename_i he
         cases hh
         subst he
         have hnil : news = []:=List.eq_nil_of_length_eq_zero (by rw [hflat.1]; simp)
         subst hnil
         exact ⟨_,w,E,run_append_nothing w t tx ty e i hu hi ad 0 0 (Nat.le_refl _) vx hsrc',s,hf,Ext.refl _ _ _,.clo (.nil ad)⟩
        ·rename_i he
         split at hh
         ·rename_i hle
          cases hh
          have hpos : 0 < 0 + ys.length:=by
           have:=List.length_pos_iff.2 he
           omega
          have hold : (Builtin.firstCells i.size 0 (.slice ad 0 0)).run P w.drew = .ok ([] : List Value).toArray w.drew:=by
           cases ad with
           | none=>simp [Builtin.firstCells]
           | some ad=>exact run_firstCells_some w.drew i.size 0 ad 0 0 [] (by simp) (fun j u hj=>by simp at hj)
          have hrun:=run_append_grow_src (ty:=ty) w t tx e i z hu hi hz ad 0 0 [] hold vx ys.length news hsrc' hpos (hlim (by omega)) (hfit hpos (by omega))
          simp only [Nat.zero_add,List.nil_append] at hrun
          have hge:=grownCap_ge w ys.length 0 e
          have hcs:=grown_cells (z:=z.cells) hzs hge news hflat.1
          have s' : Sim E h w.drew:=s.of_heap rfl
          have s'' : Sim E (h ++ [.arr sz ys]) w.drew:=s'.more ⟨_,rfl⟩ hf
          obtain ⟨p1,p2⟩:=s''.place (id:=h.length) (o:=.arr sz ys) (.cells (news.toArray ++ Builtin.zeroCells z.cells (grownCap w ys.length 0 e - ys.length)) e) (.live w.heap.size (grownCap w ys.length 0 e * sz) sz)
           (by simp) (hf _ (Nat.le_refl _)) rfl
           ⟨rfl,by rw [← hcs]; exact row_new w.drew _ e,Nat.mul_le_mul_right _ hge,hflat.2.1,fun k y hy j c hj=>by
            obtain ⟨v,g1,g2⟩:=hflat.2.2 k y hy j c hj
            refine ⟨v,?_,(Rep.of_heap (w:=w) (w':=w.drew) rfl g2).put s' _ (hf _ (Nat.le_refl _)) _⟩
            have:=cell_new w.drew (news.toArray ++ Builtin.zeroCells z.cells (grownCap w ys.length 0 e - ys.length)) e (k * sz + j)
            refine Eq.trans this ?_
            rw [Array.getElem?_append_left (by simpa using (List.getElem?_eq_some_iff.1 g1).1)]
            simpa using g1⟩
          refine ⟨_,_,_,hrun,p1,fun k hk=>?_,?_,?_⟩
          ·simp [newA] at hk
           rw [Env.put_other E _ (by omega)]
           exact hf k (by omega)
          ·exact ⟨⟨p2.S,p2.SN,p2.mem,p2.m,p2.new,by simp [newA],p2.size,p2.os,p2.tape,p2.output⟩,fun k g1 g2=>by rw [Env.put_other _ _ (by omega)]; exact g2⟩
          ·refine .own _ 0 _ _ _ _ _ sz (Env.put_same E _ _) hge (.inr ⟨by simp,?_⟩)
           rw [Nat.zero_add]
           exact Nat.le_refl _
         ·cases hh
     ·rename_i id st len
      cases ho : h[id]? with
      | none=>simp [ho] at hh
      | some o=>
       have hidlt : id < h.length:=(List.getElem?_eq_some_iff.1 ho).1
       cases o <;> simp only [ho] at hh <;> try (cases hh; done)
       rename_i sz' es
       split at hh
       ·rename_i hc
        obtain ⟨rfl,hse,hlen⟩:=hc
        subst hse
        cases ha with
        | clo hc=>cases hc
        | ownD _ _ _ ad cap hm hcap=>
         have:=s.obj id _ _ ho hm
         simp [ObjOk] at this
        | own _ _ _ ad cap b csz bsz hm hcap hp=>
         have hko:=s.obj id _ _ ho hm
         simp only [ObjOk] at hko
         obtain ⟨rfl,hrow,hle,hs,hcells⟩:=hko
         split at hh
         ·rename_i he
          cases hh
          subst he
          have hnil : news = []:=List.eq_nil_of_length_eq_zero (by rw [hflat.1]; simp)
          subst hnil
          exact ⟨_,w,E,run_append_nothing w t tx ty e i hu hi ad len cap hcap vx hsrc',s.cut len ho,fun k hk=>hf k (by simpa using hk),⟨⟨fun _ h=>h,fun _ h=>.inl h,fun _ _ _=>rfl,fun _ _ h=>.inl h,fun _ h=>.inl h,by simp,Nat.le_refl _,rfl,rfl,rfl⟩,fun _ _ h=>h⟩,.own id 0 len ad cap b csz sz' hm hcap hp⟩
         ·rename_i he
          split at hh
          ·rename_i hlim'
           cases hh
           have hpos : 0 < ys.length:=List.length_pos_iff.2 he
           have hst : ∀ x ∈ es.take len,x.cells.length = sz':=fun x hx=>hs x (List.mem_of_mem_take hx)
           have hlt : (es.take len).length = len:=by simp; omega
           by_cases hroom : len + ys.length ≤ cap
           ·-- there is room
            rcases hp with ⟨h1,h2⟩ | ⟨rfl,hp⟩
            ·omega
            ·rw [Nat.zero_add] at hp
             rw [Nat.zero_mul] at *
             have hnl : news.length = ys.length * sz':=hflat.1
             have hin : ∀ j,j < news.length → len * sz' + j < csz:=by
              intro j hj
              have h3:=Nat.mul_le_mul_right sz' hroom
              rw [Nat.add_mul] at h3
              omega
             have hrun:=run_append_room_src (ty:=ty) w t tx e i hu hi b 0 len cap vx ys.length news hsrc' hroom (fun j hj=>by rw [hisz,Nat.zero_add]; exact hrow.isSome (hin j hj)) (fun j hj=>hrow.frozen _)
             rw [hisz,Nat.zero_add] at hrun
             obtain ⟨f1,f2,f3,f4,f5⟩:=setCells_facts b news (len * sz') w
             obtain ⟨p1,p2,p3⟩:=s.move hf (w':=w.setCells b (len * sz') news) (sl:=.live b csz sz') (o:=.arr sz' (es.take len ++ ys)) hm rfl hidlt rfl (.inl rfl) (fun i _ hi=>f5 i hi) (by omega) (by rw [f1]; exact hrow.lt) f2 f3 f4 fun hr=>by
              refine ⟨rfl,hrow.setCells b _ _ _,?_,fun x hx=>?_,fun k y hy j c hj=>?_⟩
              ·rw [List.length_append,hlt]
               exact Nat.le_trans (Nat.mul_le_mul_right _ hroom) hp
              ·rcases List.mem_append.1 hx with hx | hx
               ·exact hst x hx
               ·exact hflat.2.1 x hx
              ·by_cases hk : k < len
               ·rw [List.getElem?_append_left (by omega),List.getElem?_take,if_pos hk] at hy
                obtain ⟨v,g1,g2⟩:=hcells k y hy j c hj
                have hj' : j < sz':=by rw [← hs y (List.mem_of_getElem? hy)]; exact (List.getElem?_eq_some_iff.1 hj).1
                refine ⟨v,?_,hr _ _ g2⟩
                rw [World.cell?_setCells_out b _ _ _ _ (fun _ _=>.inl ?_),g1]
                show k * sz' + j < len * sz'
                have:=Nat.mul_le_mul_right sz' (show k + 1 ≤ len from hk)
                rw [Nat.succ_mul] at this
                omega
               ·rw [List.getElem?_append_right (by omega),hlt] at hy
                obtain ⟨v,g1,g2⟩:=hflat.2.2 _ y hy j c hj
                refine ⟨v,?_,hr _ _ g2⟩
                have hlt':=(List.getElem?_eq_some_iff.1 g1).1
                have:=World.cell?_setCells_in b news (len * sz') w (fun j hj=>hrow.isSome (hin j hj)) _ hlt'
                have e1 : len * sz' + ((k - len) * sz' + j) = k * sz' + j:=by
                 rw [Nat.sub_mul]
                 have:=Nat.mul_le_mul_right sz' (show len ≤ k by omega)
                 omega
                rw [e1] at this
                rw [this,← g1]
                simp [List.getElem?_eq_getElem hlt']
             refine ⟨_,_,E.move id h.length (.live b csz sz'),hrun,p1,p2,p3,?_⟩
             ·have hl2 : (es.take len ++ ys).length = len + ys.length:=by rw [List.length_append,hlt]
              have : Rep (E.move id h.length (.live b csz sz')) (w.setCells b (len * sz') news) (.own h.length 0 (len + ys.length)) (.slice (some ⟨b,0,none⟩) (len + ys.length) cap):=
               .own _ 0 _ _ _ b csz sz' (by simp [Env.move]) hroom (.inr ⟨by simp,by simpa using hp⟩)
              simpa [newA,hl2] using this
           ·-- there is none
            have hone : ∀ y ∈ es.take len,y.cells.all AVal.isCell = true → True:=fun _ _ _=>trivial
            have hold : ∃ olds : List Value,(Builtin.firstCells i.size len (.slice ad len cap)).run P w.drew = .ok olds.toArray w.drew ∧ FlatL E w sz' (es.take len) olds:=by
             rcases hp with ⟨h1,h2⟩ | ⟨rfl,hp⟩
             ·subst h1
              refine ⟨[],?_,by simp,fun x hx=>(by simp at hx),fun i x hx=>(by simp at hx)⟩
              cases ad with
              | none=>simp [Builtin.firstCells]
              | some ad=>exact run_firstCells_some w.drew i.size 0 ad 0 cap [] (by simp) (fun j u hj=>by simp at hj)
             ·let olds : List Value:=(List.range (len * sz')).map fun j=>(w.cell? ⟨b,j,none⟩).getD undef
              have hsome : ∀ k,k < len * sz' → ∃ v,w.cell? ⟨b,k,none⟩ = some v:=by
               intro k hk
               refine Option.isSome_iff_exists.1 (hrow.isSome ?_)
               have:=Nat.mul_le_mul_right sz' hlen
               omega
              have hget : ∀ k v,olds[k]? = some v → w.cell? ⟨b,k,none⟩ = some v:=by
               intro k v hk
               have hlt : k < len * sz':=by
                have:=(List.getElem?_eq_some_iff.1 hk).1
                simpa [olds] using this
               obtain ⟨u,hu⟩:=hsome k hlt
               simp [olds,hlt,hu] at hk
               rw [hu,hk]
              refine ⟨olds,run_firstCells_some w.drew i.size len _ len cap olds (by simp [olds,hisz]) (fun j u hj=>?_),by simp [olds,hlt],hst,fun k y hy j c hj=>?_⟩
              ·rw [Addr.add_mid]
               simpa using hget j u hj
              ·have hk : k < len:=by have:=(List.getElem?_eq_some_iff.1 hy).1; omega
               rw [List.getElem?_take,if_pos hk] at hy
               obtain ⟨v,g1,g2⟩:=hcells k y hy j c hj
               have hj' : j < sz':=by rw [← hs y (List.mem_of_getElem? hy)]; exact (List.getElem?_eq_some_iff.1 hj).1
               have hlt2 : k * sz' + j < len * sz':=by
                have:=Nat.mul_le_mul_right sz' (show k + 1 ≤ len from hk)
                rw [Nat.succ_mul] at this
                omega
               exact ⟨v,by simp [olds,hlt2,g1],g2⟩
            obtain ⟨olds,hfo,hfl⟩:=hold
            have hgrow : cap < len + ys.length:=by omega
            have hrun:=run_append_grow_src (ty:=ty) w t tx e i z hu hi hz ad len cap olds hfo vx ys.length news hsrc' hgrow (hlim hlim') (hfit hgrow hlim')
            have hge:=grownCap_ge w (len + ys.length) cap e
            have hfa:=hfl.append hflat
            have hl2 : (es.take len ++ ys).length = len + ys.length:=by rw [List.length_append,hlt]
            have hcl : (olds ++ news).length = (len + ys.length) * sz':=by rw [hfa.1,hl2]
            have hcs:=grown_cells (z:=z.cells) hzs hge (olds ++ news) hcl
            generalize hW : w.drew.alloc (.cells ((olds ++ news).toArray ++ Builtin.zeroCells z.cells (grownCap w (len + ys.length) cap e - (len + ys.length))) e) = W at hrun
            have hWo : ∀ j,j < w.heap.size → W.heap[j]? = w.heap[j]?:=fun j hj=>by rw [← hW]; exact heap_alloc_lt w.drew _ hj
            have hWs : W.heap.size = w.heap.size + 1:=by rw [← hW]; exact Array.size_push _
            obtain ⟨p1,p2,p3⟩:=s.move hf (w':=W) (sl:=.live w.heap.size (grownCap w (len + ys.length) cap e * sz') sz') (o:=.arr sz' (es.take len ++ ys)) hm rfl hidlt rfl (.inr rfl) (fun i hi _=>hWo i hi) (by omega) (by omega)
             (by rw [← hW]; rfl) (by rw [← hW]; rfl) (by rw [← hW]; rfl) fun hr=>by
              refine ⟨rfl,?_,by rw [hl2]; exact Nat.mul_le_mul_right _ hge,hfa.2.1,fun k y hy j c hj=>?_⟩
              ·rw [← hcs,← hW]; exact row_new w.drew _ e
              ·obtain ⟨v,g1,g2⟩:=hfa.2.2 k y hy j c hj
               refine ⟨v,?_,hr _ _ g2⟩
               have:=cell_new w.drew ((olds ++ news).toArray ++ Builtin.zeroCells z.cells (grownCap w (len + ys.length) cap e - (len + ys.length))) e (k * sz' + j)
               rw [hW] at this
               refine Eq.trans this ?_
               rw [Array.getElem?_append_left (by simpa using (List.getElem?_eq_some_iff.1 g1).1)]
               simpa using g1
            refine ⟨_,_,E.move id h.length (.live w.heap.size (grownCap w (len + ys.length) cap e * sz') sz'),hrun,p1,p2,p3,?_⟩
            ·have : Rep (E.move id h.length (.live w.heap.size (grownCap w (len + ys.length) cap e * sz') sz')) W (.own h.length 0 (len + ys.length)) (.slice (some ⟨w.heap.size,0,none⟩) (len + ys.length) (grownCap w (len + ys.length) cap e)):=
              .own _ 0 _ _ _ w.heap.size (grownCap w (len + ys.length) cap e * sz') sz' (by simp [Env.move]) hge (.inr ⟨by simp,by rw [Nat.zero_add]; exact Nat.le_refl _⟩)
             simpa [newA,hl2] using this
          ·cases hh
       ·cases hh
     ·cases hh
    ·cases hh
   ·cases hh
end
end Go.Am

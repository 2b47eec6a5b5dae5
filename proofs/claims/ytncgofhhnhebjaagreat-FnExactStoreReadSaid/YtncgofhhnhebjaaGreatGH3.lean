/- Each operation that leaves the memory alone does on values what Am says: slices, places, maps that are read; all such operations in one. -/
import Derived.Test.YtncgofhhnhebjaaGreatGH2
import Derived.Laws.Cover3
import Derived.MapKept
set_option linter.unusedVariables false
set_option linter.unusedSimpArgs false
/- Each operation that leaves the memory alone does on values what Am says: the rest of them, and all in one. -/
set_option maxHeartbeats 4000000
namespace Go.Am
open Go
section
variable {P : Program} {E : Env} {w : World}
def okv (P : Program) (E : Env) (w : World) (x : Sem Value) (r : AVal) : Prop:=∃ v,x.run P w = .ok v w ∧ Rep E w r v
theorem okv.int {x : Sem Value} {k : IntKind} {n : Int} (h : x.run P w = .ok (.int k n) w) : okv P E w x (.int k n):=⟨_,h,.clo (.int k n)⟩
theorem okv.bool {x : Sem Value} {b : Bool} (h : x.run P w = .ok (.bool b) w) : okv P E w x (.bool b):=⟨_,h,.clo (.bool b)⟩
theorem okv.str {x : Sem Value} {b : ByteArray} (h : x.run P w = .ok (.string b) w) : okv P E w x (.str b):=⟨_,h,.clo (.str b)⟩
theorem strA_sound {op : BinOp} {a b : ByteArray} {r : AVal} (h : strA op a b = some r) (t : TypeId) : okv P E w (binOp op t (.string a) (.string b)) r:=by
 cases op <;> simp only [strA] at h <;> try (cases h; done)
 case add=>
  split at h <;> cases h
  rename_i hl
  refine okv.str ?_
  have hn : ¬ ((a.size + b.size : Nat) : Int) > IntKind.i64.max:=by
   rw [IntKind.max_i64]
   unfold sizeLim at hl
   omega
  simp only [binOp,Op.stringOp,if_neg hn]
  rfl
 case eql=>cases h; exact okv.bool (by simp only [binOp,Op.stringOp]; rfl)
 case neq=>cases h; exact okv.bool (by simp only [binOp,Op.stringOp]; rfl)
 case lss=>cases h; exact okv.bool (by simp only [binOp,Op.stringOp]; rfl)
theorem Rep.nili' {v : Value} (h : Rep E w .nili v) : v = .nilIface:=by cases h with | clo h=>cases h; rfl
theorem Rep.nilp' {v : Value} (h : Rep E w .nilp v) : v = .pointer none:=by cases h with | clo h=>cases h; rfl
theorem Rep.iface' {t : TypeId} {a : AVal} {v : Value} (h : Rep E w (.iface t a) v) : ∃ u,v = .iface t u ∧ Rep E w a u:=by
 cases h with
 | clo h=>cases h with | iface _ _ u hr=>exact ⟨u,rfl,.clo hr⟩
 | iface _ _ u hr=>exact ⟨u,rfl,hr⟩
theorem Rep.somePtr {a : AVal} {v : Value} (h : Rep E w a v) (hp : (∃ id i off,a = .ptr id i off) ∨ ∃ xs i off,a = .iptr xs i off) : ∃ ad,v = .pointer (some ad):=by
 rcases hp with ⟨id,i,off,rfl⟩ | ⟨xs,i,off,rfl⟩
 ·cases h with
  | clo h=>cases h
  | ptr=>exact ⟨_,rfl⟩
  | ptrD=>exact ⟨_,rfl⟩
 ·cases h with
  | clo h=>cases h; exact ⟨_,rfl⟩
theorem eqA_sound {t : TypeId} {a b : AVal} {va vb : Value} {r : Bool} (h : eqA P t a b = some r) (ha : Rep E w a va) (hb : Rep E w b vb) (xo yo : Operand) :
  (∀ op,(eqGuard op t xo yo va vb).run P w = .ok () w) ∧ (binOp .eql t va vb).run P w = .ok (.bool r) w ∧ (binOp .neq t va vb).run P w = .ok (.bool (!r)) w:=by
   have hold : ∀ ms,P.underlying t = some (.interface ms) → P.underlying t = some (.interface (P.methodsAt t)):=fun ms h=>by simp [Program.methodsAt,h]
   have hptr : ∀ e,P.underlying t = some (.pointer e) → P.underlying t = some (.pointer (P.pointee t)):=fun e h=>by simp [Program.pointee,h]
   unfold eqA at h
   split at h
   ·rename_i x y
    rw [ha.bool,hb.bool]
    split at h
    ·rename_i hu
     cases h
     exact ⟨fun op=>by rw [eqGuard_at_bool]; rfl,run_eql_bool w t x y hu,run_neq_bool w t x y hu⟩
    ·cases h
   ·rename_i u x
    obtain ⟨vx,rfl,_⟩:=ha.iface'
    rw [hb.nili']
    split at h
    ·rename_i ms hu
     cases h
     exact ⟨fun op=>by cases op <;> rfl,run_eql_held_nil w t u vx (hold ms hu),run_neq_held_nil w t u vx (hold ms hu)⟩
    ·cases h
   ·rename_i id i off
    obtain ⟨ad,rfl⟩:=ha.somePtr (.inl ⟨_,_,_,rfl⟩)
    rw [hb.nilp']
    split at h
    ·rename_i e hu
     cases h
     exact ⟨fun op=>by rw [eqGuard_at_pointer]; rfl,run_eql_pointer_nil w t _ (hptr e hu),run_neq_pointer_nil w t _ (hptr e hu)⟩
    ·cases h
   ·rename_i xs i off
    obtain ⟨ad,rfl⟩:=ha.somePtr (.inr ⟨_,_,_,rfl⟩)
    rw [hb.nilp']
    split at h
    ·rename_i e hu
     cases h
     exact ⟨fun op=>by rw [eqGuard_at_pointer]; rfl,run_eql_pointer_nil w t _ (hptr e hu),run_neq_pointer_nil w t _ (hptr e hu)⟩
    ·cases h
   ·rw [ha.nilp',hb.nilp']
    split at h
    ·rename_i e hu
     cases h
     exact ⟨fun op=>by rw [eqGuard_at_pointer]; rfl,run_eql_pointer_nil w t _ (hptr e hu),run_neq_pointer_nil w t _ (hptr e hu)⟩
    ·cases h
   ·rename_i xs ys
    split at h
    ·rename_i fs ks hu hk
     obtain ⟨vx,rfl,hx⟩:=ha.agg'
     obtain ⟨vy,rfl,hy⟩:=hb.agg'
     unfold eqTy at hk
     split at hk
     ·cases hk
     ·rename_i hgt
      have he : (Op.equalIn 10000 t (.agg vx) (.agg vy)).run P w = .ok r w:=
       flat_equal 6 t ks hk 10000 (by omega) _ _ xs ys r h (fun _ _ _=>⟨⟨vx,rfl,hx⟩,vy,rfl,hy⟩) (fun ds hds hf=>by rw [hu] at hds; cases hds; cases hf)
      exact ⟨fun op=>run_eqGuard_agg w op t xo yo vx vy (by simpa using hgt),by rw [run_eql_struct,he]; rfl,by rw [run_neq_struct,he]; rfl⟩
    ·cases h
   ·cases h
theorem run_eql_nilS (t e : TypeId) (a : Option Addr) (l c : Nat) (h : P.underlying t = some (.slice e)) : (binOp .eql t (.slice a l c) (.slice none 0 0)).run P w = .ok (.bool a.isNone) w:=by
 simp only [binOp]
 simp [run_equal_slice_nil w t e a l c h]
theorem nilLit_eq {y : Operand} (h : nilLit y = true) : y = .const (.slice none 0 0):=by
 unfold nilLit at h
 split at h
 ·rfl
 ·cases h
theorem nilNil_sound {t : TypeId} {a b : AVal} {va vb : Value} {r : Bool} {xo yo : Operand} (h : nilNil P t xo yo a b = some r) (ha : Rep E w a va) (hb : Rep E w b vb) (hy : ∀ c,yo = .const c → vb = c) :
  (∀ op,(eqGuard op t xo yo va vb).run P w = .ok () w) ∧ (binOp .eql t va vb).run P w = .ok (.bool r) w ∧ (binOp .neq t va vb).run P w = .ok (.bool (!r)) w:=by
   unfold nilNil at h
   split at h
   ·rw [ha.nili',hb.nili']
    split at h
    ·rename_i ms hu
     have hold : P.underlying t = some (.interface (P.methodsAt t)):=by simp [Program.methodsAt,hu]
     split at h
     ·rename_i hc
      cases h
      refine ⟨fun op=>?_,run_eql_nil_nil w t hold,by simpa using run_neq_nil_nil w t hold⟩
      cases xo <;> cases yo <;> simp [isConstO] at hc <;> cases op <;> simp [eqGuard]
     ·cases h
    ·cases h
   ·rename_i x xs _
    split at h
    ·rename_i e hu
     split at h
     ·rename_i hn
      cases h
      rw [hy _ (nilLit_eq hn)]
      cases ha with
      | clo h=>
       cases h with
       | sl _ ad cap s b o vs h1 h2 h3 h4 h5=>
        rw [h1 (by simp)]
        exact ⟨fun op=>by cases op <;> rfl,run_eql_nilS t e _ _ _ hu,run_neq_slice_nil w t e _ _ _ hu⟩
     ·cases h
    ·cases h
   ·cases h
theorem binA_sound {op : BinOp} {t : TypeId} {xo yo : Operand} {a b r : AVal} {va vb : Value} (h : binA P op t xo yo a b = some r) (ha : Rep E w a va) (hb : Rep E w b vb) (hy : ∀ c,yo = .const c → vb = c) :
  okv P E w (do eqGuard op t xo yo va vb; binOp op t va vb) r:=by
   have fin : ∀ {r},(eqGuard op t xo yo va vb).run P w = .ok () w → okv P E w (binOp op t va vb) r → okv P E w (do eqGuard op t xo yo va vb; binOp op t va vb) r:=by
    intro r hg ⟨v,hv,hr⟩
    exact ⟨v,by rw [Sem.run_bind,hg]; exact hv,hr⟩
   unfold binA at h
   split at h
   ·rename_i k x k' y
    obtain rfl:=ha.int
    obtain rfl:=hb.int
    split at h
    ·rename_i hk
     subst hk
     exact fin (by rw [eqGuard_at_int]; rfl) (intA_sound h t)
    ·cases h
   ·rename_i x y
    obtain rfl:=ha.str
    obtain rfl:=hb.str
    exact fin (by rw [eqGuard_at_string]; rfl) (strA_sound h t)
   ·rename_i a b _ _
    split at h
    ·split at h
     ·rename_i q hq
      cases h
      obtain ⟨h1,h2,h3⟩:=nilNil_sound hq ha hb hy
      exact fin (h1 _) (okv.bool h2)
     ·simp only [Option.map_eq_some_iff] at h
      obtain ⟨q,hq,rfl⟩:=h
      obtain ⟨h1,h2,h3⟩:=eqA_sound hq ha hb xo yo
      exact fin (h1 _) (okv.bool h2)
    ·split at h
     ·rename_i q hq
      cases h
      obtain ⟨h1,h2,h3⟩:=nilNil_sound hq ha hb hy
      exact fin (h1 _) (okv.bool h3)
     ·simp only [Option.map_eq_some_iff] at h
      obtain ⟨q,hq,rfl⟩:=h
      obtain ⟨h1,h2,h3⟩:=eqA_sound hq ha hb xo yo
      exact fin (h1 _) (okv.bool h3)
    ·cases h
theorem unA_sound {op : UnOp} {a r : AVal} {va : Value} (h : unA op a = some r) (ha : Rep E w a va) : okv P E w (Op.unary op va) r:=by
 unfold unA at h
 split at h
 ·cases h; rw [ha.int]; exact okv.int rfl
 ·cases h; rw [ha.bool]; exact okv.bool rfl
 ·cases h
theorem bytes_run {f : Value → ByteArray → Sem (ForInStep ByteArray)} (hf : ∀ n r,(f (.int .u8 n) r).run P w = .ok (.yield (r.push (UInt8.ofNat n.toNat))) w) : ∀ (xs : List AVal) (cs : List Value) (l : List UInt8) (acc : ByteArray),bytesOf xs = some l → xs.length = cs.length →
  (∀ (i : Nat) (c : AVal) (v : Value),xs[i]? = some c → cs[i]? = some v → Rep E w c v) → (forIn cs acc f).run P w = .ok ⟨acc.data ++ l.toArray⟩ w:=by
   intro xs
   induction xs with
   | nil=>
    intro cs l acc h hl hr
    simp only [bytesOf] at h
    cases h
    cases cs with
    | nil=>simp
    | cons c cs=>simp at hl
   | cons x xs ih=>
    intro cs l acc h hl hr
    cases cs with
    | nil=>simp at hl
    | cons c cs=>
     cases x <;> try (simp [bytesOf] at h; done)
     rename_i k n
     cases k <;> try (simp [bytesOf] at h; done)
     simp only [bytesOf,Option.map_eq_some_iff] at h
     obtain ⟨l',hl',rfl⟩:=h
     have hc : c = .int .u8 n:=(hr 0 _ c rfl rfl).int
     subst hc
     rw [List.forIn_cons,Sem.run_bind,hf]
     simp only [Result.andThen_ok]
     have:=ih cs l' (acc.push (UInt8.ofNat n.toNat)) hl' (by simpa using hl) (fun i c v hc hv=>hr (i + 1) c v (by simpa using hc) (by simpa using hv))
     rw [this]
     congr 2
     show (acc.data.push _ ++ l'.toArray) = _
     apply Array.ext'
     simp
theorem slice_cells {h : Heap} (s : Sim E h w) {x : AVal} {v : Value} {ys : List AVal} (hx : Rep E w x v) (he : elemsA h x = some ys) (hstr : ∀ q,x ≠ .str q) :
  ∃ a cap,v = .slice a ys.length cap ∧ ys.length ≤ cap ∧ ∃ b o sz,(ys ≠ [] → a = some ⟨b,o,none⟩) ∧ (∀ y ∈ ys,y.cells.length = sz) ∧ ∀ i y,ys[i]? = some y → CellsAt E w b (o + i * sz) y:=by
   unfold elemsA at he
   split at he
   ·cases he
    cases hx with
    | clo hc=>cases hc with | nil a=>exact ⟨a,0,rfl,Nat.le_refl _,0,0,0,fun h=>absurd rfl h,fun y hy=>by simp at hy,fun i y hy=>by simp at hy⟩
   ·cases he
    cases hx with
    | clo hc=>
     cases hc with
     | sl _ a cap sz b o vs ha hcap hs hc hr=>
      refine ⟨a,cap,rfl,hcap,b,o,sz,ha,hs,fun i y hy j c hj=>?_⟩
      obtain ⟨h1,h2⟩:=hc i j y c hy hj
      exact ⟨_,by rw [Nat.add_assoc]; exact h2,.clo (hr i j y c hy hj)⟩
   ·rename_i id st len
    split at he
    ·rename_i sz es ho
     split at he
     ·rename_i hle
      cases he
      have hlen : ((es.drop st).take len).length = len:=by simp; omega
      cases hx with
      | clo hc=>cases hc
      | ownD _ _ _ a cap hm hcap=>
       have:=s.obj id _ _ ho hm
       simp [ObjOk] at this
      | own _ _ _ a cap b csz sz' hm hcap hh=>
       have hk:=s.obj id _ _ ho hm
       simp only [ObjOk] at hk
       obtain ⟨rfl,hrow,hle2,hs,hcells⟩:=hk
       refine ⟨a,cap,by rw [hlen],by rw [hlen]; exact hcap,b,st * sz,sz,fun hne=>?_,fun y hy=>hs y (List.mem_of_mem_drop (List.mem_of_mem_take hy)),fun i y hy=>?_⟩
       ·rcases hh with ⟨h0,_⟩ | ⟨h1,_⟩
        ·exact absurd (by simp [h0]) hne
        ·exact h1
       ·have hi : i < len:=by
         have:=(List.getElem?_eq_some_iff.1 hy).1
         rw [hlen] at this
         exact this
        rw [List.getElem?_take,if_pos hi,List.getElem?_drop] at hy
        have:=hcells _ y hy
        rw [Nat.add_mul] at this
        exact this
     ·cases he
    ·cases he
   ·rename_i q
    exact absurd rfl (hstr q)
   ·cases he
theorem bytesOf_one : ∀ (zs : List AVal) (l : List UInt8),bytesOf zs = some l → ∀ (i : Nat) (y : AVal),zs[i]? = some y → y.cells = [y]:=by
 intro zs
 induction zs with
 | nil=>intro l _ i y hy; simp at hy
 | cons z zs ih=>
  intro l hl i y hy
  cases z <;> try (simp [bytesOf] at hl; done)
  rename_i k n
  cases k <;> try (simp [bytesOf] at hl; done)
  simp only [bytesOf,Option.map_eq_some_iff] at hl
  obtain ⟨l',hl',_⟩:=hl
  cases i with
  | zero=>simp at hy; subst hy; rfl
  | succ i=>exact ih l' hl' i y (by simpa using hy)
theorem one_cells {xs : List AVal} {b o : Nat} (hone : ∀ (i : Nat) (y : AVal),xs[i]? = some y → y.cells = [y]) (hc : ∀ (i : Nat) (y : AVal),xs[i]? = some y → CellsAt E w b (o + i * 1) y) :
  ∃ vs : List Value,vs.length = xs.length ∧ (loadCells ⟨b,o,none⟩ xs.length).run P w = .ok vs.toArray w ∧ ∀ (i : Nat) (c : AVal) (v : Value),xs[i]? = some c → vs[i]? = some v → Rep E w c v:=by
   let vs : List Value:=(List.range xs.length).map fun j=>(w.cell? ⟨b,o + j,none⟩).getD undef
   have hv : ∀ j,j < xs.length → ∃ y v,xs[j]? = some y ∧ w.cell? ⟨b,o + j,none⟩ = some v ∧ Rep E w y v:=by
    intro j hj
    obtain ⟨y,hy⟩:=getElem?_some_of_lt hj
    obtain ⟨v,h1,h2⟩:=hc j y hy 0 y (by rw [hone j y hy]; rfl)
    exact ⟨y,v,hy,by simpa using h1,h2⟩
   have hlen : vs.length = xs.length:=by simp [vs]
   refine ⟨vs,hlen,?_,fun i c v hc' hv'=>?_⟩
   ·rw [← hlen]
    refine run_loadCells_list (P:=P) w ⟨b,o,none⟩ vs fun j v hv'=>?_
    have hj : j < xs.length:=by
     have:=(List.getElem?_eq_some_iff.1 hv').1
     simpa [vs] using this
    obtain ⟨y,u,hy,hu',_⟩:=hv j hj
    rw [Addr.add_mid,hu']
    simp [vs,hj,hu'] at hv'
    rw [hv']
   ·have hj : i < xs.length:=(List.getElem?_eq_some_iff.1 hc').1
    obtain ⟨y,u,hy,hu',hr⟩:=hv i hj
    rw [hc'] at hy
    cases hy
    simp [vs,hj,hu'] at hv'
    rw [← hv']
    exact hr
theorem convB_sound {h : Heap} (s : Sim E h w) {a r : AVal} {va : Value} (hh : convB a h = some r) (ha : Rep E w a va) : okv P E w (Conv.bytesToString va) r:=by
 have hns : ∀ q,a ≠ .str q:=by rintro q rfl; simp [convB] at hh
 have hh' : (elemsA h a).bind (fun xs=>(bytesOf xs).map fun l=>AVal.str ⟨l.toArray⟩) = some r:=by
  cases a <;> first | exact hh | (exact absurd rfl (hns _))
 simp only [Option.bind_eq_some_iff,Option.map_eq_some_iff] at hh'
 obtain ⟨xs,he,l,hl,rfl⟩:=hh'
 obtain ⟨ad,cap,rfl,hcap,b,o,sz,hadr,hsz,hcells⟩:=slice_cells s ha he hns
 have hone:=bytesOf_one xs l hl
 refine okv.str ?_
 by_cases hne : xs = []
 ·subst hne
  simp [bytesOf] at hl
  subst hl
  cases ad with
  | none=>simp [Conv.bytesToString]; rfl
  | some ad=>simp [Conv.bytesToString,loadCells,loadCellsFrom]; rfl
 ·have hsz1 : sz = 1:=by
   obtain ⟨x0,xr,rfl⟩:=List.exists_cons_of_ne_nil hne
   have:=hsz x0 (by simp)
   rw [hone 0 x0 rfl] at this
   simpa using this.symm
  subst hsz1
  rw [hadr hne]
  obtain ⟨vs,hlen,hld,hr⟩:=one_cells (P:=P) hone hcells
  simp only [Conv.bytesToString,Sem.run_bind,hld,Result.andThen_ok]
  rw [← Array.forIn_toList]
  rw [bytes_run (P:=P) (E:=E) (w:=w) (fun n r=>by rfl) xs vs l _ hl hlen.symm hr]
  simp only [Result.andThen_ok,Sem.run_pure]
  congr 2
  simp [ByteArray.empty,ByteArray.emptyWithCapacity]
  try rfl
theorem convA_sound {h : Heap} (s : Sim E h w) {src dst : TypeId} {a r : AVal} {va : Value} (hh : convA P src dst a h = some r) (ha : Rep E w a va) : okv P E w (convert src dst va) r:=by
 unfold convA at hh
 split at hh
 ·rename_i k k' hs hd
  split at hh
  ·rename_i q n
   cases hh
   rw [ha.int]
   exact okv.int (by simp [convert,run_underlying hs,run_underlying hd,Conv.intToInt])
  ·cases hh
 ·rename_i hs hd
  split at hh
  ·rename_i q
   cases hh
   rw [ha.str]
   exact okv.str (by simp [convert,run_underlying hs,run_underlying hd])
  ·cases hh
 ·rename_i e hs hd
  split at hh
  ·rename_i hu
   obtain ⟨v,hv,hr⟩:=convB_sound (P:=P) s hh ha
   refine ⟨v,?_,hr⟩
   have hnp : ∃ ad n cap,va = .slice ad n cap:=by
    have hns : ∀ q,a ≠ .str q:=by rintro q rfl; simp [convB] at hh
    have hh' : ∃ xs,elemsA h a = some xs:=by
     cases a <;> first | (simp only [convB,Option.bind_eq_some_iff] at hh; obtain ⟨xs,hx,_⟩:=hh; exact ⟨xs,hx⟩) | (exact absurd rfl (hns _))
    obtain ⟨xs,he⟩:=hh'
    obtain ⟨ad,cap,hva,_⟩:=slice_cells s ha he hns
    exact ⟨_,_,_,hva⟩
   obtain ⟨ad,n,cap,rfl⟩:=hnp
   simp only [convert,Sem.run_bind,run_underlying hs,run_underlying hd,run_underlying hu,Result.andThen_ok]
   exact hv
  ·cases hh
 ·cases hh
end
end Go.Am
/- Each operation that leaves the memory alone does on values what Am says: slices, places, maps that are read; all such operations in one. -/
set_option maxHeartbeats 4000000
namespace Go.Am
open Go MapKept
section
variable {P : Program} {E : Env} {w : World}
theorem Rep.map' {id : Nat} {v : Value} (h : Rep E w (.map id) v) : ∃ b,v = .map (some b) ∧ (E.m id = some (.mapS b) ∨ E.m id = some .dead):=by
 cases h with
 | clo h=>cases h
 | map _ b hm=>exact ⟨b,rfl,.inl hm⟩
 | mapD _ b hm=>exact ⟨b,rfl,.inr hm⟩
theorem Rep.nilm' {v : Value} (h : Rep E w .nilm v) : v = .map none:=by cases h with | clo h=>cases h; rfl
theorem selA_some {t e : TypeId} {sz : Nat} (h : selA P t = some (e,sz)) : ∃ i,P.underlying t = some (.slice e) ∧ P.info? e = some i ∧ i.size = sz ∧ i.bytes ≤ 4096 ∧ sz ≤ 4096 ∧ ∃ z,i.zero = some z ∧ z.cells.size = sz:=by
 unfold selA at h
 split at h
 ·rename_i e' hu
  split at h
  ·rename_i i hi
   split at h
   ·rename_i hc
    cases h
    obtain ⟨h1,h2,h3⟩:=hc
    simp only [Option.map_eq_some_iff] at h3
    exact ⟨i,hu,hi,rfl,h1,h2,h3⟩
   ·cases h
  ·cases h
 ·cases h
theorem arrA_some {t e : TypeId} {n sz : Nat} (h : arrA P t = some (n,e,sz)) : ∃ i,P.underlying t = some (.array n e) ∧ P.info? e = some i ∧ i.size = sz:=by
 unfold arrA at h
 split at h
 ·rename_i n' e' hu
  split at h
  ·rename_i i hi
   cases h
   exact ⟨i,hu,hi,rfl⟩
  ·cases h
 ·cases h
theorem run_sizeOf' {e : TypeId} {i : TypeInfo} (hi : P.info? e = some i) (w : World) : (sizeOf e).run P w = .ok i.size w:=by simp [sizeOf,typeInfo,hi]
theorem run_bounds (b : Bool) (len cap : Nat) (lo hi : Option Int) (lov hiv : Option Value) (hl : ∀ i,lo = some i → ∃ k,lov = some (.int k i)) (hln : lo = none → lov = none)
  (hh : ∀ i,hi = some i → ∃ k,hiv = some (.int k i)) (hhn : hi = none → hiv = none) (h0 : 0 ≤ lo.getD 0) (h1 : lo.getD 0 ≤ hi.getD len) (h2 : hi.getD len ≤ cap) :
  (Instr.sliceBounds b len cap lov hiv none).run P w = .ok ((lo.getD 0).toNat,(hi.getD len).toNat,cap) w:=by
   have e1 : ((if b = true then BoundsCode.sliceAcap else .sliceAlen) : BoundsCode) = if b = true then BoundsCode.sliceAcap else .sliceAlen:=rfl
   cases hi with
   | none=>
    have:=hhn rfl
    subst this
    cases lo with
    | none=>
     have:=hln rfl
     subst this
     simp [Instr.sliceBounds]
    | some l=>
     obtain ⟨k,rfl⟩:=hl l rfl
     simp at h0 h1
     simp [Instr.sliceBounds,run_sliceBound w k l len _ h0 h1]
   | some u=>
    obtain ⟨k',rfl⟩:=hh u rfl
    simp at h1 h2
    cases lo with
    | none=>
     have:=hln rfl
     subst this
     simp at h1
     simp [Instr.sliceBounds,run_sliceBound w k' u cap _ h1 h2]
    | some l=>
     obtain ⟨k,rfl⟩:=hl l rfl
     simp at h0 h1
     have hu : l ≤ (u.toNat : Int):=by omega
     simp [Instr.sliceBounds,run_sliceBound w k' u cap _ (by omega) h2,run_sliceBound w k l u.toNat _ h0 hu]
theorem run_sliceAt_of {t e : TypeId} {i : TypeInfo} (ht : P.underlying t = some (.slice e)) (hi : P.info? e = some i) {a : Option Addr} {len cap l u : Nat} {lov hiv : Option Value}
  (hb : (Instr.sliceBounds true len cap lov hiv none).run P w = .ok (l,u,cap) w) :
  (Instr.sliceAt t (.slice a len cap) lov hiv none).run P w = .ok (.slice (if cap = l then a else a.map (·.add (l * i.size))) (u - l) (cap - l)) w:=by
   unfold Instr.sliceAt
   rw [Sem.run_bind,run_underlying ht,Result.andThen_ok]
   simp only [Instr.slice,Sem.run_bind,run_underlying ht,Result.andThen_ok,hb,run_sizeOf' hi,Sem.run_pure]
theorem sl_sub {xs : List AVal} {a : Option Addr} {cap sz l u : Nat} (h : RepC E.S w (.sl xs) (.slice a xs.length cap)) (hlu : l ≤ u) (hu : u ≤ xs.length) (hsz : xs.all (fun y=>y.cells.length == sz) = true) :
  RepC E.S w (.sl ((xs.drop l).take (u - l))) (.slice (if cap = l then a else a.map (·.add (l * sz))) (u - l) (cap - l)):=by
   cases h with
   | sl _ _ _ s b o vs ha hcap hs hc hr=>
    have hlen : ((xs.drop l).take (u - l)).length = u - l:=by simp; omega
    by_cases he : u - l = 0
    ·have h0 : (xs.drop l).take (u - l) = []:=List.eq_nil_of_length_eq_zero (by omega)
     rw [h0]
     have:=RepC.sl (S:=E.S) (w:=w) [] (if cap = l then a else a.map (·.add (l * sz))) (cap - l) 0 0 0 (fun _ _=>undef) (fun h=>absurd rfl h) (Nat.zero_le _) (fun x hx=>by simp at hx) (fun i j x c hx=>by simp at hx) (fun i j x c hx=>by simp at hx)
     rw [he]
     exact this
    ·have hxl : l < xs.length:=by omega
     obtain ⟨x0,hx0⟩:=getElem?_some_of_lt hxl
     have hm0 : x0 ∈ xs:=List.mem_of_getElem? hx0
     have hs0 : s = sz:=by
      have h1:=hs x0 hm0
      have h2:=List.all_eq_true.1 hsz x0 hm0
      simp at h2
      omega
     subst hs0
     have hne : xs ≠ []:=List.ne_nil_of_mem hm0
     have hne' : cap ≠ l:=by omega
     rw [if_neg hne',ha hne]
     have key:=RepC.sl (S:=E.S) (w:=w) ((xs.drop l).take (u - l)) (some ⟨b,o + l * s,none⟩) (cap - l) s b (o + l * s) (fun i j=>vs (l + i) j) (fun _=>rfl) (by omega)
      (fun x hx=>hs x (List.mem_of_mem_drop (List.mem_of_mem_take hx)))
      (fun i j x c hx hcc=>by
       have hi : i < u - l:=by have:=(List.getElem?_eq_some_iff.1 hx).1; omega
       rw [List.getElem?_take,if_pos hi,List.getElem?_drop] at hx
       obtain ⟨h1,h2⟩:=hc _ j x c hx hcc
       refine ⟨h1,?_⟩
       rw [← h2,Nat.add_mul,Nat.add_assoc,Nat.add_assoc])
      (fun i j x c hx hcc=>by
       have hi : i < u - l:=by have:=(List.getElem?_eq_some_iff.1 hx).1; omega
       rw [List.getElem?_take,if_pos hi,List.getElem?_drop] at hx
       exact hr _ j x c hx hcc)
     rw [hlen] at key
     rw [Option.map_some,Addr.add_mid]
     exact key
theorem slice_sound {h : Heap} (s : Sim E h w) {t : TypeId} {x r : AVal} {vx : Value} {lo hi : Option Int} {lov hiv : Option Value} (hh : sliceA P t x lo hi none h = some r) (hx : Rep E w x vx)
  (hl : ∀ i,lo = some i → ∃ k,lov = some (.int k i)) (hln : lo = none → lov = none) (hhi : ∀ i,hi = some i → ∃ k,hiv = some (.int k i)) (hhn : hi = none → hiv = none) :
  okv P E w (Instr.sliceAt t vx lov hiv none) r:=by
   unfold sliceA at hh
   split at hh
   ·rename_i q _
    split at hh
    ·rename_i hu
     dsimp only at hh
     split at hh
     ·rename_i hc
      cases hh
      obtain rfl:=hx.str
      obtain ⟨h0,h1,h2⟩:=hc
      refine okv.str ?_
      unfold Instr.sliceAt
      rw [Sem.run_bind,run_underlying hu,Result.andThen_ok]
      have hb:=run_bounds (P:=P) (w:=w) false q.size q.size lo hi lov hiv hl hln hhi hhn h0 h1 h2
      simp only [Instr.slice,Sem.run_bind,run_underlying hu,Result.andThen_ok]
      simp [hb]
     ·cases hh
    ·cases hh
   ·rename_i xs _
    split at hh
    ·rename_i e sz hsel
     obtain ⟨i,hu,hi',rfl,_,_⟩:=selA_some hsel
     dsimp only at hh
     split at hh
     ·rename_i hc
      cases hh
      obtain ⟨h0,h1,h2,h3⟩:=hc
      cases hx with
      | clo hc=>
       cases hc with
       | sl _ a cap s b o vs ha hcap hs hc hr=>
        have hb:=run_bounds (P:=P) (w:=w) true xs.length cap lo hi lov hiv hl hln hhi hhn h0 h1 (by omega)
        refine ⟨_,run_sliceAt_of hu hi' hb,.clo (sl_sub (sz:=i.size) (.sl xs a cap s b o vs ha hcap hs hc hr) (by omega) (by omega) (by simpa using h3))⟩
     ·cases hh
    ·cases hh
   ·rename_i id st len _
    split at hh
    ·rename_i e sz sz' es hsel ho
     obtain ⟨i,hu,hi',rfl,_,_⟩:=selA_some hsel
     dsimp only at hh
     split at hh
     ·rename_i hc
      cases hh
      obtain ⟨h0,h1,h2,h3⟩:=hc
      subst h3
      cases hx with
      | clo hc=>cases hc
      | ownD _ _ _ a cap hm hcap=>
       have:=s.obj id _ _ ho hm
       simp [ObjOk] at this
      | own _ _ _ a cap b csz sz hm hcap hp=>
       have hk:=s.obj id _ _ ho hm
       simp only [ObjOk] at hk
       obtain ⟨rfl,_⟩:=hk
       have hb:=run_bounds (P:=P) (w:=w) true len cap lo hi lov hiv hl hln hhi hhn h0 h1 (by omega)
       refine ⟨_,run_sliceAt_of hu hi' hb,?_⟩
       refine .own id _ _ _ _ b csz i.size hm (by omega) ?_
       rcases hp with ⟨hp1,hp2⟩ | ⟨rfl,hp2⟩
       ·left; omega
       ·by_cases hcl : cap = (lo.getD 0).toNat
        ·left; omega
        ·right
         rw [if_neg hcl]
         refine ⟨by simp [Addr.add,Nat.add_mul],?_⟩
         have : st + (lo.getD 0).toNat + (cap - (lo.getD 0).toNat) = st + cap:=by omega
         rw [this]
         exact hp2
     ·cases hh
    ·cases hh
   ·split at hh
    ·rename_i q hsel
     obtain ⟨e,sz⟩:=q
     obtain ⟨i,hu,hi',rfl,_,_⟩:=selA_some hsel
     split at hh
     ·rename_i hc
      cases hh
      obtain ⟨h0,h1⟩:=hc
      cases hx with
      | clo hc=>
       cases hc with
       | nil a=>
        have hb:=run_bounds (P:=P) (w:=w) true 0 0 lo hi lov hiv hl hln hhi hhn (by omega) (by simp; omega) (by simp; omega)
        have hr:=run_sliceAt_of hu hi' (a:=a) hb
        rw [h0] at hr
        refine ⟨_,hr,.clo ?_⟩
        have e1 : (hi.getD ((0 : Nat) : Int)).toNat - (0 : Int).toNat = 0:=by simp [h1]
        rw [e1]
        exact .nil _
     ·cases hh
    ·cases hh
   ·cases hh
theorem addr_sound {h : Heap} (s : Sim E h w) {t : TypeId} {x r : AVal} {vx : Value} {i : Int} {k : IntKind} (hh : addrA P t x i h = some r) (hx : Rep E w x vx) : okv P E w (Instr.indexAt t vx (.int k i)) r:=by
 have runS : ∀ {e : TypeId} {inf : TypeInfo} {a : Addr} {len cap : Nat},P.underlying t = some (.slice e) → P.info? e = some inf → 0 ≤ i → i < len →
   (Instr.indexAt t (.slice (some a) len cap) (.int k i)).run P w = .ok (.pointer (some (a.add (i.toNat * inf.size)))) w:=by
    intro e inf a len cap hu hi h0 h1
    simp [Instr.indexAt,run_underlying hu,asIntOf,h0,h1,run_sizeOf' hi]
 have runA : ∀ {e : TypeId} {n : Nat} {inf : TypeInfo} {a : Addr},P.underlying t = some (.array n e) → P.info? e = some inf → 0 ≤ i → i < n →
   (Instr.indexAt t (.pointer (some a)) (.int k i)).run P w = .ok (.pointer (some (a.add (i.toNat * inf.size)))) w:=by
    intro e n inf a hu hi h0 h1
    simp [Instr.indexAt,run_underlying hu,asIntOf,Instr.sureAddr,h0,h1,run_sizeOf' hi]
 unfold addrA at hh
 split at hh
 ·rename_i id st len
  split at hh
  ·rename_i e sz sz' es hsel ho
   obtain ⟨inf,hu,hi',rfl,_,_⟩:=selA_some hsel
   split at hh
   ·rename_i hc
    cases hh
    obtain ⟨h0,h1,rfl⟩:=hc
    cases hx with
    | clo hc=>cases hc
    | ownD _ _ _ a cap hm hcap=>
     have:=s.obj id _ _ ho hm
     simp [ObjOk] at this
    | own _ _ _ a cap b csz sz hm hcap hp=>
     have hk:=s.obj id _ _ ho hm
     simp only [ObjOk] at hk
     obtain ⟨rfl,_⟩:=hk
     rcases hp with ⟨hp1,hp2⟩ | ⟨rfl,hp2⟩
     ·omega
     ·refine ⟨_,runS hu hi' h0 h1,?_⟩
      have e1 : (Addr.add ⟨b,st * inf.size,none⟩ (i.toNat * inf.size)) = ⟨b,(st + i.toNat) * inf.size + 0,none⟩:=by simp [Addr.add,Nat.add_mul]
      rw [e1]
      exact .ptr id _ 0 b csz inf.size hm
   ·cases hh
  ·cases hh
 ·rename_i xs
  split at hh
  ·rename_i e sz x0 hsel hx0
   obtain ⟨inf,hu,hi',rfl,_,_⟩:=selA_some hsel
   split at hh
   ·rename_i hc
    cases hh
    obtain ⟨h0,h1⟩:=hc
    cases hx with
    | clo hc=>
     cases hc with
     | sl _ a cap s b o vs ha hcap hs hc hr=>
      have hlt : i.toNat < xs.length:=(List.getElem?_eq_some_iff.1 hx0).1
      have hm0:=List.mem_of_getElem? hx0
      have hsz : s = inf.size:=by have:=hs x0 hm0; omega
      subst hsz
      rw [ha (List.ne_nil_of_mem hm0)]
      refine ⟨_,runS hu hi' h0 (by omega),?_⟩
      have e1 : (Addr.add ⟨b,o,none⟩ (i.toNat * inf.size)) = ⟨b,o + i.toNat * inf.size + (0 * inf.size + 0),none⟩:=by simp [Addr.add]
      rw [e1]
      refine .clo (.iptr [x0] 0 0 inf.size b (o + i.toNat * inf.size) (fun _ j=>vs i.toNat j) (fun x hx=>by simp at hx; subst hx; exact h1) (fun n j x c hx hcc=>?_) (fun n j x c hx hcc=>?_))
      ·cases n with
       | zero=>
        simp at hx
        subst hx
        obtain ⟨g1,g2⟩:=hc i.toNat j x0 c hx0 hcc
        exact ⟨g1,by rw [← g2]; simp [Nat.add_assoc]⟩
       | succ n=>simp at hx
      ·cases n with
       | zero=>simp at hx; subst hx; exact hr i.toNat j x0 c hx0 hcc
       | succ n=>simp at hx
   ·cases hh
  ·cases hh
 ·rename_i id j off
  split at hh
  ·rename_i n e sz harr
   obtain ⟨inf,hu,hi',rfl⟩:=arrA_some harr
   split at hh
   ·rename_i hc
    cases hh
    cases hx with
    | clo hc=>cases hc
    | ptr _ _ _ b csz sz hm=>
     refine ⟨_,runA hu hi' hc.1 hc.2,?_⟩
     rw [Addr.add_mid,Nat.add_assoc]
     exact .ptr id j _ b csz sz hm
    | ptrD _ _ _ ad hm=>exact ⟨_,runA hu hi' hc.1 hc.2,.ptrD id j _ _ hm⟩
   ·cases hh
  ·cases hh
 ·rename_i xs j off
  split at hh
  ·rename_i n e sz harr
   obtain ⟨inf,hu,hi',rfl⟩:=arrA_some harr
   split at hh
   ·rename_i hcc
    cases hh
    cases hx with
    | clo hc=>
     cases hc with
     | iptr _ _ _ s b o vs hs hc hr=>
      refine ⟨_,runA hu hi' hcc.1 hcc.2,?_⟩
      rw [Addr.add_mid,Nat.add_assoc,Nat.add_assoc]
      exact .clo (.iptr xs j _ s b o vs hs hc hr)
   ·cases hh
  ·cases hh
 ·cases hh
theorem index_sound {t : TypeId} {x r : AVal} {vx : Value} {i : Int} {k : IntKind} (hh : indexA P t x i = some r) (hx : Rep E w x vx) : okv P E w (Instr.index t vx (.int k i)) r:=by
 unfold indexA at hh
 split at hh
 ·rename_i q
  obtain rfl:=hx.str
  split at hh
  ·rename_i hu
   split at hh
   ·rename_i h0
    split at hh
    ·rename_i b hb
     cases hh
     refine okv.int ?_
     simp [Instr.index,asIntOf,run_underlying hu,h0,hb]
    ·cases hh
   ·cases hh
  ·cases hh
 ·rename_i cs
  obtain ⟨vs,rfl,hl,hr⟩:=hx.agg'
  split at hh
  ·rename_i n e sz harr
   obtain ⟨inf,hu,hi',rfl⟩:=arrA_some harr
   split at hh
   ·rename_i hc
    obtain ⟨v,hv,hrv⟩:=part_sound hl hr hh
    refine ⟨v,?_,hrv⟩
    simp [Instr.index,asIntOf,run_underlying hu,hc.1,hc.2,run_sizeOf' hi',hv]
   ·cases hh
  ·cases hh
 ·cases hh
theorem keyEq_sound {kt : TypeId} {d : TypeDesc} (hd : P.underlying kt = some d) {a b : AVal} {va vb : Value} {r : Bool} (h : keyEq P kt a b = some r) (ha : Rep E w a va) (hb : Rep E w b vb) : Instr.sameNow d va vb = some r:=by
 unfold keyEq at h
 rw [hd] at h
 split at h
 ·rename_i q k x k' y hq
  cases hq
  obtain rfl:=ha.int
  obtain rfl:=hb.int
  exact h
 ·rename_i x y hq
  cases hq
  obtain rfl:=ha.str
  obtain rfl:=hb.str
  exact h
 ·cases h
theorem isKey_sound {kt : TypeId} {d : TypeDesc} (hd : P.underlying kt = some d) {a : AVal} {va : Value} (h : isKey P kt a = true) (ha : Rep E w a va) : IsKey d va:=by
 unfold isKey at h
 rw [hd] at h
 split at h
 ·rename_i q k n hq
  cases hq
  obtain rfl:=ha.int
  simpa [IsKey] using h
 ·rename_i q hq
  cases hq
  obtain rfl:=ha.str
  trivial
 ·cases h
theorem find_sound {kt : TypeId} {d : TypeDesc} (hd : P.underlying kt = some d) {k : AVal} {vk : Value} (hk : Rep E w k vk) : ∀ (ks : List AVal) (es : List MapEntry) (n : Nat) (r : Option Nat),findK P kt k ks n = some r → ks.length = es.length →
  (∀ (i : Nat) (k : AVal) (e : MapEntry),ks[i]? = some k → es[i]? = some e → Rep E w k e.key) →
  (r = none → Instr.findNow d vk es n = some none) ∧ ∀ i,r = some i → n ≤ i ∧ ∃ e,es[i - n]? = some e ∧ Instr.findNow d vk es n = some (some (i,e.val)) ∧ Instr.sameNow d vk e.key = some true:=by
   intro ks
   induction ks with
   | nil=>
    intro es n r h hl _
    simp only [findK] at h
    cases h
    cases es with
    | nil=>exact ⟨fun _=>rfl,fun i hi=>(by cases hi)⟩
    | cons e es=>simp at hl
   | cons x xs ih=>
    intro es n r h hl hr
    cases es with
    | nil=>simp at hl
    | cons e es=>
     simp only [findK] at h
     have he : Rep E w x e.key:=hr 0 x e rfl rfl
     cases hq : keyEq P kt k x with
     | none=>simp [hq] at h
     | some b=>
      have hs:=keyEq_sound hd hq hk he
      cases b with
      | true=>
       simp only [hq] at h
       cases h
       refine ⟨fun h=>(by cases h),fun i hi=>?_⟩
       cases hi
       exact ⟨Nat.le_refl _,e,by simp,by simp [Instr.findNow,hs],hs⟩
      | false=>
       simp only [hq] at h
       obtain ⟨h1,h2⟩:=ih es (n + 1) r h (by simpa using hl) (fun i k e hk he=>hr (i + 1) k e (by simpa using hk) (by simpa using he))
       refine ⟨fun h=>by simp [Instr.findNow,hs,h1 h],fun i hi=>?_⟩
       obtain ⟨g1,e',g2,g3,g4⟩:=h2 i hi
       refine ⟨by omega,e',?_,by simp [Instr.findNow,hs,g3],g4⟩
       have : i - n = (i - (n + 1)) + 1:=by omega
       rw [this]
       simpa using g2
theorem mapT_some {t kt et : TypeId} (h : mapT P t = some (kt,et)) : P.underlying t = some (.map kt et):=by
 unfold mapT at h
 split at h
 ·rename_i k e hu; cases h; exact hu
 ·cases h
theorem isKey_desc {kt : TypeId} {k : AVal} (h : isKey P kt k = true) : ∃ d,P.underlying kt = some d:=by
 unfold isKey at h
 split at h
 ·rename_i q _ _ hu; exact ⟨_,hu⟩
 ·rename_i q hu; exact ⟨_,hu⟩
 ·cases h
theorem zeroA_run {t : TypeId} {z : AVal} (h : zeroA P t = some z) : ∃ v,(zeroValue t).run P w = .ok v w ∧ ∀ (S : Nat → Prop) (w' : World),RepC S w' z v:=by
 unfold zeroA at h
 simp only [Option.bind_eq_some_iff] at h
 obtain ⟨v,⟨i,hi,hz⟩,hv⟩:=h
 exact ⟨v,by simp [zeroValue,typeInfo,hi,hz],fun S w'=>ofV_rep hv⟩
theorem look_sound {h : Heap} (s : Sim E h w) {t : TypeId} {m k r : AVal} {ok : Bool} {vm vk : Value} (hh : lookA P t m k ok h = some r) (hm : Rep E w m vm) (hk : Rep E w k vk) : okv P E w (Instr.lookup t vm vk ok) r:=by
 unfold lookA at hh
 split at hh
 ·rename_i kt et hmt
  have hu:=mapT_some hmt
  split at hh
  ·rename_i hik
   obtain ⟨d,hd⟩:=isKey_desc hik
   have hK:=isKey_sound hd hik hk
   have fin : ∀ (ks vs : List AVal) (es : Array MapEntry),ks.length = es.size → vs.length = es.size →
     (∀ (i : Nat) (k : AVal) (e : MapEntry),ks[i]? = some k → es[i]? = some e → Rep E w k e.key) →
     (∀ (i : Nat) (v : AVal) (e : MapEntry),vs[i]? = some v → es[i]? = some e → Rep E w v e.val) →
     (match findK P kt k ks 0 with
      | some (some i)=>match vs[i]? with
       | some v=>some (if ok then AVal.tup [v,.bool true] else v)
       | none=>none
      | some none=>match zeroA P et with
       | some z=>some (if ok then AVal.tup [z,.bool false] else z)
       | none=>none
      | none=>none) = some r →
     ∃ v b u,(Instr.findKey kt vk es.toList).run P w = .ok v w ∧ (∀ i x,v = some (i,x) → u = x ∧ b = true) ∧ (v = none → (zeroValue et).run P w = .ok u w ∧ b = false) ∧ Rep E w r (if ok then .tuple #[u,.bool b] else u):=by
      intro ks vs es hl hlv hkr hvr hfin
      have mk : ∀ {a : AVal} {u : Value} {b : Bool},Rep E w a u → Rep E w (if ok then AVal.tup [a,.bool b] else a) (if ok then .tuple #[u,.bool b] else u):=by
       intro a u b ha
       cases ok with
       | false=>exact ha
       | true=>
        refine .tup _ _ rfl fun i c v hc hv=>?_
        match i with
        | 0=>simp at hc hv; subst hc hv; exact ha
        | 1=>simp at hc hv; subst hc hv; exact .clo (.bool b)
        | i + 2=>simp at hc
      cases hf : findK P kt k ks 0 with
      | none=>simp [hf] at hfin
      | some q=>
       obtain ⟨h1,h2⟩:=find_sound hd hk ks es.toList 0 q hf (by simpa using hl) (fun i k e hk he=>hkr i k e hk (by simpa using he))
       cases q with
       | none=>
        simp only [hf] at hfin
        cases hz : zeroA P et with
        | none=>simp [hz] at hfin
        | some z=>
         simp only [hz] at hfin
         cases hfin
         obtain ⟨u,hu',hru⟩:=zeroA_run (w:=w) hz
         exact ⟨none,false,u,run_findKey hd (h1 rfl),fun i x h=>(by cases h),fun _=>⟨hu',rfl⟩,mk (.clo (hru _ _))⟩
       | some i=>
        simp only [hf] at hfin
        cases hv : vs[i]? with
        | none=>simp [hv] at hfin
        | some a=>
         simp only [hv] at hfin
         cases hfin
         obtain ⟨_,e,he,hfn,_⟩:=h2 i rfl
         simp at he
         exact ⟨some (i,e.val),true,e.val,run_findKey hd hfn,fun j x h=>(by cases h; exact ⟨rfl,rfl⟩),fun h=>(by cases h),mk (hvr i a e hv (by simpa using he))⟩
   have wrap : ∀ (es : Array MapEntry) (v : Option (Nat × Value)) (b : Bool) (u : Value),
     (vm = .map none ∧ es = #[]) ∨ (∃ r clock,vm = .map (some r) ∧ w.heap[r]? = some (.map es clock)) →
     (Instr.findKey kt vk es.toList).run P w = .ok v w → (∀ i x,v = some (i,x) → u = x ∧ b = true) → (v = none → (zeroValue et).run P w = .ok u w ∧ b = false) →
     (Instr.lookup t vm vk ok).run P w = .ok (if ok then .tuple #[u,.bool b] else u) w:=by
      intro es v b u h1 h2 h3 h4
      have fin2 : (do
        Instr.checkKey es.isEmpty 10000 kt vk
        let (v,o) ← match ← Instr.findKey kt vk es.toList with
         | some (_,v)=>pure (v,true)
         | none=>pure (← zeroValue et,false)
        pure (if ok then .tuple #[v,.bool o] else v) : Sem Value).run P w = .ok (if ok then .tuple #[u,.bool b] else u) w:=by
         simp only [Sem.run_bind,Result.andThen_ok,MapKept.run_checkKey hd hK,h2]
         cases v with
         | none=>
          obtain ⟨h5,rfl⟩:=h4 rfl
          simp [h5]
         | some q=>
          obtain ⟨i,x⟩:=q
          obtain ⟨rfl,rfl⟩:=h3 i x rfl
          simp
      unfold Instr.lookup
      rw [Sem.run_bind,run_underlying hu,Result.andThen_ok]
      rcases h1 with ⟨rfl,rfl⟩ | ⟨q,clock,rfl,hb⟩
      ·simp only [pure_bind]
       exact fin2
      ·simp only [Sem.run_bind,MapKept.run_getObj_map hb,Result.andThen_ok,pure_bind]
       simp only [Sem.run_bind] at fin2
       exact fin2
   cases m with
   | nilm=>
    obtain rfl:=hm.nilm'
    simp only at hh
    obtain ⟨v,b,u,g1,g2,g3,g4⟩:=fin [] [] #[] rfl rfl (fun i k e hk=>by simp at hk) (fun i k e hk=>by simp at hk) hh
    exact ⟨_,wrap #[] v b u (.inl ⟨rfl,rfl⟩) g1 g2 g3,g4⟩
   | cmap ks vs=>
    cases hm with
    | clo hc=>
     cases hc with
     | cmap _ _ bl clock es hSb hb hl1 hl2 hr1 hr2=>
      simp only at hh
      obtain ⟨v,b,u,g1,g2,g3,g4⟩:=fin ks vs es hl1 hl2 (fun i k e h1 h2=>.clo (hr1 i k e h1 h2)) (fun i v e h1 h2=>.clo (hr2 i v e h1 h2)) hh
      exact ⟨_,wrap es v b u (.inr ⟨_,_,rfl,hb⟩) g1 g2 g3,g4⟩
   | map id=>
    obtain ⟨bl,rfl,hmm⟩:=hm.map'
    cases ho : h[id]? with
    | none=>simp [ho] at hh
    | some o=>
     cases o with
     | amap ks vs=>
      simp only [ho] at hh
      rcases hmm with hmm | hmm
      ·have hk':=s.obj id _ _ ho hmm
       simp only [ObjOk] at hk'
       obtain ⟨es,clock,hb,hl1,hl2,hr1,hr2⟩:=hk'
       obtain ⟨v,b,u,g1,g2,g3,g4⟩:=fin ks vs es hl1 hl2 hr1 hr2 hh
       exact ⟨_,wrap es v b u (.inr ⟨_,_,rfl,hb⟩) g1 g2 g3,g4⟩
      ·have:=s.obj id _ _ ho hmm
       simp [ObjOk] at this
     | _=>simp [ho] at hh
   | _=>simp at hh
  ·cases hh
 ·cases hh
theorem extract_sound {a r : AVal} {v : Value} {i : Nat} (hh : extractA a i = some r) (ha : Rep E w a v) : okv P E w (Instr.extract v i) r:=by
 unfold extractA at hh
 split at hh
 ·rename_i vs
  obtain ⟨us,rfl,hl,hr⟩:=ha.tup'
  have hlt : i < us.size:=by rw [← hl]; exact (List.getElem?_eq_some_iff.1 hh).1
  obtain ⟨u,hu⟩:=agetElem?_some_of_lt hlt
  exact ⟨u,by simp [Instr.extract,hu],hr i r u hh hu⟩
 ·cases hh
end
end Go.Am

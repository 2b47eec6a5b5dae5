/- Each operation that leaves the memory alone does on values what Am says: the rest of them, and all in one. -/
import Derived.Test.YtebciagembenjaaDoorGH2
import Derived.Laws.Cover3
set_option linter.unusedVariables false
set_option linter.unusedSimpArgs false
/- Each operation that leaves the memory alone does on values what Am says: the rest of them, and all in one. -/
set_option maxHeartbeats 4000000
namespace Go.Am
open Go
section
variable {P : Program} {E : Env} {w : World}
def okv (P : Program) (E : Env) (w : World) (x : Sem Value) (r : AVal) : Prop:=∃ v,x.run P w = .ok v w ∧ Rep E w r v
theorem okv.int {x : Sem Value} {k : IntKind} {n : Int} (h : x.run P w = .ok (.int k n) w) : okv P E w x (.int k n):=⟨_,h,.clo (.int k n)⟩
theorem okv.bool {x : Sem Value} {b : Bool} (h : x.run P w = .ok (.bool b) w) : okv P E w x (.bool b):=⟨_,h,.clo (.bool b)⟩
theorem okv.str {x : Sem Value} {b : ByteArray} (h : x.run P w = .ok (.string b) w) : okv P E w x (.str b):=⟨_,h,.clo (.str b)⟩
theorem strA_sound {op : BinOp} {a b : ByteArray} {r : AVal} (h : strA op a b = some r) (t : TypeId) : okv P E w (binOp op t (.string a) (.string b)) r:=by
 cases op <;> simp only [strA] at h <;> try (cases h; done)
 case add=>
  split at h <;> cases h
  rename_i hl
  refine okv.str ?_
  have hn : ¬ ((a.size + b.size : Nat) : Int) > IntKind.i64.max:=by
   rw [IntKind.max_i64]
   unfold sizeLim at hl
   omega
  simp only [binOp,Op.stringOp,if_neg hn]
  rfl
 case eql=>cases h; exact okv.bool (by simp only [binOp,Op.stringOp]; rfl)
 case neq=>cases h; exact okv.bool (by simp only [binOp,Op.stringOp]; rfl)
 case lss=>cases h; exact okv.bool (by simp only [binOp,Op.stringOp]; rfl)
theorem Rep.nili' {v : Value} (h : Rep E w .nili v) : v = .nilIface:=by cases h with | clo h=>cases h; rfl
theorem Rep.nilp' {v : Value} (h : Rep E w .nilp v) : v = .pointer none:=by cases h with | clo h=>cases h; rfl
theorem Rep.iface' {t : TypeId} {a : AVal} {v : Value} (h : Rep E w (.iface t a) v) : ∃ u,v = .iface t u ∧ Rep E w a u:=by
 cases h with
 | clo h=>cases h with | iface _ _ u hr=>exact ⟨u,rfl,.clo hr⟩
 | iface _ _ u hr=>exact ⟨u,rfl,hr⟩
theorem Rep.somePtr {a : AVal} {v : Value} (h : Rep E w a v) (hp : (∃ id i off,a = .ptr id i off) ∨ ∃ xs i off,a = .iptr xs i off) : ∃ ad,v = .pointer (some ad):=by
 rcases hp with ⟨id,i,off,rfl⟩ | ⟨xs,i,off,rfl⟩
 ·cases h with
  | clo h=>cases h
  | ptr=>exact ⟨_,rfl⟩
  | ptrD=>exact ⟨_,rfl⟩
 ·cases h with
  | clo h=>cases h; exact ⟨_,rfl⟩
theorem eqA_sound {t : TypeId} {a b : AVal} {va vb : Value} {r : Bool} (h : eqA P t a b = some r) (ha : Rep E w a va) (hb : Rep E w b vb) (xo yo : Operand) :
  (∀ op,(eqGuard op t xo yo va vb).run P w = .ok () w) ∧ (binOp .eql t va vb).run P w = .ok (.bool r) w ∧ (binOp .neq t va vb).run P w = .ok (.bool (!r)) w:=by
   have hold : ∀ ms,P.underlying t = some (.interface ms) → P.underlying t = some (.interface (P.methodsAt t)):=fun ms h=>by simp [Program.methodsAt,h]
   have hptr : ∀ e,P.underlying t = some (.pointer e) → P.underlying t = some (.pointer (P.pointee t)):=fun e h=>by simp [Program.pointee,h]
   unfold eqA at h
   split at h
   ·rename_i x y
    rw [ha.bool,hb.bool]
    split at h
    ·rename_i hu
     cases h
     exact ⟨fun op=>by rw [eqGuard_at_bool]; rfl,run_eql_bool w t x y hu,run_neq_bool w t x y hu⟩
    ·cases h
   ·rename_i u x
    obtain ⟨vx,rfl,_⟩:=ha.iface'
    rw [hb.nili']
    split at h
    ·rename_i ms hu
     cases h
     exact ⟨fun op=>by cases op <;> rfl,run_eql_held_nil w t u vx (hold ms hu),run_neq_held_nil w t u vx (hold ms hu)⟩
    ·cases h
   ·rename_i id i off
    obtain ⟨ad,rfl⟩:=ha.somePtr (.inl ⟨_,_,_,rfl⟩)
    rw [hb.nilp']
    split at h
    ·rename_i e hu
     cases h
     exact ⟨fun op=>by rw [eqGuard_at_pointer]; rfl,run_eql_pointer_nil w t _ (hptr e hu),run_neq_pointer_nil w t _ (hptr e hu)⟩
    ·cases h
   ·rename_i xs i off
    obtain ⟨ad,rfl⟩:=ha.somePtr (.inr ⟨_,_,_,rfl⟩)
    rw [hb.nilp']
    split at h
    ·rename_i e hu
     cases h
     exact ⟨fun op=>by rw [eqGuard_at_pointer]; rfl,run_eql_pointer_nil w t _ (hptr e hu),run_neq_pointer_nil w t _ (hptr e hu)⟩
    ·cases h
   ·rw [ha.nilp',hb.nilp']
    split at h
    ·rename_i e hu
     cases h
     exact ⟨fun op=>by rw [eqGuard_at_pointer]; rfl,run_eql_pointer_nil w t _ (hptr e hu),run_neq_pointer_nil w t _ (hptr e hu)⟩
    ·cases h
   ·rename_i xs ys
    split at h
    ·rename_i fs ks hu hk
     obtain ⟨vx,rfl,hx⟩:=ha.agg'
     obtain ⟨vy,rfl,hy⟩:=hb.agg'
     unfold eqTy at hk
     split at hk
     ·cases hk
     ·rename_i hgt
      have he : (Op.equalIn 10000 t (.agg vx) (.agg vy)).run P w = .ok r w:=
       flat_equal 6 t ks hk 10000 (by omega) _ _ xs ys r h (fun _ _ _=>⟨⟨vx,rfl,hx⟩,vy,rfl,hy⟩) (fun ds hds hf=>by rw [hu] at hds; cases hds; cases hf)
      exact ⟨fun op=>run_eqGuard_agg w op t xo yo vx vy (by simpa using hgt),by rw [run_eql_struct,he]; rfl,by rw [run_neq_struct,he]; rfl⟩
    ·cases h
   ·cases h
theorem run_eql_nilS (t e : TypeId) (a : Option Addr) (l c : Nat) (h : P.underlying t = some (.slice e)) : (binOp .eql t (.slice a l c) (.slice none 0 0)).run P w = .ok (.bool a.isNone) w:=by
 simp only [binOp]
 simp [run_equal_slice_nil w t e a l c h]
theorem nilLit_eq {y : Operand} (h : nilLit y = true) : y = .const (.slice none 0 0):=by
 unfold nilLit at h
 split at h
 ·rfl
 ·cases h
theorem nilNil_sound {t : TypeId} {a b : AVal} {va vb : Value} {r : Bool} {xo yo : Operand} (h : nilNil P t xo yo a b = some r) (ha : Rep E w a va) (hb : Rep E w b vb) (hy : ∀ c,yo = .const c → vb = c) :
  (∀ op,(eqGuard op t xo yo va vb).run P w = .ok () w) ∧ (binOp .eql t va vb).run P w = .ok (.bool r) w ∧ (binOp .neq t va vb).run P w = .ok (.bool (!r)) w:=by
   unfold nilNil at h
   split at h
   ·rw [ha.nili',hb.nili']
    split at h
    ·rename_i ms hu
     have hold : P.underlying t = some (.interface (P.methodsAt t)):=by simp [Program.methodsAt,hu]
     split at h
     ·rename_i hc
      cases h
      refine ⟨fun op=>?_,run_eql_nil_nil w t hold,by simpa using run_neq_nil_nil w t hold⟩
      cases xo <;> cases yo <;> simp [isConstO] at hc <;> cases op <;> simp [eqGuard]
     ·cases h
    ·cases h
   ·rename_i x xs _
    split at h
    ·rename_i e hu
     split at h
     ·rename_i hn
      cases h
      rw [hy _ (nilLit_eq hn)]
      cases ha with
      | clo h=>
       cases h with
       | sl _ ad cap s b o vs h1 h2 h3 h4 h5=>
        rw [h1 (by simp)]
        exact ⟨fun op=>by cases op <;> rfl,run_eql_nilS t e _ _ _ hu,run_neq_slice_nil w t e _ _ _ hu⟩
     ·cases h
    ·cases h
   ·cases h
theorem binA_sound {op : BinOp} {t : TypeId} {xo yo : Operand} {a b r : AVal} {va vb : Value} (h : binA P op t xo yo a b = some r) (ha : Rep E w a va) (hb : Rep E w b vb) (hy : ∀ c,yo = .const c → vb = c) :
  okv P E w (do eqGuard op t xo yo va vb; binOp op t va vb) r:=by
   have fin : ∀ {r},(eqGuard op t xo yo va vb).run P w = .ok () w → okv P E w (binOp op t va vb) r → okv P E w (do eqGuard op t xo yo va vb; binOp op t va vb) r:=by
    intro r hg ⟨v,hv,hr⟩
    exact ⟨v,by rw [Sem.run_bind,hg]; exact hv,hr⟩
   unfold binA at h
   split at h
   ·rename_i k x k' y
    obtain rfl:=ha.int
    obtain rfl:=hb.int
    split at h
    ·rename_i hk
     subst hk
     exact fin (by rw [eqGuard_at_int]; rfl) (intA_sound h t)
    ·cases h
   ·rename_i x y
    obtain rfl:=ha.str
    obtain rfl:=hb.str
    exact fin (by rw [eqGuard_at_string]; rfl) (strA_sound h t)
   ·rename_i a b _ _
    split at h
    ·split at h
     ·rename_i q hq
      cases h
      obtain ⟨h1,h2,h3⟩:=nilNil_sound hq ha hb hy
      exact fin (h1 _) (okv.bool h2)
     ·simp only [Option.map_eq_some_iff] at h
      obtain ⟨q,hq,rfl⟩:=h
      obtain ⟨h1,h2,h3⟩:=eqA_sound hq ha hb xo yo
      exact fin (h1 _) (okv.bool h2)
    ·split at h
     ·rename_i q hq
      cases h
      obtain ⟨h1,h2,h3⟩:=nilNil_sound hq ha hb hy
      exact fin (h1 _) (okv.bool h3)
     ·simp only [Option.map_eq_some_iff] at h
      obtain ⟨q,hq,rfl⟩:=h
      obtain ⟨h1,h2,h3⟩:=eqA_sound hq ha hb xo yo
      exact fin (h1 _) (okv.bool h3)
    ·cases h
theorem unA_sound {op : UnOp} {a r : AVal} {va : Value} (h : unA op a = some r) (ha : Rep E w a va) : okv P E w (Op.unary op va) r:=by
 unfold unA at h
 split at h
 ·cases h; rw [ha.int]; exact okv.int rfl
 ·cases h; rw [ha.bool]; exact okv.bool rfl
 ·cases h
theorem bytes_run {f : Value → ByteArray → Sem (ForInStep ByteArray)} (hf : ∀ n r,(f (.int .u8 n) r).run P w = .ok (.yield (r.push (UInt8.ofNat n.toNat))) w) : ∀ (xs : List AVal) (cs : List Value) (l : List UInt8) (acc : ByteArray),bytesOf xs = some l → xs.length = cs.length →
  (∀ (i : Nat) (c : AVal) (v : Value),xs[i]? = some c → cs[i]? = some v → Rep E w c v) → (forIn cs acc f).run P w = .ok ⟨acc.data ++ l.toArray⟩ w:=by
   intro xs
   induction xs with
   | nil=>
    intro cs l acc h hl hr
    simp only [bytesOf] at h
    cases h
    cases cs with
    | nil=>simp
    | cons c cs=>simp at hl
   | cons x xs ih=>
    intro cs l acc h hl hr
    cases cs with
    | nil=>simp at hl
    | cons c cs=>
     cases x <;> try (simp [bytesOf] at h; done)
     rename_i k n
     cases k <;> try (simp [bytesOf] at h; done)
     simp only [bytesOf,Option.map_eq_some_iff] at h
     obtain ⟨l',hl',rfl⟩:=h
     have hc : c = .int .u8 n:=(hr 0 _ c rfl rfl).int
     subst hc
     rw [List.forIn_cons,Sem.run_bind,hf]
     simp only [Result.andThen_ok]
     have:=ih cs l' (acc.push (UInt8.ofNat n.toNat)) hl' (by simpa using hl) (fun i c v hc hv=>hr (i + 1) c v (by simpa using hc) (by simpa using hv))
     rw [this]
     congr 2
     show (acc.data.push _ ++ l'.toArray) = _
     apply Array.ext'
     simp
theorem slice_cells {h : Heap} (s : Sim E h w) {x : AVal} {v : Value} {ys : List AVal} (hx : Rep E w x v) (he : elemsA h x = some ys) (hstr : ∀ q,x ≠ .str q) :
  ∃ a cap,v = .slice a ys.length cap ∧ ys.length ≤ cap ∧ ∃ b o sz,(ys ≠ [] → a = some ⟨b,o,none⟩) ∧ (∀ y ∈ ys,y.cells.length = sz) ∧ ∀ i y,ys[i]? = some y → CellsAt E w b (o + i * sz) y:=by
   unfold elemsA at he
   split at he
   ·cases he
    cases hx with
    | clo hc=>cases hc with | nil a=>exact ⟨a,0,rfl,Nat.le_refl _,0,0,0,fun h=>absurd rfl h,fun y hy=>by simp at hy,fun i y hy=>by simp at hy⟩
   ·cases he
    cases hx with
    | clo hc=>
     cases hc with
     | sl _ a cap sz b o vs ha hcap hs hc hr=>
      refine ⟨a,cap,rfl,hcap,b,o,sz,ha,hs,fun i y hy j c hj=>?_⟩
      obtain ⟨h1,h2⟩:=hc i j y c hy hj
      exact ⟨_,by rw [Nat.add_assoc]; exact h2,.clo (hr i j y c hy hj)⟩
   ·rename_i id st len
    split at he
    ·rename_i sz es ho
     split at he
     ·rename_i hle
      cases he
      have hlen : ((es.drop st).take len).length = len:=by simp; omega
      cases hx with
      | clo hc=>cases hc
      | ownD _ _ _ a cap hm hcap=>
       have:=s.obj id _ _ ho hm
       simp [ObjOk] at this
      | own _ _ _ a cap b csz sz' hm hcap hh=>
       have hk:=s.obj id _ _ ho hm
       simp only [ObjOk] at hk
       obtain ⟨rfl,hrow,hle2,hs,hcells⟩:=hk
       refine ⟨a,cap,by rw [hlen],by rw [hlen]; exact hcap,b,st * sz,sz,fun hne=>?_,fun y hy=>hs y (List.mem_of_mem_drop (List.mem_of_mem_take hy)),fun i y hy=>?_⟩
       ·rcases hh with ⟨h0,_⟩ | ⟨h1,_⟩
        ·exact absurd (by simp [h0]) hne
        ·exact h1
       ·have hi : i < len:=by
         have:=(List.getElem?_eq_some_iff.1 hy).1
         rw [hlen] at this
         exact this
        rw [List.getElem?_take,if_pos hi,List.getElem?_drop] at hy
        have:=hcells _ y hy
        rw [Nat.add_mul] at this
        exact this
     ·cases he
    ·cases he
   ·rename_i q
    exact absurd rfl (hstr q)
   ·cases he
theorem bytesOf_one : ∀ (zs : List AVal) (l : List UInt8),bytesOf zs = some l → ∀ (i : Nat) (y : AVal),zs[i]? = some y → y.cells = [y]:=by
 intro zs
 induction zs with
 | nil=>intro l _ i y hy; simp at hy
 | cons z zs ih=>
  intro l hl i y hy
  cases z <;> try (simp [bytesOf] at hl; done)
  rename_i k n
  cases k <;> try (simp [bytesOf] at hl; done)
  simp only [bytesOf,Option.map_eq_some_iff] at hl
  obtain ⟨l',hl',_⟩:=hl
  cases i with
  | zero=>simp at hy; subst hy; rfl
  | succ i=>exact ih l' hl' i y (by simpa using hy)
theorem one_cells {xs : List AVal} {b o : Nat} (hone : ∀ (i : Nat) (y : AVal),xs[i]? = some y → y.cells = [y]) (hc : ∀ (i : Nat) (y : AVal),xs[i]? = some y → CellsAt E w b (o + i * 1) y) :
  ∃ vs : List Value,vs.length = xs.length ∧ (loadCells ⟨b,o,none⟩ xs.length).run P w = .ok vs.toArray w ∧ ∀ (i : Nat) (c : AVal) (v : Value),xs[i]? = some c → vs[i]? = some v → Rep E w c v:=by
   let vs : List Value:=(List.range xs.length).map fun j=>(w.cell? ⟨b,o + j,none⟩).getD undef
   have hv : ∀ j,j < xs.length → ∃ y v,xs[j]? = some y ∧ w.cell? ⟨b,o + j,none⟩ = some v ∧ Rep E w y v:=by
    intro j hj
    obtain ⟨y,hy⟩:=getElem?_some_of_lt hj
    obtain ⟨v,h1,h2⟩:=hc j y hy 0 y (by rw [hone j y hy]; rfl)
    exact ⟨y,v,hy,by simpa using h1,h2⟩
   have hlen : vs.length = xs.length:=by simp [vs]
   refine ⟨vs,hlen,?_,fun i c v hc' hv'=>?_⟩
   ·rw [← hlen]
    refine run_loadCells_list (P:=P) w ⟨b,o,none⟩ vs fun j v hv'=>?_
    have hj : j < xs.length:=by
     have:=(List.getElem?_eq_some_iff.1 hv').1
     simpa [vs] using this
    obtain ⟨y,u,hy,hu',_⟩:=hv j hj
    rw [Addr.add_mid,hu']
    simp [vs,hj,hu'] at hv'
    rw [hv']
   ·have hj : i < xs.length:=(List.getElem?_eq_some_iff.1 hc').1
    obtain ⟨y,u,hy,hu',hr⟩:=hv i hj
    rw [hc'] at hy
    cases hy
    simp [vs,hj,hu'] at hv'
    rw [← hv']
    exact hr
theorem convB_sound {h : Heap} (s : Sim E h w) {a r : AVal} {va : Value} (hh : convB a h = some r) (ha : Rep E w a va) : okv P E w (Conv.bytesToString va) r:=by
 have hns : ∀ q,a ≠ .str q:=by rintro q rfl; simp [convB] at hh
 have hh' : (elemsA h a).bind (fun xs=>(bytesOf xs).map fun l=>AVal.str ⟨l.toArray⟩) = some r:=by
  cases a <;> first | exact hh | (exact absurd rfl (hns _))
 simp only [Option.bind_eq_some_iff,Option.map_eq_some_iff] at hh'
 obtain ⟨xs,he,l,hl,rfl⟩:=hh'
 obtain ⟨ad,cap,rfl,hcap,b,o,sz,hadr,hsz,hcells⟩:=slice_cells s ha he hns
 have hone:=bytesOf_one xs l hl
 refine okv.str ?_
 by_cases hne : xs = []
 ·subst hne
  simp [bytesOf] at hl
  subst hl
  cases ad with
  | none=>simp [Conv.bytesToString]; rfl
  | some ad=>simp [Conv.bytesToString,loadCells,loadCellsFrom]; rfl
 ·have hsz1 : sz = 1:=by
   obtain ⟨x0,xr,rfl⟩:=List.exists_cons_of_ne_nil hne
   have:=hsz x0 (by simp)
   rw [hone 0 x0 rfl] at this
   simpa using this.symm
  subst hsz1
  rw [hadr hne]
  obtain ⟨vs,hlen,hld,hr⟩:=one_cells (P:=P) hone hcells
  simp only [Conv.bytesToString,Sem.run_bind,hld,Result.andThen_ok]
  rw [← Array.forIn_toList]
  rw [bytes_run (P:=P) (E:=E) (w:=w) (fun n r=>by rfl) xs vs l _ hl hlen.symm hr]
  simp only [Result.andThen_ok,Sem.run_pure]
  congr 2
  simp [ByteArray.empty,ByteArray.emptyWithCapacity]
  try rfl
theorem convA_sound {h : Heap} (s : Sim E h w) {src dst : TypeId} {a r : AVal} {va : Value} (hh : convA P src dst a h = some r) (ha : Rep E w a va) : okv P E w (convert src dst va) r:=by
 unfold convA at hh
 split at hh
 ·rename_i k k' hs hd
  split at hh
  ·rename_i q n
   cases hh
   rw [ha.int]
   exact okv.int (by simp [convert,run_underlying hs,run_underlying hd,Conv.intToInt])
  ·cases hh
 ·rename_i hs hd
  split at hh
  ·rename_i q
   cases hh
   rw [ha.str]
   exact okv.str (by simp [convert,run_underlying hs,run_underlying hd])
  ·cases hh
 ·rename_i e hs hd
  split at hh
  ·rename_i hu
   obtain ⟨v,hv,hr⟩:=convB_sound (P:=P) s hh ha
   refine ⟨v,?_,hr⟩
   have hnp : ∃ ad n cap,va = .slice ad n cap:=by
    have hns : ∀ q,a ≠ .str q:=by rintro q rfl; simp [convB] at hh
    have hh' : ∃ xs,elemsA h a = some xs:=by
     cases a <;> first | (simp only [convB,Option.bind_eq_some_iff] at hh; obtain ⟨xs,hx,_⟩:=hh; exact ⟨xs,hx⟩) | (exact absurd rfl (hns _))
    obtain ⟨xs,he⟩:=hh'
    obtain ⟨ad,cap,hva,_⟩:=slice_cells s ha he hns
    exact ⟨_,_,_,hva⟩
   obtain ⟨ad,n,cap,rfl⟩:=hnp
   simp only [convert,Sem.run_bind,run_underlying hs,run_underlying hd,run_underlying hu,Result.andThen_ok]
   exact hv
  ·cases hh
 ·cases hh
end
end Go.Am

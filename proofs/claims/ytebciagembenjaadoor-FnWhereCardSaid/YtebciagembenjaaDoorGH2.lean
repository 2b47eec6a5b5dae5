/- Each operation that leaves the memory alone does on values what Am says: arithmetic, comparisons, cuts, addresses, maps read. -/
import Derived.Test.YtebciagembenjaaDoorGSBmB
import Derived.WideLaws
import Derived.Laws.Pointers
import Derived.Laws.Small
set_option linter.unusedVariables false
set_option linter.unusedSimpArgs false
/- Each operation that leaves the memory alone does on values what Am says. -/
set_option maxHeartbeats 4000000
namespace Go.Am
open Go
theorem mapO_some {α β : Type} {f : α → Option β} : ∀ {l : List α} {r : List β},mapO f l = some r → l.length = r.length ∧ ∀ (i : Nat) (x : α) (y : β),l[i]? = some x → r[i]? = some y → f x = some y:=by
 intro l
 induction l with
 | nil=>intro r h; simp only [mapO] at h; cases h; exact ⟨rfl,fun i x y hx=>by simp at hx⟩
 | cons a l ih=>
  intro r h
  simp only [mapO] at h
  cases ha : f a with
  | none=>simp [ha] at h
  | some b=>
   cases hl : mapO f l with
   | none=>simp [ha,hl] at h
   | some bs=>
    simp only [ha,hl] at h
    cases h
    obtain ⟨h1,h2⟩:=ih hl
    refine ⟨by simp [h1],fun i x y hx hy=>?_⟩
    cases i with
    | zero=>simp at hx hy; subst hx hy; exact ha
    | succ i=>simp at hx hy; exact h2 i x y hx hy
theorem getElem?_some_of_lt {α : Type} {l : List α} {i : Nat} (h : i < l.length) : ∃ x,l[i]? = some x:=⟨l[i],List.getElem?_eq_getElem h⟩
theorem agetElem?_some_of_lt {α : Type} {l : Array α} {i : Nat} (h : i < l.size) : ∃ x,l[i]? = some x:=⟨l[i],Array.getElem?_eq_getElem h⟩
theorem ofV0_rep {S : Nat → Prop} {w : World} {v : Value} {a : AVal} (h : ofV0 v = some a) : RepC S w a v:=by
 unfold ofV0 at h
 split at h <;> first | (cases h; constructor) | cases h
theorem ofV_rep {S : Nat → Prop} {w : World} {v : Value} {a : AVal} (h : ofV v = some a) : RepC S w a v:=by
 unfold ofV at h
 split at h
 ·rename_i cs
  simp only [Option.map_eq_some_iff] at h
  obtain ⟨l,hl,rfl⟩:=h
  obtain ⟨h1,h2⟩:=mapO_some hl
  refine .agg l cs (by simpa using h1.symm) fun i c v hc hv=>ofV0_rep (h2 i v c (by simpa using hv) hc)
 ·exact ofV0_rep h
theorem Rep.cells {E : Env} {w : World} {a : AVal} {v : Value} (h : Rep E w a v) : a.cells.length = v.cells.size ∧ ∀ (j : Nat) (c : AVal),a.cells[j]? = some c → ∃ u,v.cells[j]? = some u ∧ Rep E w c u:=by
 have one : ∀ {a v},Rep E w a v → a.cells = [a] → v.cells = #[v] → a.cells.length = v.cells.size ∧ ∀ (j : Nat) (c : AVal),a.cells[j]? = some c → ∃ u,v.cells[j]? = some u ∧ Rep E w c u:=by
  intro a v h ha hv
  rw [ha,hv]
  refine ⟨rfl,fun j c hj=>?_⟩
  cases j with
  | zero=>simp at hj; subst hj; exact ⟨v,rfl,h⟩
  | succ j=>simp at hj
 have many : ∀ (cs : List AVal) (vs : Array Value),cs.length = vs.size → (∀ (i : Nat) (c : AVal) (v : Value),cs[i]? = some c → vs[i]? = some v → Rep E w c v) → (AVal.agg cs).cells.length = (Value.agg vs).cells.size ∧ ∀ (j : Nat) (c : AVal),(AVal.agg cs).cells[j]? = some c → ∃ u,(Value.agg vs).cells[j]? = some u ∧ Rep E w c u:=by
  intro cs vs hl hr
  refine ⟨hl,fun j c hj=>?_⟩
  have hlt : j < vs.size:=by rw [← hl]; exact (List.getElem?_eq_some_iff.1 hj).1
  obtain ⟨u,hu⟩:=agetElem?_some_of_lt hlt
  exact ⟨u,hu,hr j c u hj hu⟩
 cases h with
 | clo h=>
  cases h
  case agg cs vs hl hr=>exact many cs vs hl fun i c v hc hv=>.clo (hr i c v hc hv)
  all_goals exact one (.clo (by constructor <;> assumption)) rfl rfl
 | agg cs vs hl hr=>exact many cs vs hl hr
 | own id st len a cap b csz sz hm hcap h=>exact one (.own id st len a cap b csz sz hm hcap h) rfl rfl
 | ownD id st len a cap hm hcap=>exact one (.ownD id st len a cap hm hcap) rfl rfl
 | ptr id i off b csz sz hm=>exact one (.ptr id i off b csz sz hm) rfl rfl
 | ptrD id i off a hm=>exact one (.ptrD id i off a hm) rfl rfl
 | map id b hm=>exact one (.map id b hm) rfl rfl
 | mapD id b hm=>exact one (.mapD id b hm) rfl rfl
 | it id b hm=>exact one (.it id b hm) rfl rfl
 | itD id a hm=>exact one (.itD id a hm) rfl rfl
 | tup cs vs hl hr=>exact one (.tup cs vs hl hr) rfl rfl
 | func fn a b va vb hla hlb hra hrb=>exact one (.func fn a b va vb hla hlb hra hrb) rfl rfl
 | iface t a v hr=>exact one (.iface t a v hr) rfl rfl
theorem Rep.isCell {E : Env} {w : World} {a : AVal} {v : Value} (h : Rep E w a v) (hc : a.isCell = true) : v.oneCell' = true:=by
 cases h with
 | clo h=>cases h <;> first | rfl | cases hc
 | _=>first | rfl | cases hc
def GOk (G : Nat → Option AVal) (S : Nat → Prop) (w : World) : Prop:=∀ g v,G g = some v → RepC S w (.iptr [v] 0 0) (.pointer (some ⟨g,0,none⟩))
def TmRep (E : Env) (w : World) (tm : Nat → AVal) (a : Act) : Prop:=∀ k,Rep E w (tm k) (a.tmps.getD k undef)
theorem ev_rep {E : Env} {w : World} {G : Nat → Option AVal} {tm : Nat → AVal} {a : Act} (hg : GOk G E.S w) (ht : TmRep E w tm a) {x : Operand} {v : AVal} (h : ev G tm x = some v) : Rep E w v (a.eval x):=by
 cases x with
 | tmp t=>simp only [ev] at h; cases h; exact ht t
 | const c=>exact .clo (ofV_rep h)
 | global g=>
  simp only [ev,Option.map_eq_some_iff] at h
  obtain ⟨u,hu,rfl⟩:=h
  exact .clo (hg g u hu)
 | func f=>
  simp only [ev] at h
  cases h
  exact .func (.func f) [] [] #[] #[] rfl rfl (fun i c v hc=>by simp at hc) (fun i c v hc=>by simp at hc)
section
variable {P : Program} {E : Env} {w : World}
theorem Rep.int {k : IntKind} {n : Int} {v : Value} (h : Rep E w (.int k n) v) : v = .int k n:=by cases h with | clo h=>cases h; rfl
theorem Rep.bool {b : Bool} {v : Value} (h : Rep E w (.bool b) v) : v = .bool b:=by cases h with | clo h=>cases h; rfl
theorem Rep.str {s : ByteArray} {v : Value} (h : Rep E w (.str s) v) : v = .string s:=by cases h with | clo h=>cases h; rfl
theorem Rep.agg' {cs : List AVal} {v : Value} (h : Rep E w (.agg cs) v) : ∃ vs,v = .agg vs ∧ cs.length = vs.size ∧ ∀ (i : Nat) (c : AVal) (v : Value),cs[i]? = some c → vs[i]? = some v → Rep E w c v:=by
 cases h with
 | clo h=>cases h with | agg cs vs hl hr=>exact ⟨vs,rfl,hl,fun i c v hc hv=>.clo (hr i c v hc hv)⟩
 | agg cs vs hl hr=>exact ⟨vs,rfl,hl,hr⟩
theorem Rep.tup' {cs : List AVal} {v : Value} (h : Rep E w (.tup cs) v) : ∃ vs,v = .tuple vs ∧ cs.length = vs.size ∧ ∀ (i : Nat) (c : AVal) (v : Value),cs[i]? = some c → vs[i]? = some v → Rep E w c v:=by
 cases h with
 | clo h=>cases h with | tup cs vs hl hr=>exact ⟨vs,rfl,hl,fun i c v hc hv=>.clo (hr i c v hc hv)⟩
 | tup cs vs hl hr=>exact ⟨vs,rfl,hl,hr⟩
theorem tyk_some {t : TypeId} {b : Bool} {n : Nat} (h : tyk P t = some (b,n)) : ∃ d i,P.underlying t = some d ∧ P.info? t = some i ∧ isAggD d = b ∧ i.size = n:=by
 unfold tyk at h
 split at h
 ·rename_i d i hd hi; simp at h; exact ⟨d,i,hd,hi,h.1,h.2⟩
 ·cases h
theorem run_isAgg {t : TypeId} {d : TypeDesc} (hd : P.underlying t = some d) (w : World) : (isAgg t).run P w = .ok (isAggD d) w:=by
 unfold isAgg
 rw [Sem.run_bind,run_underlying hd w]
 cases d <;> rfl
theorem run_loadPart {t : TypeId} {x r : AVal} {off b o : Nat} (hx : CellsAt E w b o x) (h : partA P t x off = some r) :
  ∃ v,(loadVar t ⟨b,o + off,none⟩).run P w = .ok v w ∧ Rep E w r v:=by
   unfold partA at h
   split at h
   ·rename_i s hs
    obtain ⟨d,i,hd,hi,ha,hsz⟩:=tyk_some hs
    split at h
    ·rename_i hle
     cases h
     have hcell : ∀ j,j < s → ∃ v,w.cell? ⟨b,o + off + j,none⟩ = some v ∧ ∀ c,x.cells[off + j]? = some c → Rep E w c v:=by
      intro j hj
      obtain ⟨c,hc⟩:=getElem?_some_of_lt (l:=x.cells) (i:=off + j) (by omega)
      obtain ⟨v,hv,hr⟩:=hx (off + j) c hc
      refine ⟨v,by rw [Nat.add_assoc]; exact hv,fun c' hc'=>by rw [hc] at hc'; cases hc'; exact hr⟩
     let vs : List Value:=(List.range s).map fun j=>(w.cell? ⟨b,o + off + j,none⟩).getD undef
     have hvs : ∀ j v,vs[j]? = some v → w.cell? ⟨b,o + off + j,none⟩ = some v:=by
      intro j v hv
      have hj : j < s:=by
       have:=(List.getElem?_eq_some_iff.1 hv).1
       simpa [vs] using this
      obtain ⟨u,hu,_⟩:=hcell j hj
      simp [vs,hj,hu] at hv
      rw [hu,hv]
     have hlen : vs.length = s:=by simp [vs]
     refine ⟨.agg vs.toArray,run_loadVar_mid w b (o + off) t vs d hvs hd (by cases d <;> simp_all [isAggD,TypeDesc.isRow]) (by rw [hi,hlen]; simp [hsz]),?_⟩
     refine .agg _ _ (by simp [hlen]; omega) fun j c v hc hv=>?_
     have hj : j < s:=by
      have:=(List.getElem?_eq_some_iff.1 hc).1
      simp at this; omega
     have hc' : x.cells[off + j]? = some c:=by
      rw [List.getElem?_take,if_pos hj,List.getElem?_drop] at hc
      exact hc
     obtain ⟨u,hu,hr⟩:=hcell j hj
     have:=hvs j v (by simpa using hv)
     rw [hu] at this
     cases this
     exact hr c hc'
    ·cases h
   ·rename_i s hs
    obtain ⟨d,i,hd,hi,ha,hsz⟩:=tyk_some hs
    obtain ⟨v,hv,hr⟩:=hx off r h
    refine ⟨v,?_,hr⟩
    unfold loadVar
    rw [Sem.run_bind,run_isAgg hd,Result.andThen_ok,ha]
    simp [hv]
   ·cases h
theorem ptr_imm {S : Nat → Prop} {xs : List AVal} {i off : Nat} {v : Value} (h : RepC S w (.iptr xs i off) v) : ∃ b o s,v = .pointer (some ⟨b,o + (i * s + off),none⟩) ∧ ∀ x,xs[i]? = some x → (E.S = S → CellsAt E w b (o + i * s) x):=by
 cases h with
 | iptr _ _ _ s b o vs hs hc hr=>
  refine ⟨b,o,s,rfl,fun x hx hE j c hj=>?_⟩
  subst hE
  obtain ⟨h1,h2⟩:=hc i j x c hx hj
  exact ⟨_,by rw [Nat.add_assoc]; exact h2,.clo (hr i j x c hx hj)⟩
theorem load_sound {h : Heap} (s : Sim E h w) {t : TypeId} {a r : AVal} {va : Value} (ha : Rep E w a va) (hl : loadA P t a h = some r) :
  ∃ v,(Instr.loadAt t va).run P w = .ok v w ∧ Rep E w r v:=by
   have fin : ∀ (ad : Addr) (v : Value),va = .pointer (some ad) → (loadVar t ad).run P w = .ok v w → (Instr.loadAt t va).run P w = .ok v w:=by
    intro ad v hva hr
    subst hva
    simp only [Instr.loadAt,Instr.sureAddr,Sem.run_bind,Sem.run_pure,Result.andThen_ok,hr]
   unfold loadA at hl
   split at hl
   ·rename_i id i off
    cases ho : h[id]? with
    | none=>simp [ho] at hl
    | some o=>
     cases ha with
     | clo hc=>cases hc
     | ptrD _ _ _ ad hm=>
      have:=s.obj id o _ ho hm
      cases o <;> simp only [ObjOk] at this <;> simp [ho] at hl
     | ptr _ _ _ b csz sz hm=>
      have hk:=s.obj id o _ ho hm
      cases o with
      | box x=>
       simp only [ObjOk] at hk
       simp only [ho] at hl
       split at hl
       ·rename_i hi
        subst hi
        obtain ⟨v,hv,hr⟩:=run_loadPart hk.2.2 hl
        exact ⟨v,fin _ v rfl (by simpa using hv),hr⟩
       ·cases hl
      | arr sz' es=>
       simp only [ObjOk] at hk
       obtain ⟨rfl,hrow,hle,hs,hcells⟩:=hk
       simp only [ho] at hl
       cases hx : es[i]? with
       | none=>simp [hx] at hl
       | some x=>
        simp only [hx] at hl
        obtain ⟨v,hv,hr⟩:=run_loadPart (hcells i x hx) hl
        exact ⟨v,fin _ v rfl hv,hr⟩
      | amap ks vs=>simp [ho] at hl
      | iter q pos=>simp [ho] at hl
      | dead=>simp [ho] at hl
   ·rename_i xs i off
    cases ha with
    | clo hc=>
     obtain ⟨b,o,sz,rfl,hx⟩:=ptr_imm (E:=E) hc
     cases hxi : xs[i]? with
     | none=>simp [hxi] at hl
     | some x=>
      simp only [hxi] at hl
      obtain ⟨v,hv,hr⟩:=run_loadPart (hx x hxi rfl) hl
      exact ⟨v,fin _ v rfl (by rw [← Nat.add_assoc]; exact hv),hr⟩
   ·cases hl
theorem part_sound {t : TypeId} {cs : List AVal} {vs : Array Value} {off : Nat} {r : AVal} (hl : cs.length = vs.size) (hr : ∀ (i : Nat) (c : AVal) (v : Value),cs[i]? = some c → vs[i]? = some v → Rep E w c v)
  (h : partA P t (.agg cs) off = some r) : ∃ v,(part t vs off).run P w = .ok v w ∧ Rep E w r v:=by
   unfold partA at h
   split at h
   ·rename_i s hs
    obtain ⟨d,i,hd,hi,ha,hsz⟩:=tyk_some hs
    split at h
    ·rename_i hle
     cases h
     simp only [AVal.cells] at hle ⊢
     refine ⟨.agg (vs.extract off (off + s)),?_,?_⟩
     ·unfold part
      rw [Sem.run_bind,run_isAgg hd,Result.andThen_ok,ha]
      simp [sizeOf,typeInfo,hi,hsz]
     ·refine .agg _ _ (by simp; omega) fun j c v hc hv=>?_
      have hj : j < s:=by
       have:=(List.getElem?_eq_some_iff.1 hc).1
       simp at this; omega
      rw [List.getElem?_take,if_pos hj,List.getElem?_drop] at hc
      rw [Array.getElem?_extract] at hv
      split at hv
      ·exact hr _ c v hc hv
      ·cases hv
    ·cases h
   ·rename_i s hs
    obtain ⟨d,i,hd,hi,ha,hsz⟩:=tyk_some hs
    simp only [AVal.cells] at h
    have hlt : off < vs.size:=by rw [← hl]; exact (List.getElem?_eq_some_iff.1 h).1
    obtain ⟨v,hv⟩:=agetElem?_some_of_lt hlt
    refine ⟨v,?_,hr off r v h hv⟩
    unfold part
    rw [Sem.run_bind,run_isAgg hd,Result.andThen_ok,ha]
    simp [hv]
   ·cases h
theorem field_sound {t : TypeId} {x r : AVal} {v : Value} {f : Nat} (hx : Rep E w x v) (h : fieldA P t x f = some r) : ∃ u,(Instr.field t v f).run P w = .ok u w ∧ Rep E w r u:=by
 unfold fieldA at h
 split at h
 ·rename_i cs off ft hf
  obtain ⟨vs,rfl,hl,hr⟩:=hx.agg'
  obtain ⟨u,hu,hru⟩:=part_sound hl hr h
  refine ⟨u,?_,hru⟩
  unfold fldT at hf
  split at hf
  ·rename_i fs hu2
   simp only [Option.map_eq_some_iff] at hf
   obtain ⟨fd,hfd,he⟩:=hf
   cases he
   simp [Instr.field,run_underlying hu2,hfd,asAgg,hu]
  ·cases hf
 ·cases h
theorem fieldAddr_sound {sT f k : Nat} {x : AVal} {v : Value} (hk : fldA P sT f = some k) (hx : Rep E w x v) :
  (∀ id i off,x = .ptr id i off → ∃ u,(Instr.fieldAt sT v f).run P w = .ok u w ∧ Rep E w (.ptr id i (off + k)) u) ∧
  (∀ xs i off,x = .iptr xs i off → ∃ u,(Instr.fieldAt sT v f).run P w = .ok u w ∧ Rep E w (.iptr xs i (off + k)) u):=by
   have run : ∀ ad : Addr,v = .pointer (some ad) → (Instr.fieldAt sT v f).run P w = .ok (.pointer (some (ad.add k))) w:=by
    intro ad hv
    subst hv
    unfold fldA at hk
    split at hk
    ·rename_i fs hu
     cases hf : fs[f]? with
     | none=>simp [hf] at hk
     | some fd=>
      cases hi : P.info? fd.type with
      | none=>simp [hf,hi] at hk
      | some i=>
       simp only [hf,hi] at hk
       split at hk
       ·cases hk
       ·rename_i h0
        cases hk
        simp [Instr.fieldAt,run_underlying hu,hf,Instr.sureAddr,fieldPlace,sizeOf,typeInfo,hi,h0]
    ·cases hk
   refine ⟨fun id i off he=>?_,fun xs i off he=>?_⟩
   ·subst he
    cases hx with
    | clo hc=>cases hc
    | ptr _ _ _ b csz sz hm=>exact ⟨_,run _ rfl,by rw [Addr.add_mid,Nat.add_assoc]; exact .ptr id i (off + k) b csz sz hm⟩
    | ptrD _ _ _ ad hm=>exact ⟨_,run _ rfl,.ptrD id i (off + k) _ hm⟩
   ·subst he
    cases hx with
    | clo hc=>
     cases hc with
     | iptr _ _ _ s b o vs hs hc hr=>exact ⟨_,run _ rfl,by rw [Addr.add_mid,Nat.add_assoc,Nat.add_assoc]; exact .clo (.iptr xs i (off + k) s b o vs hs hc hr)⟩
end
end Go.Am
/- Each operation that leaves the memory alone does on values what Am says: arithmetic, comparisons, cuts, addresses, maps read. -/
set_option maxHeartbeats 4000000
namespace Go.Am
open Go
section
variable {P : Program} {E : Env} {w : World}
def All2 (E : Env) (w : World) (cs : List AVal) (vs : Array Value) : Prop:=cs.length = vs.size ∧ ∀ (i : Nat) (c : AVal) (v : Value),cs[i]? = some c → vs[i]? = some v → Rep E w c v
theorem eqCells_append : ∀ (l ks : List FK) (x1 x2 y1 y2 : List AVal),x1.length = l.length → y1.length = l.length → ∀ r,eqCells (l ++ ks) (x1 ++ x2) (y1 ++ y2) = some r →
  ∃ r1 r2,eqCells l x1 y1 = some r1 ∧ eqCells ks x2 y2 = some r2 ∧ r = (r1 && r2):=by
   intro l
   induction l with
   | nil=>
    intro ks x1 x2 y1 y2 h1 h2 r h
    simp at h1 h2
    subst h1 h2
    exact ⟨true,r,rfl,h,rfl⟩
   | cons k l ih=>
    intro ks x1 x2 y1 y2 h1 h2 r h
    cases x1 with
    | nil=>simp at h1
    | cons a x1=>
     cases y1 with
     | nil=>simp at h2
     | cons b y1=>
      have h1' : x1.length = l.length:=by simpa using h1
      have h2' : y1.length = l.length:=by simpa using h2
      simp only [List.cons_append] at h
      cases k <;> cases a <;> cases b <;> simp only [eqCells] at h <;> try (cases h; done)
      ·rename_i ka a kb b
       split at h
       ·rename_i hk
        simp only [Option.map_eq_some_iff] at h
        obtain ⟨q,hq,rfl⟩:=h
        obtain ⟨r1,r2,e1,e2,rfl⟩:=ih ks x1 x2 y1 y2 h1' h2' q hq
        exact ⟨(a == b && r1),r2,by simp only [eqCells]; rw [if_pos hk,e1]; rfl,e2,by simp [Bool.and_assoc]⟩
       ·cases h
      all_goals
       rename_i a b
       simp only [Option.map_eq_some_iff] at h
       obtain ⟨q,hq,rfl⟩:=h
       obtain ⟨r1,r2,e1,e2,rfl⟩:=ih ks x1 x2 y1 y2 h1' h2' q hq
       exact ⟨(a == b && r1),r2,by simp only [eqCells]; rw [e1]; rfl,e2,by simp [Bool.and_assoc]⟩
theorem eqCells_len : ∀ (ks : List FK) (xs ys : List AVal) (r : Bool),eqCells ks xs ys = some r → xs.length = ks.length ∧ ys.length = ks.length:=by
 intro ks
 induction ks with
 | nil=>intro xs ys r h; cases xs <;> cases ys <;> simp [eqCells] at h ⊢
 | cons k ks ih=>
  intro xs ys r h
  cases xs with
  | nil=>cases k <;> simp [eqCells] at h
  | cons x xs=>
   cases ys with
   | nil=>cases k <;> cases x <;> simp [eqCells] at h
   | cons y ys=>
    cases k <;> cases x <;> cases y <;> simp only [eqCells] at h <;> try cases h
    ·split at h
     ·simp only [Option.map_eq_some_iff] at h; obtain ⟨q,hq,_⟩:=h; simpa using ih _ _ _ hq
     ·cases h
    all_goals (simp only [Option.map_eq_some_iff] at h; obtain ⟨q,hq,_⟩:=h; simpa using ih _ _ _ hq)
theorem All2.part {xs : List AVal} {vs : Array Value} (h : All2 E w xs vs) (off n : Nat) (hle : off + n ≤ xs.length) : All2 E w ((xs.drop off).take n) (vs.extract off (off + n)):=by
 refine ⟨by simp; have:=h.1; omega,fun i c v hc hv=>?_⟩
 have hi : i < n:=by
  have:=(List.getElem?_eq_some_iff.1 hc).1
  simp at this; omega
 rw [List.getElem?_take,if_pos hi,List.getElem?_drop] at hc
 rw [Array.getElem?_extract] at hv
 split at hv
 ·exact h.2 _ c v hc hv
 ·cases hv
theorem flat_equal : ∀ (n : Nat) (t : TypeId) (ks : List FK),flatK P n t = some ks → ∀ (d : Nat),n ≤ d → ∀ (x y : Value) (xs ys : List AVal) (r : Bool),eqCells ks xs ys = some r →
  (∀ ds,P.underlying t = some ds → isAggD ds = true → (∃ vx,x = .agg vx ∧ All2 E w xs vx) ∧ ∃ vy,y = .agg vy ∧ All2 E w ys vy) →
  (∀ ds,P.underlying t = some ds → isAggD ds = false → (∃ a,xs = [a] ∧ Rep E w a x) ∧ ∃ b,ys = [b] ∧ Rep E w b y) → (Op.equalIn d t x y).run P w = .ok r w:=by
   intro n
   induction n with
   | zero=>intro t ks h; simp [flatK] at h
   | succ n ih=>
    intro t ks h d hd x y xs ys r hr hagg hone
    obtain ⟨d,rfl⟩ : ∃ e,d = e + 1:=⟨d - 1,by omega⟩
    simp only [flatK] at h
    cases hu : P.underlying t with
    | none=>simp [hu] at h
    | some ds=>
     cases ds
     case bool=>
      simp only [hu] at h
      cases h
      obtain ⟨⟨a,rfl,ha⟩,b,rfl,hb⟩:=hone _ hu rfl
      cases a <;> cases b <;> simp [eqCells] at hr
      subst hr
      rw [ha.bool,hb.bool]
      exact run_equalIn_bool' w d t _ _ hu
     case int k=>
      simp only [hu] at h
      cases h
      obtain ⟨⟨a,rfl,ha⟩,b,rfl,hb⟩:=hone _ hu rfl
      cases a <;> cases b <;> simp [eqCells] at hr
      obtain ⟨rfl,rfl⟩:=hr
      rw [ha.int,hb.int]
      exact run_equalIn_int w d t _ k _ _ hu
     case string=>
      simp only [hu] at h
      cases h
      obtain ⟨⟨a,rfl,ha⟩,b,rfl,hb⟩:=hone _ hu rfl
      cases a <;> cases b <;> simp [eqCells] at hr
      subst hr
      rw [ha.str,hb.str,run_equalIn_string w d t _ _ hu,beq_toListBytes]
     case struct fs=>
      simp only [hu] at h
      obtain ⟨⟨vx,rfl,hx⟩,vy,rfl,hy⟩:=hagg _ hu rfl
      split at h
      ·cases h
      ·rename_i hst
       have hfo : P.fieldsOf t = fs:=by simp [Program.fieldsOf,hu]
       rw [run_equalIn_struct w d t vx vy (by rw [hfo]; exact hu) (by simpa using hst),hfo]
       obtain ⟨hlx,hly⟩:=eqCells_len _ _ _ _ hr
       have key : ∀ (l : List Field) (off : Nat) (ks : List FK),flatFs (flatK P n) P l off = some ks → off + ks.length ≤ xs.length → off + ks.length ≤ ys.length →
         ∀ r,eqCells ks ((xs.drop off).take ks.length) ((ys.drop off).take ks.length) = some r → (Op.eqFields d vx vy l).run P w = .ok r w:=by
          intro l
          induction l with
          | nil=>
           intro off ks hk h1 h2 r hr
           simp only [flatFs] at hk
           cases hk
           simp [eqCells] at hr
           subst hr
           rfl
          | cons f l ihl=>
           intro off ks hk h1 h2 r hr
           simp only [flatFs] at hk
           cases hkf : flatK P n f.type with
           | none=>simp [hkf] at hk
           | some kf=>
            cases hi : P.info? f.type with
            | none=>simp [hkf,hi] at hk
            | some i=>
             simp only [hkf,hi] at hk
             split at hk
             ·rename_i hc
              obtain ⟨hnm,hoff,hsz⟩:=hc
              simp only [Option.map_eq_some_iff] at hk
              obtain ⟨k2,hk2,rfl⟩:=hk
              simp only [List.length_append] at h1 h2 hr
              have cut : ∀ zs : List AVal,(zs.drop off).take (kf.length + k2.length) = (zs.drop off).take kf.length ++ (zs.drop (off + kf.length)).take k2.length:=by
               intro zs
               rw [List.take_add,List.drop_drop]
              rw [cut,cut] at hr
              obtain ⟨r1,r2,e1,e2,rfl⟩:=eqCells_append kf k2 _ _ _ _ (by simp; omega) (by simp; omega) r hr
              have hrest:=ihl (off + kf.length) k2 hk2 (by omega) (by omega) r2 e2
              have hps : ∃ a b,(part f.type vx f.offset).run P w = .ok a w ∧ (part f.type vy f.offset).run P w = .ok b w ∧ (Op.equalIn d f.type a b).run P w = .ok r1 w:=by
               cases hdf : P.underlying f.type with
               | none=>cases n <;> simp [flatK,hdf] at hkf
               | some df=>
                cases hag : isAggD df with
                | true=>
                 refine ⟨.agg (vx.extract off (off + kf.length)),.agg (vy.extract off (off + kf.length)),?_,?_,?_⟩
                 ·unfold part; rw [Sem.run_bind,run_isAgg hdf,Result.andThen_ok,hag]; simp [sizeOf,typeInfo,hi,hsz,hoff]
                 ·unfold part; rw [Sem.run_bind,run_isAgg hdf,Result.andThen_ok,hag]; simp [sizeOf,typeInfo,hi,hsz,hoff]
                 ·exact ih f.type kf hkf d (by omega) _ _ _ _ r1 e1 (fun ds hds _=>⟨⟨_,rfl,hx.part off kf.length (by omega)⟩,_,rfl,hy.part off kf.length (by omega)⟩)
                   (fun ds hds hf=>by rw [hdf] at hds; cases hds; rw [hag] at hf; cases hf)
                | false=>
                 have hone : kf.length = 1:=by
                  cases n with
                  | zero=>simp [flatK] at hkf
                  | succ n=>
                   simp only [flatK,hdf] at hkf
                   cases df <;> simp [isAggD] at hag <;> simp at hkf <;> subst hkf <;> rfl
                 obtain ⟨a,ha⟩:=getElem?_some_of_lt (l:=xs) (i:=off) (by omega)
                 obtain ⟨b,hb⟩:=getElem?_some_of_lt (l:=ys) (i:=off) (by omega)
                 obtain ⟨va,hva⟩:=agetElem?_some_of_lt (l:=vx) (i:=off) (by have:=hx.1; omega)
                 obtain ⟨vb,hvb⟩:=agetElem?_some_of_lt (l:=vy) (i:=off) (by have:=hy.1; omega)
                 refine ⟨va,vb,?_,?_,?_⟩
                 ·unfold part; rw [Sem.run_bind,run_isAgg hdf,Result.andThen_ok,hag]; simp [hoff,hva]
                 ·unfold part; rw [Sem.run_bind,run_isAgg hdf,Result.andThen_ok,hag]; simp [hoff,hvb]
                 ·have t1 : ∀ (zs : List AVal) z,zs[off]? = some z → (zs.drop off).take kf.length = [z]:=by
                   intro zs z hz
                   rw [hone,List.take_one,List.head?_drop,hz]
                   rfl
                  rw [t1 xs a ha,t1 ys b hb] at e1
                  exact ih f.type kf hkf d (by omega) _ _ _ _ r1 e1 (fun ds hds hf=>by rw [hdf] at hds; cases hds; rw [hag] at hf; cases hf)
                   (fun ds hds _=>⟨⟨a,rfl,hx.2 off a va ha hva⟩,b,rfl,hy.2 off b vb hb hvb⟩)
              obtain ⟨a,b,p1,p2,p3⟩:=hps
              simp only [Op.eqFields,if_pos hnm,Sem.run_bind,p1,p2,p3,Result.andThen_ok,Sem.run_ite]
              cases r1
              ·simp
              ·simpa using hrest
             ·cases hk
       refine key fs.toList 0 ks h (by omega) (by omega) r ?_
       rw [List.drop_zero,List.drop_zero,← hlx,List.take_length,hlx,← hly,List.take_length]
       exact hr
     all_goals (simp only [hu] at h; cases h)
theorem intA_sound {op : BinOp} {k : IntKind} {a b : Int} {r : AVal} (h : intA op k a b = some r) (t : TypeId) : ∃ v,(binOp op t (.int k a) (.int k b)).run P w = .ok v w ∧ Rep E w r v:=by
 have int : ∀ n,∃ v,(Result.ok (Value.int k n) w : Result Value) = .ok v w ∧ Rep E w (.int k n) v:=fun n=>⟨_,rfl,.clo (.int k n)⟩
 have bl : ∀ n,∃ v,(Result.ok (Value.bool n) w : Result Value) = .ok v w ∧ Rep E w (.bool n) v:=fun n=>⟨_,rfl,.clo (.bool n)⟩
 have hk : ¬ k ≠ k:=fun e=>e rfl
 cases op <;> simp only [intA] at h <;> try (cases h; done)
 case add=>cases h; simp only [binOp,Op.intArith,if_neg hk]; exact int _
 case sub=>cases h; simp only [binOp,Op.intArith,if_neg hk]; exact int _
 case mul=>cases h; simp only [binOp,Op.intArith,if_neg hk]; exact int _
 case quo=>split at h <;> cases h; rename_i hb; simp only [binOp,Op.intDiv,if_neg hk,if_neg hb]; exact int _
 case rem=>split at h <;> cases h; rename_i hb; simp only [binOp,Op.intDiv,if_neg hk,if_neg hb]; exact int _
 case and=>cases h; simp only [binOp,Op.intBits,if_neg hk]; exact int _
 case or=>cases h; simp only [binOp,Op.intBits,if_neg hk]; exact int _
 case xor=>cases h; simp only [binOp,Op.intBits,if_neg hk]; exact int _
 case eql=>cases h; simp only [binOp,Op.intCmp,if_neg hk]; exact bl _
 case neq=>cases h; simp only [binOp,Op.intCmp,if_neg hk]; exact bl _
 case lss=>cases h; simp only [binOp,Op.intCmp,if_neg hk]; exact bl _
 case leq=>cases h; simp only [binOp,Op.intCmp,if_neg hk]; exact bl _
 case gtr=>cases h; simp only [binOp,Op.intCmp,if_neg hk]; exact bl _
 case geq=>cases h; simp only [binOp,Op.intCmp,if_neg hk]; exact bl _
 case shr=>split at h <;> cases h; rename_i hb; simp only [binOp,Op.shift,if_neg hb]; exact int _
end
end Go.Am

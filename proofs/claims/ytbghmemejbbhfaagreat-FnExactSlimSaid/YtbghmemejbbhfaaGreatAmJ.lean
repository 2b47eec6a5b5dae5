/- The operations that write: stores, appends, maps. -/
import Derived.Test.YtbghmemejbbhfaaGreatAmI
set_option linter.unusedVariables false
set_option linter.unusedSimpArgs false
namespace Go.Am
open Go

/-- What a step that may write comes to. -/
def okw (P : Program) (E : Env) (h : Heap) (w : World) (x : Sem Next) (v : AVal) (h' : Heap) : Prop :=
  ∃ u w' E', (x.run P w = .ok (.value u) w' ∨ (x.run P w = .ok .skip w' ∧ u = undef)) ∧ Sim E' h' w' ∧ Full E' h' ∧ Ext E h w E' h' w' ∧ Rep E' w' v u

theorem setCells_facts (b : Nat) : ∀ (vs : List Value) (o : Nat) (w : World), (w.setCells b o vs).heap.size = w.heap.size ∧ (w.setCells b o vs).os = w.os ∧ (w.setCells b o vs).tape = w.tape ∧ (w.setCells b o vs).output = w.output ∧ ∀ i, i ≠ b → (w.setCells b o vs).heap[i]? = w.heap[i]?
  | [], o, w => ⟨rfl, rfl, rfl, rfl, fun _ _ => rfl⟩
  | v :: vs, o, w => by
    obtain ⟨h1, h2, h3, h4, h5⟩ := setCells_facts b vs (o + 1) (w.setCell ⟨b, o, none⟩ v)
    refine ⟨by rw [World.setCells, h1]; simp [World.setCell], by rw [World.setCells, h2]; rfl, by rw [World.setCells, h3]; rfl, by rw [World.setCells, h4]; rfl, fun i hi => ?_⟩
    rw [World.setCells, h5 i hi]
    simp [World.setCell, Array.getElem?_modify, Ne.symm hi]

section
variable {P : Program} {E : Env} {w w' : World} {h : Heap}
/-- One own block is written. -/
theorem Sim.write (s : Sim E h w) {id b : Nat} {sl : Slot} {o' : AObj} (hm : E.m id = some sl) (hb : sl.blk = some b) (hlen : id < h.length)
    (hsize : w'.heap.size = w.heap.size) (hmem : ∀ i, i ≠ b → w'.heap[i]? = w.heap[i]?) (hos : w'.os = w.os) (ht : w'.tape = w.tape) (ho : w'.output = w.output)
    (hok : (∀ a v, Rep E w a v → Rep E w' a v) → ObjOk E w' o' sl) : Sim E (h.set id o') w' ∧ Ext E h w E (h.set id o') w' ∧ ∀ a v, Rep E w a v → Rep E w' a v := by
  have hx : Ext E h w E (h.set id o') w' := ⟨fun _ h => h, fun _ h => .inl h, fun c _ hn => hmem c fun e => hn (by subst e; exact ⟨id, sl, hm, hb⟩), fun _ _ h => .inl h, fun _ h => .inl h, by simp, by omega, hos, ht, ho⟩
  have hr : ∀ a v, Rep E w a v → Rep E w' a v := fun a v h => h.ext hx s
  refine ⟨⟨?_, s.inj, s.nS, fun c hc => by rw [hsize]; exact s.lt c hc, fun c hc => by rw [hsize]; exact s.Slt c hc⟩, hx, hr⟩
  intro k o s' hk hm'
  rw [List.getElem?_set] at hk
  split at hk
  · rename_i e
    subst e
    simp [hlen] at hk
    subst hk
    rw [hm] at hm'
    cases hm'
    exact hok hr
  · rename_i e
    exact (s.obj k o s' hk hm').mono hr fun c hc => hmem c fun ec => by subst ec; exact e (s.inj id k _ _ _ hm hm' hb hc)
theorem isCell_cells {u : AVal} (h : u.isCell = true) : u.cells = [u] := by cases u <;> first | rfl | cases h
theorem setA_cells {x x' : AVal} {off : Nat} {vs : List AVal} (h : setA x off vs = some x') (hc : vs.all AVal.isCell = true) :
    off + vs.length ≤ x.cells.length ∧ x'.cells.length = x.cells.length ∧ ∀ k, x'.cells[k]? = if off ≤ k ∧ k < off + vs.length then vs[k - off]? else x.cells[k]? := by
  have one : x.cells = [x] → off = 0 → vs = [x'] → off + vs.length ≤ x.cells.length ∧ x'.cells.length = x.cells.length ∧ ∀ k, x'.cells[k]? = if off ≤ k ∧ k < off + vs.length then vs[k - off]? else x.cells[k]? := by
    intro hx h0 hv
    subst h0 hv
    have h1 : x'.cells = [x'] := isCell_cells (by simpa using hc)
    rw [hx, h1]
    refine ⟨by simp, rfl, fun k => ?_⟩
    cases k with
    | zero => simp
    | succ k => simp
  cases x
  case agg cs =>
    simp only [setA] at h
    split at h
    · rename_i hle
      cases h
      refine ⟨hle, by simp [AVal.cells]; omega, fun k => splice_get cs vs off hle k⟩
    · cases h
  all_goals
    simp only [setA] at h
    split at h
    · cases h; exact one rfl rfl rfl
    · cases h
theorem run_storeAt_any (w : World) (b o : Nat) (ty : TypeId) (v : Value) (ht : w.there b o v.cells.size) (hi : (P.info? ty).map (·.size) = some v.cells.size) (h1 : ∀ c ∈ v.cells, c.oneCell' = true) :
    (Instr.storeAt ty (.pointer (some ⟨b, o, none⟩)) v).run P w = .ok () (w.setCells b o v.cells.toList) := by
  have := run_storeCells_cells (P := P) b o v.cells.toList 0 w (fun j hj => by simpa using (ht j (by simpa using hj)).1) (fun j hj => by simpa using (ht j (by simpa using hj)).2) (fun c hc => h1 c (by simpa using hc))
  cases hq : P.info? ty with
  | none => simp [hq] at hi
  | some i =>
    have hs : v.cells.size = i.size := by simp [hq] at hi; omega
    simp only [Nat.add_zero] at this
    simp [Instr.storeAt, Instr.sureAddr, storeVar, sizeOf, typeInfo, hq, hs, this]
theorem Rep.one {a : AVal} {v : Value} (h : Rep E w a v) (hc : a.cells.all AVal.isCell = true) : ∀ c ∈ v.cells, c.oneCell' = true := by
  intro c hcm
  obtain ⟨h1, h2⟩ := h.cells
  obtain ⟨j, hj, rfl⟩ := Array.mem_iff_getElem.1 hcm
  obtain ⟨x, hx⟩ := getElem?_some_of_lt (l := a.cells) (i := j) (by omega)
  obtain ⟨u, hu, hr⟩ := h2 j x hx
  rw [Array.getElem?_eq_getElem hj] at hu
  cases hu
  exact hr.isCell (List.all_eq_true.1 hc x (List.mem_of_getElem? hx))
/-- Cells that are written over others. -/
theorem cellsAt_write {b base off : Nat} {x x' : AVal} {v : Value} {a : AVal} (hr : Rep E w a v) (hx : CellsAt E w b base x) (hset : setA x off a.cells = some x') (hc : a.cells.all AVal.isCell = true)
    (hthere : ∀ j, j < a.cells.length → (w.cell? ⟨b, base + off + j, none⟩).isSome = true)
    (hmono : ∀ a v, Rep E w a v → Rep E (w.setCells b (base + off) v.cells.toList) a v → True) (hrep : ∀ a u, Rep E w a u → Rep E (w.setCells b (base + off) v.cells.toList) a u) : CellsAt E (w.setCells b (base + off) v.cells.toList) b base x' := by
  obtain ⟨h1, h2, h3⟩ := setA_cells hset hc
  obtain ⟨c1, c2⟩ := hr.cells
  intro j c hj
  rw [h3] at hj
  split at hj
  · rename_i hk
    obtain ⟨u, hu, hru⟩ := c2 _ c hj
    have hlt : j - off < v.cells.toList.length := by simp; have := hk.2; omega
    have := World.cell?_setCells_in b v.cells.toList (base + off) w (fun i hi => hthere i (by simpa [c1] using hi)) (j - off) hlt
    refine ⟨u, ?_, hrep _ _ hru⟩
    have e : base + off + (j - off) = base + j := by omega
    rw [e] at this
    rw [this]
    rw [← hu]
    simp
  · rename_i hk
    obtain ⟨u, hu, hru⟩ := hx j c hj
    refine ⟨u, ?_, hrep _ _ hru⟩
    rw [World.cell?_setCells_out b _ _ _ _ (fun _ _ => ?_), hu]
    have : v.cells.toList.length = a.cells.length := by simp [c1]
    rw [this]
    show base + j < base + off ∨ base + off + a.cells.length ≤ base + j
    omega
theorem store_sound (s : Sim E h w) (hf : Full E h) {t : TypeId} {a v : AVal} {va vv : Value} {h' : Heap} (hh : storeA P t a v h = some h') (ha : Rep E w a va) (hv : Rep E w v vv) :
    ∃ w', (Instr.storeAt t va vv).run P w = .ok () w' ∧ Sim E h' w' ∧ Full E h' ∧ Ext E h w E h' w' := by
  unfold storeA at hh
  split at hh
  · rename_i id i off bt sz ht
    obtain ⟨d, inf, hd, hi, _, hsz⟩ := tyk_some ht
    split at hh
    · rename_i hcell
      obtain ⟨hl, hall⟩ := hcell
      have hone := hv.one hall
      have hcs := hv.cells
      have hinf : (P.info? t).map (·.size) = some vv.cells.size := by rw [hi]; simp; omega
      cases ho : h[id]? with
      | none => simp [ho] at hh
      | some o =>
        have hlt : id < h.length := (List.getElem?_eq_some_iff.1 ho).1
        cases ha with
        | clo hc => cases hc
        | ptrD _ _ _ ad hm =>
          have := s.obj id o _ ho hm
          cases o <;> simp only [ObjOk] at this <;> simp [ho] at hh
        | ptr _ _ _ b csz bsz hm =>
          have hk := s.obj id o _ ho hm
          have go : ∀ (base : Nat) (x x' : AVal) (o' : AObj), base + x.cells.length ≤ csz → Row w b csz → CellsAt E w b base x → setA x off v.cells = some x' → i * bsz + off = base + off →
              ((∀ a u, Rep E w a u → Rep E (w.setCells b (base + off) vv.cells.toList) a u) → CellsAt E (w.setCells b (base + off) vv.cells.toList) b base x' → Row (w.setCells b (base + off) vv.cells.toList) b csz → x'.cells.length = x.cells.length →
                (∀ k, (k < base + off ∨ base + off + v.cells.length ≤ k) → (w.setCells b (base + off) vv.cells.toList).cell? ⟨b, k, none⟩ = w.cell? ⟨b, k, none⟩) → off + v.cells.length ≤ x.cells.length → ObjOk E (w.setCells b (base + off) vv.cells.toList) o' (.live b csz bsz)) →
              ∃ w', (Instr.storeAt t (.pointer (some ⟨b, i * bsz + off, none⟩)) vv).run P w = .ok () w' ∧ Sim E (h.set id o') w' ∧ Full E (h.set id o') ∧ Ext E h w E (h.set id o') w' := by
            intro base x x' o' hle hrow hca hset hbase hfin
            obtain ⟨c1, c2, c3⟩ := setA_cells hset hall
            obtain ⟨f1, f2, f3, f4, f5⟩ := setCells_facts b vv.cells.toList (base + off) w
            have hth : ∀ j, j < v.cells.length → (w.cell? ⟨b, base + off + j, none⟩).isSome = true := fun j hj => hrow.isSome (by omega)
            have hw := s.write (o' := o') hm rfl hlt f1 f5 f2 f3 f4 fun hrep =>
              hfin hrep (cellsAt_write hv hca hset hall hth (fun _ _ _ _ => trivial) hrep) (hrow.setCells b _ _ _) c2
                (fun k hk => World.cell?_setCells_out b _ _ _ _ fun _ _ => by simpa [← hcs.1] using hk) c1
            refine ⟨_, ?_, hw.1, fun k hk => hf k (by simpa using hk), hw.2.1⟩
            rw [hbase]
            exact run_storeAt_any w b (base + off) t vv (fun j hj => ⟨hth j (by omega), hrow.frozen _⟩) hinf hone
          cases o with
          | box x =>
            simp only [ObjOk] at hk
            obtain ⟨hrow, hle, hca⟩ := hk
            simp only [ho] at hh
            split at hh
            · rename_i hi0
              subst hi0
              simp only [Option.map_eq_some_iff] at hh
              obtain ⟨x', hx', rfl⟩ := hh
              exact go 0 x x' (.box x') (by omega) hrow hca hx' (by simp) fun hrep hca' hrow' hlen' hout hle' => ⟨hrow', by omega, hca'⟩
            · cases hh
          | arr sz' es =>
            simp only [ObjOk] at hk
            obtain ⟨rfl, hrow, hle, hs, hca⟩ := hk
            simp only [ho] at hh
            cases hx : es[i]? with
            | none => simp [hx] at hh
            | some x =>
              simp only [hx, Option.map_eq_some_iff] at hh
              obtain ⟨x', hx', rfl⟩ := hh
              have hil : i < es.length := (List.getElem?_eq_some_iff.1 hx).1
              have hxs := hs x (List.mem_of_getElem? hx)
              have hib : i * sz' + sz' ≤ csz := by
                have := Nat.mul_le_mul_right sz' (show i + 1 ≤ es.length from hil)
                rw [Nat.succ_mul] at this
                omega
              refine go (i * sz') x x' (.arr sz' (es.set i x')) (by omega) hrow (hca i x hx) hx' rfl fun hrep hca' hrow' hlen' hout hle' => ⟨rfl, hrow', by simpa using hle, fun y hy => ?_, fun k y hy => ?_⟩
              · rcases List.mem_or_eq_of_mem_set hy with hy | hy
                · exact hs y hy
                · subst hy; omega
              · rw [List.getElem?_set] at hy
                split at hy
                · rename_i e
                  subst e
                  simp [hil] at hy
                  subst hy
                  exact hca'
                · rename_i e
                  intro j c hj
                  obtain ⟨u, hu, hru⟩ := hca k y hy j c hj
                  refine ⟨u, ?_, hrep _ _ hru⟩
                  have hj' : j < sz' := by
                    rw [← hs y (List.mem_of_getElem? hy)]
                    exact (List.getElem?_eq_some_iff.1 hj).1
                  rw [hout, hu]
                  rcases Nat.lt_or_gt_of_ne e with h1 | h1
                  · right
                    have := Nat.mul_le_mul_right sz' (show i + 1 ≤ k from h1)
                    rw [Nat.succ_mul] at this
                    omega
                  · left
                    have := Nat.mul_le_mul_right sz' (show k + 1 ≤ i from h1)
                    rw [Nat.succ_mul] at this
                    omega
          | amap ks vs => simp [ho] at hh
          | iter q pos => simp [ho] at hh
          | dead => simp [ho] at hh
    · cases hh
  · cases hh
end
end Go.Am

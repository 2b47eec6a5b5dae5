/- The operations that write: stores, appends, maps. -/
import Derived.Test.YtebciagembenjaaDoorGSBmH
set_option linter.unusedVariables false
set_option linter.unusedSimpArgs false
/- The operations that read or make, all in one. -/
set_option maxHeartbeats 4000000
namespace Go.Am
open Go
def isMake : Op → Bool
 | .alloc _=>true
 | .box _ _=>true
 | .build _ _=>true
 | .buildSlice _ _ _=>true
 | .makeMap _ none=>true
 | .makeSlice _ _ _=>true
 | o=>isRead o
section
variable {cf : Cfg} {E : Env} {w : World} {tm : Nat → AVal} {ρ : Operand → Value} {H : Heap}
theorem okn.okx {x : Sem Next} {v : AVal} (s : Sim E H w) (h : okn cf.P E w x v) (lo hi : Nat) : okx cf.P E H w x v lo hi:=by
 obtain ⟨u,h1,h2⟩:=h
 exact ⟨u,w,E,h1,s,(Ext.refl E H w).toExt0,h2,fun k=>.inl rfl⟩
theorem last_prefix {h H : Heap} {o : AObj} (hp : h ++ [o] <+: H) : H[h.length]? = some o:=by
 obtain ⟨t,rfl⟩:=hp
 rw [List.append_assoc,List.getElem?_append_right (Nat.le_refl _)]
 simp
theorem okx.of {x : Sem Value} {v : AVal} {lo hi : Nat} {u : Value} {w' : World} {E' : Env} (hr : x.run cf.P w = .ok u w') (h1 : Sim E' H w') (h2 : Ext0 E H w E' H w') (h3 : Rep E' w' v u) (h4 : ∀ k,E'.m k = E.m k ∨ (lo ≤ k ∧ k < hi)) :
  okx cf.P E H w (do pure (.value (← x))) v lo hi:=⟨u,w',E',by simp [hr],h1,h2,h3,h4⟩
theorem make_sound' {h h' : Heap} (s : Sim E H w) {o : Oper} {v : AVal} (hm : isMake o.op = true) (hr : OpsRep cf.G E w tm ρ o.op.operands) (hv : opEval cf tm h o.op = some (.val v h')) (hp : isRead o.op = true → h' <+: H) (hlast : ∀ ob,h' = h ++ [ob] → H[h.length]? = some ob)
  (hn : ∀ k,h.length ≤ k → k < h'.length → E.m k = none) : h <+: h' ∧ okx cf.P E H w (execOp ρ o) v h.length h'.length:=by
   by_cases hrd : isRead o.op = true
   ·obtain ⟨v',he⟩:=isRead_val hrd hv
    cases he
    exact ⟨List.prefix_refl _,(read_sound (s.sub (hp hrd)) hrd hr hv).okx s _ _⟩
   obtain ⟨dst,op,ty,pos,after,guard⟩:=o
   simp only at hm hr hv hrd
   cases op <;> (try (exact absurd hm hrd)) <;> (try (simp only [isMake] at hm; cases hm; done))
   all_goals simp only [Op.operands] at hr
   all_goals simp only [opEval] at hv
   case alloc t=>
    simp only [Option.map_eq_some_iff] at hv
    obtain ⟨z,hz,he⟩:=hv
    cases he
    obtain ⟨i,zv,hi,hzz,hzr⟩:=zeroA_cells hz
    obtain ⟨E',h1,h2,h3,h4⟩:=new_box s (hn _ (Nat.le_refl _) (by simp [boxA])) t (hlast _ rfl) (hzr E w)
    refine ⟨⟨_,rfl⟩,okx.of ?_ h1 h2 h3 (by simpa [boxA] using h4)⟩
    simp [Instr.alloc,zeroValue,typeInfo,hi,hzz,newVar,newRow]
   case box t x=>
    simp only [Option.map_eq_some_iff] at hv
    obtain ⟨z,hz,he⟩:=hv
    cases he
    obtain ⟨E',h1,h2,h3,h4⟩:=new_box s (hn _ (Nat.le_refl _) (by simp [boxA])) t (hlast _ rfl) (hr x (by simp) _ hz).rel
    refine ⟨⟨_,rfl⟩,okx.of ?_ h1 h2 h3 (by simpa [boxA] using h4)⟩
    simp [Instr.box,newVar,newRow]
   case build t ps=>
    split at hv
    ·rename_i z vs hz hvs
     split at hv
     ·rename_i hok
      split at hv
      ·rename_i cs hcs
       cases hv
       refine ⟨List.prefix_refl _,(okv.next (build_sound hz hok (fun p hpp=>hr p.2 (by simp; exact ⟨p.1,by simpa using hpp⟩)) hvs hcs)).okx s _ _⟩
      ·cases hv
     ·cases hv
    ·cases hv
   case buildSlice t n ps=>
    split at hv
    ·rename_i et sz vs hs hvs
     split at hv
     ·rename_i hlim
      split at hv
      ·rename_i z hz
       split at hv
       ·rename_i hzs
        split at hv
        ·rename_i es hes
         cases hv
         obtain ⟨i,hu,hi,hisz,_,_⟩:=selA_some hs
         obtain ⟨i',zv,hi',hzz,hzr⟩:=zeroA_cells hz
         rw [hi] at hi'
         cases hi'
         have hfl:=made_flat (hzr E w) n
         rw [hzs] at hfl
         obtain ⟨rs,hrs,hrf,hlen⟩:=fillS_rel _ _ _ _ _ (parts_rel ps (fun p hpp=>hr p.2 (by simp; exact ⟨p.1,by simpa using hpp⟩)) vs hvs) hfl hes
         have hln : es.length = n:=by rw [hlen]; simp
         cases n with
         | zero=>
          obtain ⟨g1,g2⟩:=s.anon (.cells rs et)
          refine ⟨List.prefix_refl _,okx.of (run_buildSlice_any w t et 0 _ rs i zv hu hi hzz ?_ ?_) g1 g2 (.clo (.nil _)) fun k=>.inl rfl⟩
          ·simp
          ·rw [hisz]; exact hrs
         | succ n=>
         obtain ⟨E',h1,h2,h3,h4⟩:=new_row s (hn _ (Nat.le_refl _) (by simp [makeRow,newA])) (len:=n + 1) (cap:=n + 1) et (hlast _ rfl) hrf (Nat.le_refl _) (by omega)
         refine ⟨⟨_,rfl⟩,okx.of (run_buildSlice_any w t et (n + 1) _ rs i zv hu hi hzz ?_ ?_) h1 h2 ?_ (by simpa [makeRow,newA] using h4)⟩
         ·rw [hisz]
          have:=Nat.mul_le_mul hlim.1 hlim.2
          omega
         ·rw [hisz]; exact hrs
         ·simp only [makeRow,newA,hln]; exact h3
        ·cases hv
       ·cases hv
      ·cases hv
     ·cases hv
    ·cases hv
   case makeMap t r=>
    cases r with
    | some r=>simp [isMake,isRead] at hm
    | none=>
     simp only at hv
     cases hv
     obtain ⟨h1,h2⟩:=s.place (id:=h.length) (o:=.amap [] []) (.map #[] 0) (.mapS w.heap.size) (hlast _ rfl) (hn _ (Nat.le_refl _) (by simp)) rfl
      ⟨#[],0,heap_alloc_new w _,rfl,rfl,fun i k e hk=>by simp at hk,fun i k e hk=>by simp at hk⟩
     refine ⟨⟨_,rfl⟩,okx.of ?_ h1 h2 (.map _ _ (Env.put_same E _ _)) (fun k=>?_)⟩
     ·simp [Instr.makeMap]
     ·by_cases e : k = h.length
      ·right; simp; omega
      ·exact .inl (Env.put_other E _ e)
   case makeSlice t l c=>
    split at hv
    ·rename_i lv cv hl hc
     simp only [Option.map_eq_some_iff] at hv
     obtain ⟨q,hq,he⟩:=hv
     cases he
     unfold makeA at hq
     split at hq
     ·rename_i e sz kl l' kc c' hs
      split at hq
      ·rename_i hb
       split at hq
       ·rename_i z hz
        split at hq
        ·rename_i hzs
         cases hq
         obtain ⟨i,hu,hi,hisz,hby,_⟩:=selA_some hs
         obtain ⟨i',zv,hi',hzz,hzr⟩:=zeroA_cells hz
         rw [hi] at hi'
         cases hi'
         have hfl:=made_flat (hzr E w) c'.toNat
         rw [hzs] at hfl
         obtain ⟨hb0,hb1,hb2⟩:=hb
         obtain ⟨E',h1,h2,h3,h4⟩:=new_row s (hn _ (Nat.le_refl _) (by simp)) (len:=l'.toNat) (cap:=c'.toNat) e (hlast _ rfl) hfl (by omega) (by simp)
         refine ⟨⟨_,rfl⟩,okx.of (u:=.slice (some ⟨w.heap.size,0,none⟩) l'.toNat c'.toNat) ?_ h1 h2 h3 (by simpa using h4)⟩
         rw [(hr l (by simp) _ hl).int,(hr c (by simp) _ hc).int]
         have hmul : (i.bytes : Int) * c' ≤ 281474976710656:=by
          have e1 : (c'.toNat : Int) = c':=by omega
          have e2 : c'.toNat ≤ 4294967296:=by unfold sizeLim at hb2; omega
          have e3:=Nat.mul_le_mul hby e2
          have e4 : ((i.bytes * c'.toNat : Nat) : Int) = (i.bytes : Int) * c':=by rw [Int.natCast_mul,e1]
          rw [← e4]
          omega
         rw [run_make (P:=cf.P) w t e i zv hu hi hzz kl kc l' c' hb0 hb1 hmul (by unfold sizeLim at hb2; omega),hisz]
        ·cases hq
       ·cases hq
      ·cases hq
     ·cases hq
    ·cases hv
theorem make_sound {h h' : Heap} (s : Sim E H w) {o : Oper} {v : AVal} (hm : isMake o.op = true) (hr : OpsRep cf.G E w tm ρ o.op.operands) (hv : opEval cf tm h o.op = some (.val v h')) (hp : h' <+: H)
  (hn : ∀ k,h.length ≤ k → k < h'.length → E.m k = none) : h <+: h' ∧ okx cf.P E H w (execOp ρ o) v h.length h'.length:=
   make_sound' s hm hr hv (fun _=>hp) (fun ob e=>last_prefix (e ▸ hp)) hn
end
end Go.Am
/- The operations that write: stores, appends, maps. -/
set_option maxHeartbeats 4000000
namespace Go.Am
open Go
def okw (P : Program) (E : Env) (h : Heap) (w : World) (x : Sem Next) (v : AVal) (h' : Heap) : Prop:=
 ∃ u w' E',(x.run P w = .ok (.value u) w' ∨ (x.run P w = .ok .skip w' ∧ u = undef)) ∧ Sim E' h' w' ∧ Full E' h' ∧ Ext E h w E' h' w' ∧ Rep E' w' v u
theorem setCells_facts (b : Nat) : ∀ (vs : List Value) (o : Nat) (w : World),(w.setCells b o vs).heap.size = w.heap.size ∧ (w.setCells b o vs).os = w.os ∧ (w.setCells b o vs).tape = w.tape ∧ (w.setCells b o vs).output = w.output ∧ ∀ i,i ≠ b → (w.setCells b o vs).heap[i]? = w.heap[i]?
 | [],o,w=>⟨rfl,rfl,rfl,rfl,fun _ _=>rfl⟩
 | v :: vs,o,w=>by
  obtain ⟨h1,h2,h3,h4,h5⟩:=setCells_facts b vs (o + 1) (w.setCell ⟨b,o,none⟩ v)
  refine ⟨by rw [World.setCells,h1]; simp [World.setCell],by rw [World.setCells,h2]; rfl,by rw [World.setCells,h3]; rfl,by rw [World.setCells,h4]; rfl,fun i hi=>?_⟩
  rw [World.setCells,h5 i hi]
  simp [World.setCell,Array.getElem?_modify,Ne.symm hi]
section
variable {P : Program} {E : Env} {w w' : World} {h : Heap}
theorem Sim.write (s : Sim E h w) {id b : Nat} {sl : Slot} {o' : AObj} (hm : E.m id = some sl) (hb : sl.blk = some b) (hlen : id < h.length)
  (hsize : w'.heap.size = w.heap.size) (hmem : ∀ i,i ≠ b → w'.heap[i]? = w.heap[i]?) (hos : w'.os = w.os) (ht : w'.tape = w.tape) (ho : w'.output = w.output)
  (hok : (∀ a v,Rep E w a v → Rep E w' a v) → ObjOk E w' o' sl) : Sim E (h.set id o') w' ∧ Ext E h w E (h.set id o') w' ∧ ∀ a v,Rep E w a v → Rep E w' a v:=by
   have hx : Ext E h w E (h.set id o') w':=⟨⟨fun _ h=>h,fun _ h=>.inl h,fun c _ hn=>hmem c fun e=>hn (by subst e; exact ⟨id,sl,hm,hb⟩),fun _ _ h=>.inl h,fun _ h=>.inl h,by simp,by omega,hos,ht,ho⟩,fun _ _ h=>h⟩
   have hr : ∀ a v,Rep E w a v → Rep E w' a v:=fun a v h=>h.ext hx s
   refine ⟨⟨?_,s.inj,s.nS,fun c hc=>by rw [hsize]; exact s.lt c hc,fun c hc=>by rw [hsize]; exact s.Slt c hc⟩,hx,hr⟩
   intro k o s' hk hm'
   rw [List.getElem?_set] at hk
   split at hk
   ·rename_i e
    subst e
    simp [hlen] at hk
    subst hk
    rw [hm] at hm'
    cases hm'
    exact hok hr
   ·rename_i e
    exact (s.obj k o s' hk hm').mono hr fun c hc=>hmem c fun ec=>by subst ec; exact e (s.inj id k _ _ _ hm hm' hb hc)
theorem isCell_cells {u : AVal} (h : u.isCell = true) : u.cells = [u]:=by cases u <;> first | rfl | cases h
theorem setA_cells {x x' : AVal} {off : Nat} {vs : List AVal} (h : setA x off vs = some x') (hc : vs.all AVal.isCell = true) :
  off + vs.length ≤ x.cells.length ∧ x'.cells.length = x.cells.length ∧ ∀ k,x'.cells[k]? = if off ≤ k ∧ k < off + vs.length then vs[k - off]? else x.cells[k]?:=by
   have one : x.cells = [x] → off = 0 → vs = [x'] → off + vs.length ≤ x.cells.length ∧ x'.cells.length = x.cells.length ∧ ∀ k,x'.cells[k]? = if off ≤ k ∧ k < off + vs.length then vs[k - off]? else x.cells[k]?:=by
    intro hx h0 hv
    subst h0 hv
    have h1 : x'.cells = [x']:=isCell_cells (by simpa using hc)
    rw [hx,h1]
    refine ⟨by simp,rfl,fun k=>?_⟩
    cases k with
    | zero=>simp
    | succ k=>simp
   cases x
   case agg cs=>
    simp only [setA] at h
    split at h
    ·rename_i hle
     cases h
     refine ⟨hle,by simp [AVal.cells]; omega,fun k=>splice_get cs vs off hle k⟩
    ·cases h
   all_goals
    simp only [setA] at h
    split at h
    ·cases h; exact one rfl rfl rfl
    ·cases h
theorem run_storeAt_any (w : World) (b o : Nat) (ty : TypeId) (v : Value) (ht : w.there b o v.cells.size) (hi : (P.info? ty).map (·.size) = some v.cells.size) (h1 : ∀ c ∈ v.cells,c.oneCell' = true) :
  (Instr.storeAt ty (.pointer (some ⟨b,o,none⟩)) v).run P w = .ok () (w.setCells b o v.cells.toList):=by
   have:=run_storeCells_cells (P:=P) b o v.cells.toList 0 w (fun j hj=>by simpa using (ht j (by simpa using hj)).1) (fun j hj=>by simpa using (ht j (by simpa using hj)).2) (fun c hc=>h1 c (by simpa using hc))
   cases hq : P.info? ty with
   | none=>simp [hq] at hi
   | some i=>
    have hs : v.cells.size = i.size:=by simp [hq] at hi; omega
    simp only [Nat.add_zero] at this
    simp [Instr.storeAt,Instr.sureAddr,storeVar,sizeOf,typeInfo,hq,hs,this]
theorem Rep.one {a : AVal} {v : Value} (h : Rep E w a v) (hc : a.cells.all AVal.isCell = true) : ∀ c ∈ v.cells,c.oneCell' = true:=by
 intro c hcm
 obtain ⟨h1,h2⟩:=h.cells
 obtain ⟨j,hj,rfl⟩:=Array.mem_iff_getElem.1 hcm
 obtain ⟨x,hx⟩:=getElem?_some_of_lt (l:=a.cells) (i:=j) (by omega)
 obtain ⟨u,hu,hr⟩:=h2 j x hx
 rw [Array.getElem?_eq_getElem hj] at hu
 cases hu
 exact hr.isCell (List.all_eq_true.1 hc x (List.mem_of_getElem? hx))
theorem cellsAt_write {b base off : Nat} {x x' : AVal} {v : Value} {a : AVal} (hr : Rep E w a v) (hx : CellsAt E w b base x) (hset : setA x off a.cells = some x') (hc : a.cells.all AVal.isCell = true)
  (hthere : ∀ j,j < a.cells.length → (w.cell? ⟨b,base + off + j,none⟩).isSome = true)
  (hmono : ∀ a v,Rep E w a v → Rep E (w.setCells b (base + off) v.cells.toList) a v → True) (hrep : ∀ a u,Rep E w a u → Rep E (w.setCells b (base + off) v.cells.toList) a u) : CellsAt E (w.setCells b (base + off) v.cells.toList) b base x':=by
   obtain ⟨h1,h2,h3⟩:=setA_cells hset hc
   obtain ⟨c1,c2⟩:=hr.cells
   intro j c hj
   rw [h3] at hj
   split at hj
   ·rename_i hk
    obtain ⟨u,hu,hru⟩:=c2 _ c hj
    have hlt : j - off < v.cells.toList.length:=by simp; have:=hk.2; omega
    have:=World.cell?_setCells_in b v.cells.toList (base + off) w (fun i hi=>hthere i (by simpa [c1] using hi)) (j - off) hlt
    refine ⟨u,?_,hrep _ _ hru⟩
    have e : base + off + (j - off) = base + j:=by omega
    rw [e] at this
    rw [this]
    rw [← hu]
    simp
   ·rename_i hk
    obtain ⟨u,hu,hru⟩:=hx j c hj
    refine ⟨u,?_,hrep _ _ hru⟩
    rw [World.cell?_setCells_out b _ _ _ _ (fun _ _=>?_),hu]
    have : v.cells.toList.length = a.cells.length:=by simp [c1]
    rw [this]
    show base + j < base + off ∨ base + off + a.cells.length ≤ base + j
    omega
theorem store_sound (s : Sim E h w) (hf : Full E h) {t : TypeId} {a v : AVal} {va vv : Value} {h' : Heap} (hh : storeA P t a v h = some h') (ha : Rep E w a va) (hv : Rep E w v vv) :
  ∃ w',(Instr.storeAt t va vv).run P w = .ok () w' ∧ Sim E h' w' ∧ Full E h' ∧ Ext E h w E h' w':=by
   unfold storeA at hh
   split at hh
   ·rename_i id i off bt sz ht
    obtain ⟨d,inf,hd,hi,_,hsz⟩:=tyk_some ht
    split at hh
    ·rename_i hcell
     obtain ⟨hl,hall⟩:=hcell
     have hone:=hv.one hall
     have hcs:=hv.cells
     have hinf : (P.info? t).map (·.size) = some vv.cells.size:=by rw [hi]; simp; omega
     cases ho : h[id]? with
     | none=>simp [ho] at hh
     | some o=>
      have hlt : id < h.length:=(List.getElem?_eq_some_iff.1 ho).1
      cases ha with
      | clo hc=>cases hc
      | ptrD _ _ _ ad hm=>
       have:=s.obj id o _ ho hm
       cases o <;> simp only [ObjOk] at this <;> simp [ho] at hh
      | ptr _ _ _ b csz bsz hm=>
       have hk:=s.obj id o _ ho hm
       have go : ∀ (base : Nat) (x x' : AVal) (o' : AObj),base + x.cells.length ≤ csz → Row w b csz → CellsAt E w b base x → setA x off v.cells = some x' → i * bsz + off = base + off →
         ((∀ a u, Rep E w a u → Rep E (w.setCells b (base + off) vv.cells.toList) a u) → CellsAt E (w.setCells b (base + off) vv.cells.toList) b base x' → Row (w.setCells b (base + off) vv.cells.toList) b csz → x'.cells.length = x.cells.length →
           (∀ k,(k < base + off ∨ base + off + v.cells.length ≤ k) → (w.setCells b (base + off) vv.cells.toList).cell? ⟨b,k,none⟩ = w.cell? ⟨b,k,none⟩) → off + v.cells.length ≤ x.cells.length → ObjOk E (w.setCells b (base + off) vv.cells.toList) o' (.live b csz bsz)) →
         ∃ w',(Instr.storeAt t (.pointer (some ⟨b,i * bsz + off,none⟩)) vv).run P w = .ok () w' ∧ Sim E (h.set id o') w' ∧ Full E (h.set id o') ∧ Ext E h w E (h.set id o') w':=by
          intro base x x' o' hle hrow hca hset hbase hfin
          obtain ⟨c1,c2,c3⟩:=setA_cells hset hall
          obtain ⟨f1,f2,f3,f4,f5⟩:=setCells_facts b vv.cells.toList (base + off) w
          have hth : ∀ j,j < v.cells.length → (w.cell? ⟨b,base + off + j,none⟩).isSome = true:=fun j hj=>hrow.isSome (by omega)
          have hw:=s.write (o':=o') hm rfl hlt f1 f5 f2 f3 f4 fun hrep=>
           hfin hrep (cellsAt_write hv hca hset hall hth (fun _ _ _ _=>trivial) hrep) (hrow.setCells b _ _ _) c2
            (fun k hk=>World.cell?_setCells_out b _ _ _ _ fun _ _=>by simpa [← hcs.1] using hk) c1
          refine ⟨_,?_,hw.1,fun k hk=>hf k (by simpa using hk),hw.2.1⟩
          rw [hbase]
          exact run_storeAt_any w b (base + off) t vv (fun j hj=>⟨hth j (by omega),hrow.frozen _⟩) hinf hone
       cases o with
       | box x=>
        simp only [ObjOk] at hk
        obtain ⟨hrow,hle,hca⟩:=hk
        simp only [ho] at hh
        split at hh
        ·rename_i hi0
         subst hi0
         simp only [Option.map_eq_some_iff] at hh
         obtain ⟨x',hx',rfl⟩:=hh
         exact go 0 x x' (.box x') (by omega) hrow hca hx' (by simp) fun hrep hca' hrow' hlen' hout hle'=>⟨hrow',by omega,hca'⟩
        ·cases hh
       | arr sz' es=>
        simp only [ObjOk] at hk
        obtain ⟨rfl,hrow,hle,hs,hca⟩:=hk
        simp only [ho] at hh
        cases hx : es[i]? with
        | none=>simp [hx] at hh
        | some x=>
         simp only [hx,Option.map_eq_some_iff] at hh
         obtain ⟨x',hx',rfl⟩:=hh
         have hil : i < es.length:=(List.getElem?_eq_some_iff.1 hx).1
         have hxs:=hs x (List.mem_of_getElem? hx)
         have hib : i * sz' + sz' ≤ csz:=by
          have:=Nat.mul_le_mul_right sz' (show i + 1 ≤ es.length from hil)
          rw [Nat.succ_mul] at this
          omega
         refine go (i * sz') x x' (.arr sz' (es.set i x')) (by omega) hrow (hca i x hx) hx' rfl fun hrep hca' hrow' hlen' hout hle'=>⟨rfl,hrow',by simpa using hle,fun y hy=>?_,fun k y hy=>?_⟩
         ·rcases List.mem_or_eq_of_mem_set hy with hy | hy
          ·exact hs y hy
          ·subst hy; omega
         ·rw [List.getElem?_set] at hy
          split at hy
          ·rename_i e
           subst e
           simp [hil] at hy
           subst hy
           exact hca'
          ·rename_i e
           intro j c hj
           obtain ⟨u,hu,hru⟩:=hca k y hy j c hj
           refine ⟨u,?_,hrep _ _ hru⟩
           have hj' : j < sz':=by
            rw [← hs y (List.mem_of_getElem? hy)]
            exact (List.getElem?_eq_some_iff.1 hj).1
           rw [hout,hu]
           rcases Nat.lt_or_gt_of_ne e with h1 | h1
           ·right
            have:=Nat.mul_le_mul_right sz' (show i + 1 ≤ k from h1)
            rw [Nat.succ_mul] at this
            omega
           ·left
            have:=Nat.mul_le_mul_right sz' (show k + 1 ≤ i from h1)
            rw [Nat.succ_mul] at this
            omega
       | amap ks vs=>simp [ho] at hh
       | iter q pos=>simp [ho] at hh
       | dead=>simp [ho] at hh
    ·cases hh
   ·cases hh
end
end Go.Am

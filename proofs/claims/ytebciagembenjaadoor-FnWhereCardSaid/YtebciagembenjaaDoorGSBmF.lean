/- Each operation that leaves the memory alone does on values what Am says: slices, places, maps that are read; all such operations in one. -/
import Derived.Test.YtebciagembenjaaDoorGSBmE
import Derived.MapKept
set_option linter.unusedVariables false
set_option linter.unusedSimpArgs false
/- Each operation that leaves the memory alone does on values what Am says: slices, places, maps that are read; all such operations in one. -/
set_option maxHeartbeats 4000000
namespace Go.Am
open Go MapKept
section
variable {P : Program} {E : Env} {w : World}
theorem Rep.map' {id : Nat} {v : Value} (h : Rep E w (.map id) v) : ∃ b,v = .map (some b) ∧ (E.m id = some (.mapS b) ∨ E.m id = some .dead):=by
 cases h with
 | clo h=>cases h
 | map _ b hm=>exact ⟨b,rfl,.inl hm⟩
 | mapD _ b hm=>exact ⟨b,rfl,.inr hm⟩
theorem Rep.nilm' {v : Value} (h : Rep E w .nilm v) : v = .map none:=by cases h with | clo h=>cases h; rfl
theorem selA_some {t e : TypeId} {sz : Nat} (h : selA P t = some (e,sz)) : ∃ i,P.underlying t = some (.slice e) ∧ P.info? e = some i ∧ i.size = sz ∧ i.bytes ≤ 4096 ∧ sz ≤ 4096 ∧ ∃ z,i.zero = some z ∧ z.cells.size = sz:=by
 unfold selA at h
 split at h
 ·rename_i e' hu
  split at h
  ·rename_i i hi
   split at h
   ·rename_i hc
    cases h
    obtain ⟨h1,h2,h3⟩:=hc
    simp only [Option.map_eq_some_iff] at h3
    exact ⟨i,hu,hi,rfl,h1,h2,h3⟩
   ·cases h
  ·cases h
 ·cases h
theorem arrA_some {t e : TypeId} {n sz : Nat} (h : arrA P t = some (n,e,sz)) : ∃ i,P.underlying t = some (.array n e) ∧ P.info? e = some i ∧ i.size = sz:=by
 unfold arrA at h
 split at h
 ·rename_i n' e' hu
  split at h
  ·rename_i i hi
   cases h
   exact ⟨i,hu,hi,rfl⟩
  ·cases h
 ·cases h
theorem run_sizeOf' {e : TypeId} {i : TypeInfo} (hi : P.info? e = some i) (w : World) : (sizeOf e).run P w = .ok i.size w:=by simp [sizeOf,typeInfo,hi]
theorem run_bounds (b : Bool) (len cap : Nat) (lo hi : Option Int) (lov hiv : Option Value) (hl : ∀ i,lo = some i → ∃ k,lov = some (.int k i)) (hln : lo = none → lov = none)
  (hh : ∀ i,hi = some i → ∃ k,hiv = some (.int k i)) (hhn : hi = none → hiv = none) (h0 : 0 ≤ lo.getD 0) (h1 : lo.getD 0 ≤ hi.getD len) (h2 : hi.getD len ≤ cap) :
  (Instr.sliceBounds b len cap lov hiv none).run P w = .ok ((lo.getD 0).toNat,(hi.getD len).toNat,cap) w:=by
   have e1 : ((if b = true then BoundsCode.sliceAcap else .sliceAlen) : BoundsCode) = if b = true then BoundsCode.sliceAcap else .sliceAlen:=rfl
   cases hi with
   | none=>
    have:=hhn rfl
    subst this
    cases lo with
    | none=>
     have:=hln rfl
     subst this
     simp [Instr.sliceBounds]
    | some l=>
     obtain ⟨k,rfl⟩:=hl l rfl
     simp at h0 h1
     simp [Instr.sliceBounds,run_sliceBound w k l len _ h0 h1]
   | some u=>
    obtain ⟨k',rfl⟩:=hh u rfl
    simp at h1 h2
    cases lo with
    | none=>
     have:=hln rfl
     subst this
     simp at h1
     simp [Instr.sliceBounds,run_sliceBound w k' u cap _ h1 h2]
    | some l=>
     obtain ⟨k,rfl⟩:=hl l rfl
     simp at h0 h1
     have hu : l ≤ (u.toNat : Int):=by omega
     simp [Instr.sliceBounds,run_sliceBound w k' u cap _ (by omega) h2,run_sliceBound w k l u.toNat _ h0 hu]
theorem run_sliceAt_of {t e : TypeId} {i : TypeInfo} (ht : P.underlying t = some (.slice e)) (hi : P.info? e = some i) {a : Option Addr} {len cap l u : Nat} {lov hiv : Option Value}
  (hb : (Instr.sliceBounds true len cap lov hiv none).run P w = .ok (l,u,cap) w) :
  (Instr.sliceAt t (.slice a len cap) lov hiv none).run P w = .ok (.slice (if cap = l then a else a.map (·.add (l * i.size))) (u - l) (cap - l)) w:=by
   unfold Instr.sliceAt
   rw [Sem.run_bind,run_underlying ht,Result.andThen_ok]
   simp only [Instr.slice,Sem.run_bind,run_underlying ht,Result.andThen_ok,hb,run_sizeOf' hi,Sem.run_pure]
theorem sl_sub {xs : List AVal} {a : Option Addr} {cap sz l u : Nat} (h : RepC E.S w (.sl xs) (.slice a xs.length cap)) (hlu : l ≤ u) (hu : u ≤ xs.length) (hsz : xs.all (fun y=>y.cells.length == sz) = true) :
  RepC E.S w (.sl ((xs.drop l).take (u - l))) (.slice (if cap = l then a else a.map (·.add (l * sz))) (u - l) (cap - l)):=by
   cases h with
   | sl _ _ _ s b o vs ha hcap hs hc hr=>
    have hlen : ((xs.drop l).take (u - l)).length = u - l:=by simp; omega
    by_cases he : u - l = 0
    ·have h0 : (xs.drop l).take (u - l) = []:=List.eq_nil_of_length_eq_zero (by omega)
     rw [h0]
     have:=RepC.sl (S:=E.S) (w:=w) [] (if cap = l then a else a.map (·.add (l * sz))) (cap - l) 0 0 0 (fun _ _=>undef) (fun h=>absurd rfl h) (Nat.zero_le _) (fun x hx=>by simp at hx) (fun i j x c hx=>by simp at hx) (fun i j x c hx=>by simp at hx)
     rw [he]
     exact this
    ·have hxl : l < xs.length:=by omega
     obtain ⟨x0,hx0⟩:=getElem?_some_of_lt hxl
     have hm0 : x0 ∈ xs:=List.mem_of_getElem? hx0
     have hs0 : s = sz:=by
      have h1:=hs x0 hm0
      have h2:=List.all_eq_true.1 hsz x0 hm0
      simp at h2
      omega
     subst hs0
     have hne : xs ≠ []:=List.ne_nil_of_mem hm0
     have hne' : cap ≠ l:=by omega
     rw [if_neg hne',ha hne]
     have key:=RepC.sl (S:=E.S) (w:=w) ((xs.drop l).take (u - l)) (some ⟨b,o + l * s,none⟩) (cap - l) s b (o + l * s) (fun i j=>vs (l + i) j) (fun _=>rfl) (by omega)
      (fun x hx=>hs x (List.mem_of_mem_drop (List.mem_of_mem_take hx)))
      (fun i j x c hx hcc=>by
       have hi : i < u - l:=by have:=(List.getElem?_eq_some_iff.1 hx).1; omega
       rw [List.getElem?_take,if_pos hi,List.getElem?_drop] at hx
       obtain ⟨h1,h2⟩:=hc _ j x c hx hcc
       refine ⟨h1,?_⟩
       rw [← h2,Nat.add_mul,Nat.add_assoc,Nat.add_assoc])
      (fun i j x c hx hcc=>by
       have hi : i < u - l:=by have:=(List.getElem?_eq_some_iff.1 hx).1; omega
       rw [List.getElem?_take,if_pos hi,List.getElem?_drop] at hx
       exact hr _ j x c hx hcc)
     rw [hlen] at key
     rw [Option.map_some,Addr.add_mid]
     exact key
theorem slice_sound {h : Heap} (s : Sim E h w) {t : TypeId} {x r : AVal} {vx : Value} {lo hi : Option Int} {lov hiv : Option Value} (hh : sliceA P t x lo hi none h = some r) (hx : Rep E w x vx)
  (hl : ∀ i,lo = some i → ∃ k,lov = some (.int k i)) (hln : lo = none → lov = none) (hhi : ∀ i,hi = some i → ∃ k,hiv = some (.int k i)) (hhn : hi = none → hiv = none) :
  okv P E w (Instr.sliceAt t vx lov hiv none) r:=by
   unfold sliceA at hh
   split at hh
   ·rename_i q _
    split at hh
    ·rename_i hu
     dsimp only at hh
     split at hh
     ·rename_i hc
      cases hh
      obtain rfl:=hx.str
      obtain ⟨h0,h1,h2⟩:=hc
      refine okv.str ?_
      unfold Instr.sliceAt
      rw [Sem.run_bind,run_underlying hu,Result.andThen_ok]
      have hb:=run_bounds (P:=P) (w:=w) false q.size q.size lo hi lov hiv hl hln hhi hhn h0 h1 h2
      simp only [Instr.slice,Sem.run_bind,run_underlying hu,Result.andThen_ok]
      simp [hb]
     ·cases hh
    ·cases hh
   ·rename_i xs _
    split at hh
    ·rename_i e sz hsel
     obtain ⟨i,hu,hi',rfl,_,_⟩:=selA_some hsel
     dsimp only at hh
     split at hh
     ·rename_i hc
      cases hh
      obtain ⟨h0,h1,h2,h3⟩:=hc
      cases hx with
      | clo hc=>
       cases hc with
       | sl _ a cap s b o vs ha hcap hs hc hr=>
        have hb:=run_bounds (P:=P) (w:=w) true xs.length cap lo hi lov hiv hl hln hhi hhn h0 h1 (by omega)
        refine ⟨_,run_sliceAt_of hu hi' hb,.clo (sl_sub (sz:=i.size) (.sl xs a cap s b o vs ha hcap hs hc hr) (by omega) (by omega) (by simpa using h3))⟩
     ·cases hh
    ·cases hh
   ·rename_i id st len _
    split at hh
    ·rename_i e sz sz' es hsel ho
     obtain ⟨i,hu,hi',rfl,_,_⟩:=selA_some hsel
     dsimp only at hh
     split at hh
     ·rename_i hc
      cases hh
      obtain ⟨h0,h1,h2,h3⟩:=hc
      subst h3
      cases hx with
      | clo hc=>cases hc
      | ownD _ _ _ a cap hm hcap=>
       have:=s.obj id _ _ ho hm
       simp [ObjOk] at this
      | own _ _ _ a cap b csz sz hm hcap hp=>
       have hk:=s.obj id _ _ ho hm
       simp only [ObjOk] at hk
       obtain ⟨rfl,_⟩:=hk
       have hb:=run_bounds (P:=P) (w:=w) true len cap lo hi lov hiv hl hln hhi hhn h0 h1 (by omega)
       refine ⟨_,run_sliceAt_of hu hi' hb,?_⟩
       refine .own id _ _ _ _ b csz i.size hm (by omega) ?_
       rcases hp with ⟨hp1,hp2⟩ | ⟨rfl,hp2⟩
       ·left; omega
       ·by_cases hcl : cap = (lo.getD 0).toNat
        ·left; omega
        ·right
         rw [if_neg hcl]
         refine ⟨by simp [Addr.add,Nat.add_mul],?_⟩
         have : st + (lo.getD 0).toNat + (cap - (lo.getD 0).toNat) = st + cap:=by omega
         rw [this]
         exact hp2
     ·cases hh
    ·cases hh
   ·split at hh
    ·rename_i q hsel
     obtain ⟨e,sz⟩:=q
     obtain ⟨i,hu,hi',rfl,_,_⟩:=selA_some hsel
     split at hh
     ·rename_i hc
      cases hh
      obtain ⟨h0,h1⟩:=hc
      cases hx with
      | clo hc=>
       cases hc with
       | nil a=>
        have hb:=run_bounds (P:=P) (w:=w) true 0 0 lo hi lov hiv hl hln hhi hhn (by omega) (by simp; omega) (by simp; omega)
        have hr:=run_sliceAt_of hu hi' (a:=a) hb
        rw [h0] at hr
        refine ⟨_,hr,.clo ?_⟩
        have e1 : (hi.getD ((0 : Nat) : Int)).toNat - (0 : Int).toNat = 0:=by simp [h1]
        rw [e1]
        exact .nil _
     ·cases hh
    ·cases hh
   ·cases hh
theorem addr_sound {h : Heap} (s : Sim E h w) {t : TypeId} {x r : AVal} {vx : Value} {i : Int} {k : IntKind} (hh : addrA P t x i h = some r) (hx : Rep E w x vx) : okv P E w (Instr.indexAt t vx (.int k i)) r:=by
 have runS : ∀ {e : TypeId} {inf : TypeInfo} {a : Addr} {len cap : Nat},P.underlying t = some (.slice e) → P.info? e = some inf → 0 ≤ i → i < len →
   (Instr.indexAt t (.slice (some a) len cap) (.int k i)).run P w = .ok (.pointer (some (a.add (i.toNat * inf.size)))) w:=by
    intro e inf a len cap hu hi h0 h1
    simp [Instr.indexAt,run_underlying hu,asIntOf,h0,h1,run_sizeOf' hi]
 have runA : ∀ {e : TypeId} {n : Nat} {inf : TypeInfo} {a : Addr},P.underlying t = some (.array n e) → P.info? e = some inf → 0 ≤ i → i < n →
   (Instr.indexAt t (.pointer (some a)) (.int k i)).run P w = .ok (.pointer (some (a.add (i.toNat * inf.size)))) w:=by
    intro e n inf a hu hi h0 h1
    simp [Instr.indexAt,run_underlying hu,asIntOf,Instr.sureAddr,h0,h1,run_sizeOf' hi]
 unfold addrA at hh
 split at hh
 ·rename_i id st len
  split at hh
  ·rename_i e sz sz' es hsel ho
   obtain ⟨inf,hu,hi',rfl,_,_⟩:=selA_some hsel
   split at hh
   ·rename_i hc
    cases hh
    obtain ⟨h0,h1,rfl⟩:=hc
    cases hx with
    | clo hc=>cases hc
    | ownD _ _ _ a cap hm hcap=>
     have:=s.obj id _ _ ho hm
     simp [ObjOk] at this
    | own _ _ _ a cap b csz sz hm hcap hp=>
     have hk:=s.obj id _ _ ho hm
     simp only [ObjOk] at hk
     obtain ⟨rfl,_⟩:=hk
     rcases hp with ⟨hp1,hp2⟩ | ⟨rfl,hp2⟩
     ·omega
     ·refine ⟨_,runS hu hi' h0 h1,?_⟩
      have e1 : (Addr.add ⟨b,st * inf.size,none⟩ (i.toNat * inf.size)) = ⟨b,(st + i.toNat) * inf.size + 0,none⟩:=by simp [Addr.add,Nat.add_mul]
      rw [e1]
      exact .ptr id _ 0 b csz inf.size hm
   ·cases hh
  ·cases hh
 ·rename_i xs
  split at hh
  ·rename_i e sz x0 hsel hx0
   obtain ⟨inf,hu,hi',rfl,_,_⟩:=selA_some hsel
   split at hh
   ·rename_i hc
    cases hh
    obtain ⟨h0,h1⟩:=hc
    cases hx with
    | clo hc=>
     cases hc with
     | sl _ a cap s b o vs ha hcap hs hc hr=>
      have hlt : i.toNat < xs.length:=(List.getElem?_eq_some_iff.1 hx0).1
      have hm0:=List.mem_of_getElem? hx0
      have hsz : s = inf.size:=by have:=hs x0 hm0; omega
      subst hsz
      rw [ha (List.ne_nil_of_mem hm0)]
      refine ⟨_,runS hu hi' h0 (by omega),?_⟩
      have e1 : (Addr.add ⟨b,o,none⟩ (i.toNat * inf.size)) = ⟨b,o + i.toNat * inf.size + (0 * inf.size + 0),none⟩:=by simp [Addr.add]
      rw [e1]
      refine .clo (.iptr [x0] 0 0 inf.size b (o + i.toNat * inf.size) (fun _ j=>vs i.toNat j) (fun x hx=>by simp at hx; subst hx; exact h1) (fun n j x c hx hcc=>?_) (fun n j x c hx hcc=>?_))
      ·cases n with
       | zero=>
        simp at hx
        subst hx
        obtain ⟨g1,g2⟩:=hc i.toNat j x0 c hx0 hcc
        exact ⟨g1,by rw [← g2]; simp [Nat.add_assoc]⟩
       | succ n=>simp at hx
      ·cases n with
       | zero=>simp at hx; subst hx; exact hr i.toNat j x0 c hx0 hcc
       | succ n=>simp at hx
   ·cases hh
  ·cases hh
 ·rename_i id j off
  split at hh
  ·rename_i n e sz harr
   obtain ⟨inf,hu,hi',rfl⟩:=arrA_some harr
   split at hh
   ·rename_i hc
    cases hh
    cases hx with
    | clo hc=>cases hc
    | ptr _ _ _ b csz sz hm=>
     refine ⟨_,runA hu hi' hc.1 hc.2,?_⟩
     rw [Addr.add_mid,Nat.add_assoc]
     exact .ptr id j _ b csz sz hm
    | ptrD _ _ _ ad hm=>exact ⟨_,runA hu hi' hc.1 hc.2,.ptrD id j _ _ hm⟩
   ·cases hh
  ·cases hh
 ·rename_i xs j off
  split at hh
  ·rename_i n e sz harr
   obtain ⟨inf,hu,hi',rfl⟩:=arrA_some harr
   split at hh
   ·rename_i hcc
    cases hh
    cases hx with
    | clo hc=>
     cases hc with
     | iptr _ _ _ s b o vs hs hc hr=>
      refine ⟨_,runA hu hi' hcc.1 hcc.2,?_⟩
      rw [Addr.add_mid,Nat.add_assoc,Nat.add_assoc]
      exact .clo (.iptr xs j _ s b o vs hs hc hr)
   ·cases hh
  ·cases hh
 ·cases hh
theorem index_sound {t : TypeId} {x r : AVal} {vx : Value} {i : Int} {k : IntKind} (hh : indexA P t x i = some r) (hx : Rep E w x vx) : okv P E w (Instr.index t vx (.int k i)) r:=by
 unfold indexA at hh
 split at hh
 ·rename_i q
  obtain rfl:=hx.str
  split at hh
  ·rename_i hu
   split at hh
   ·rename_i h0
    split at hh
    ·rename_i b hb
     cases hh
     refine okv.int ?_
     simp [Instr.index,asIntOf,run_underlying hu,h0,hb]
    ·cases hh
   ·cases hh
  ·cases hh
 ·rename_i cs
  obtain ⟨vs,rfl,hl,hr⟩:=hx.agg'
  split at hh
  ·rename_i n e sz harr
   obtain ⟨inf,hu,hi',rfl⟩:=arrA_some harr
   split at hh
   ·rename_i hc
    obtain ⟨v,hv,hrv⟩:=part_sound hl hr hh
    refine ⟨v,?_,hrv⟩
    simp [Instr.index,asIntOf,run_underlying hu,hc.1,hc.2,run_sizeOf' hi',hv]
   ·cases hh
  ·cases hh
 ·cases hh
theorem keyEq_sound {kt : TypeId} {d : TypeDesc} (hd : P.underlying kt = some d) {a b : AVal} {va vb : Value} {r : Bool} (h : keyEq P kt a b = some r) (ha : Rep E w a va) (hb : Rep E w b vb) : Instr.sameNow d va vb = some r:=by
 unfold keyEq at h
 rw [hd] at h
 split at h
 ·rename_i q k x k' y hq
  cases hq
  obtain rfl:=ha.int
  obtain rfl:=hb.int
  exact h
 ·rename_i x y hq
  cases hq
  obtain rfl:=ha.str
  obtain rfl:=hb.str
  exact h
 ·cases h
theorem isKey_sound {kt : TypeId} {d : TypeDesc} (hd : P.underlying kt = some d) {a : AVal} {va : Value} (h : isKey P kt a = true) (ha : Rep E w a va) : IsKey d va:=by
 unfold isKey at h
 rw [hd] at h
 split at h
 ·rename_i q k n hq
  cases hq
  obtain rfl:=ha.int
  simpa [IsKey] using h
 ·rename_i q hq
  cases hq
  obtain rfl:=ha.str
  trivial
 ·cases h
theorem find_sound {kt : TypeId} {d : TypeDesc} (hd : P.underlying kt = some d) {k : AVal} {vk : Value} (hk : Rep E w k vk) : ∀ (ks : List AVal) (es : List MapEntry) (n : Nat) (r : Option Nat),findK P kt k ks n = some r → ks.length = es.length →
  (∀ (i : Nat) (k : AVal) (e : MapEntry),ks[i]? = some k → es[i]? = some e → Rep E w k e.key) →
  (r = none → Instr.findNow d vk es n = some none) ∧ ∀ i,r = some i → n ≤ i ∧ ∃ e,es[i - n]? = some e ∧ Instr.findNow d vk es n = some (some (i,e.val)) ∧ Instr.sameNow d vk e.key = some true:=by
   intro ks
   induction ks with
   | nil=>
    intro es n r h hl _
    simp only [findK] at h
    cases h
    cases es with
    | nil=>exact ⟨fun _=>rfl,fun i hi=>(by cases hi)⟩
    | cons e es=>simp at hl
   | cons x xs ih=>
    intro es n r h hl hr
    cases es with
    | nil=>simp at hl
    | cons e es=>
     simp only [findK] at h
     have he : Rep E w x e.key:=hr 0 x e rfl rfl
     cases hq : keyEq P kt k x with
     | none=>simp [hq] at h
     | some b=>
      have hs:=keyEq_sound hd hq hk he
      cases b with
      | true=>
       simp only [hq] at h
       cases h
       refine ⟨fun h=>(by cases h),fun i hi=>?_⟩
       cases hi
       exact ⟨Nat.le_refl _,e,by simp,by simp [Instr.findNow,hs],hs⟩
      | false=>
       simp only [hq] at h
       obtain ⟨h1,h2⟩:=ih es (n + 1) r h (by simpa using hl) (fun i k e hk he=>hr (i + 1) k e (by simpa using hk) (by simpa using he))
       refine ⟨fun h=>by simp [Instr.findNow,hs,h1 h],fun i hi=>?_⟩
       obtain ⟨g1,e',g2,g3,g4⟩:=h2 i hi
       refine ⟨by omega,e',?_,by simp [Instr.findNow,hs,g3],g4⟩
       have : i - n = (i - (n + 1)) + 1:=by omega
       rw [this]
       simpa using g2
theorem mapT_some {t kt et : TypeId} (h : mapT P t = some (kt,et)) : P.underlying t = some (.map kt et):=by
 unfold mapT at h
 split at h
 ·rename_i k e hu; cases h; exact hu
 ·cases h
theorem isKey_desc {kt : TypeId} {k : AVal} (h : isKey P kt k = true) : ∃ d,P.underlying kt = some d:=by
 unfold isKey at h
 split at h
 ·rename_i q _ _ hu; exact ⟨_,hu⟩
 ·rename_i q hu; exact ⟨_,hu⟩
 ·cases h
theorem zeroA_run {t : TypeId} {z : AVal} (h : zeroA P t = some z) : ∃ v,(zeroValue t).run P w = .ok v w ∧ ∀ (S : Nat → Prop) (w' : World),RepC S w' z v:=by
 unfold zeroA at h
 simp only [Option.bind_eq_some_iff] at h
 obtain ⟨v,⟨i,hi,hz⟩,hv⟩:=h
 exact ⟨v,by simp [zeroValue,typeInfo,hi,hz],fun S w'=>ofV_rep hv⟩
theorem look_sound {h : Heap} (s : Sim E h w) {t : TypeId} {m k r : AVal} {ok : Bool} {vm vk : Value} (hh : lookA P t m k ok h = some r) (hm : Rep E w m vm) (hk : Rep E w k vk) : okv P E w (Instr.lookup t vm vk ok) r:=by
 unfold lookA at hh
 split at hh
 ·rename_i kt et hmt
  have hu:=mapT_some hmt
  split at hh
  ·rename_i hik
   obtain ⟨d,hd⟩:=isKey_desc hik
   have hK:=isKey_sound hd hik hk
   have fin : ∀ (ks vs : List AVal) (es : Array MapEntry),ks.length = es.size → vs.length = es.size →
     (∀ (i : Nat) (k : AVal) (e : MapEntry),ks[i]? = some k → es[i]? = some e → Rep E w k e.key) →
     (∀ (i : Nat) (v : AVal) (e : MapEntry),vs[i]? = some v → es[i]? = some e → Rep E w v e.val) →
     (match findK P kt k ks 0 with
      | some (some i)=>match vs[i]? with
       | some v=>some (if ok then AVal.tup [v,.bool true] else v)
       | none=>none
      | some none=>match zeroA P et with
       | some z=>some (if ok then AVal.tup [z,.bool false] else z)
       | none=>none
      | none=>none) = some r →
     ∃ v b u,(Instr.findKey kt vk es.toList).run P w = .ok v w ∧ (∀ i x,v = some (i,x) → u = x ∧ b = true) ∧ (v = none → (zeroValue et).run P w = .ok u w ∧ b = false) ∧ Rep E w r (if ok then .tuple #[u,.bool b] else u):=by
      intro ks vs es hl hlv hkr hvr hfin
      have mk : ∀ {a : AVal} {u : Value} {b : Bool},Rep E w a u → Rep E w (if ok then AVal.tup [a,.bool b] else a) (if ok then .tuple #[u,.bool b] else u):=by
       intro a u b ha
       cases ok with
       | false=>exact ha
       | true=>
        refine .tup _ _ rfl fun i c v hc hv=>?_
        match i with
        | 0=>simp at hc hv; subst hc hv; exact ha
        | 1=>simp at hc hv; subst hc hv; exact .clo (.bool b)
        | i + 2=>simp at hc
      cases hf : findK P kt k ks 0 with
      | none=>simp [hf] at hfin
      | some q=>
       obtain ⟨h1,h2⟩:=find_sound hd hk ks es.toList 0 q hf (by simpa using hl) (fun i k e hk he=>hkr i k e hk (by simpa using he))
       cases q with
       | none=>
        simp only [hf] at hfin
        cases hz : zeroA P et with
        | none=>simp [hz] at hfin
        | some z=>
         simp only [hz] at hfin
         cases hfin
         obtain ⟨u,hu',hru⟩:=zeroA_run (w:=w) hz
         exact ⟨none,false,u,run_findKey hd (h1 rfl),fun i x h=>(by cases h),fun _=>⟨hu',rfl⟩,mk (.clo (hru _ _))⟩
       | some i=>
        simp only [hf] at hfin
        cases hv : vs[i]? with
        | none=>simp [hv] at hfin
        | some a=>
         simp only [hv] at hfin
         cases hfin
         obtain ⟨_,e,he,hfn,_⟩:=h2 i rfl
         simp at he
         exact ⟨some (i,e.val),true,e.val,run_findKey hd hfn,fun j x h=>(by cases h; exact ⟨rfl,rfl⟩),fun h=>(by cases h),mk (hvr i a e hv (by simpa using he))⟩
   have wrap : ∀ (es : Array MapEntry) (v : Option (Nat × Value)) (b : Bool) (u : Value),
     (vm = .map none ∧ es = #[]) ∨ (∃ r clock,vm = .map (some r) ∧ w.heap[r]? = some (.map es clock)) →
     (Instr.findKey kt vk es.toList).run P w = .ok v w → (∀ i x,v = some (i,x) → u = x ∧ b = true) → (v = none → (zeroValue et).run P w = .ok u w ∧ b = false) →
     (Instr.lookup t vm vk ok).run P w = .ok (if ok then .tuple #[u,.bool b] else u) w:=by
      intro es v b u h1 h2 h3 h4
      have fin2 : (do
        Instr.checkKey es.isEmpty 10000 kt vk
        let (v,o) ← match ← Instr.findKey kt vk es.toList with
         | some (_,v)=>pure (v,true)
         | none=>pure (← zeroValue et,false)
        pure (if ok then .tuple #[v,.bool o] else v) : Sem Value).run P w = .ok (if ok then .tuple #[u,.bool b] else u) w:=by
         simp only [Sem.run_bind,Result.andThen_ok,MapKept.run_checkKey hd hK,h2]
         cases v with
         | none=>
          obtain ⟨h5,rfl⟩:=h4 rfl
          simp [h5]
         | some q=>
          obtain ⟨i,x⟩:=q
          obtain ⟨rfl,rfl⟩:=h3 i x rfl
          simp
      unfold Instr.lookup
      rw [Sem.run_bind,run_underlying hu,Result.andThen_ok]
      rcases h1 with ⟨rfl,rfl⟩ | ⟨q,clock,rfl,hb⟩
      ·simp only [pure_bind]
       exact fin2
      ·simp only [Sem.run_bind,MapKept.run_getObj_map hb,Result.andThen_ok,pure_bind]
       simp only [Sem.run_bind] at fin2
       exact fin2
   cases m with
   | nilm=>
    obtain rfl:=hm.nilm'
    simp only at hh
    obtain ⟨v,b,u,g1,g2,g3,g4⟩:=fin [] [] #[] rfl rfl (fun i k e hk=>by simp at hk) (fun i k e hk=>by simp at hk) hh
    exact ⟨_,wrap #[] v b u (.inl ⟨rfl,rfl⟩) g1 g2 g3,g4⟩
   | cmap ks vs=>
    cases hm with
    | clo hc=>
     cases hc with
     | cmap _ _ bl clock es hSb hb hl1 hl2 hr1 hr2=>
      simp only at hh
      obtain ⟨v,b,u,g1,g2,g3,g4⟩:=fin ks vs es hl1 hl2 (fun i k e h1 h2=>.clo (hr1 i k e h1 h2)) (fun i v e h1 h2=>.clo (hr2 i v e h1 h2)) hh
      exact ⟨_,wrap es v b u (.inr ⟨_,_,rfl,hb⟩) g1 g2 g3,g4⟩
   | map id=>
    obtain ⟨bl,rfl,hmm⟩:=hm.map'
    cases ho : h[id]? with
    | none=>simp [ho] at hh
    | some o=>
     cases o with
     | amap ks vs=>
      simp only [ho] at hh
      rcases hmm with hmm | hmm
      ·have hk':=s.obj id _ _ ho hmm
       simp only [ObjOk] at hk'
       obtain ⟨es,clock,hb,hl1,hl2,hr1,hr2⟩:=hk'
       obtain ⟨v,b,u,g1,g2,g3,g4⟩:=fin ks vs es hl1 hl2 hr1 hr2 hh
       exact ⟨_,wrap es v b u (.inr ⟨_,_,rfl,hb⟩) g1 g2 g3,g4⟩
      ·have:=s.obj id _ _ ho hmm
       simp [ObjOk] at this
     | _=>simp [ho] at hh
   | _=>simp at hh
  ·cases hh
 ·cases hh
theorem extract_sound {a r : AVal} {v : Value} {i : Nat} (hh : extractA a i = some r) (ha : Rep E w a v) : okv P E w (Instr.extract v i) r:=by
 unfold extractA at hh
 split at hh
 ·rename_i vs
  obtain ⟨us,rfl,hl,hr⟩:=ha.tup'
  have hlt : i < us.size:=by rw [← hl]; exact (List.getElem?_eq_some_iff.1 hh).1
  obtain ⟨u,hu⟩:=agetElem?_some_of_lt hlt
  exact ⟨u,by simp [Instr.extract,hu],hr i r u hh hu⟩
 ·cases hh
end
end Go.Am

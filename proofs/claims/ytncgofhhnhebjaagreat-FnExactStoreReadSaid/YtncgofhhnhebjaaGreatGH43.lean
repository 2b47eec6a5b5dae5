/- THE PROGRAM's StoreRead RETURNS WHAT THE REFERENCE's RETURNS, FOR ALL ARGUMENTS. No condition. -/
import Derived.Test.YtncgofhhnhebjaaGreatGH41
import Derived.Test.YtncgofhhnhebjaaGreatGH23
import Derived.Test.YtncgofhhnhebjaaGreatGH42
import Derived.Test.YtncgofhhnhebjaaGreatGH38
import Derived.ProofKit
set_option linter.unusedVariables false
set_option linter.unusedSimpArgs false
/- THE PROGRAM's StoreRead RETURNS WHAT THE REFERENCE's RETURNS, FOR ALL ARGUMENTS. No condition. -/
set_option maxHeartbeats 4000000
namespace Go.Proofs.YtncgofhhnhebjaaGreat
open Go Go.Am
set_option maxRecDepth 100000
theorem Store.snap {h : Heap} {s : Store} {v : AVal} {F : List Nat} (ho : Own h s.d v F) (ht : s.d.tot ≤ 1048576) : Am.snap h v = some s.enc:=by
 rw [← Store.d_enc]
 exact ho.snap (Dat.dep_le _ ht)
theorem Items.snap {h : Heap} {z : List Item} {v : AVal} {F : List Nat} (ho : Own h (Items.d z) v F) (ht : cntZ z ≤ 1048576) : Am.snap h v = some (Items.enc z):=by
 rw [← Items.d_enc]
 exact ho.snap (Dat.dep_le _ ht)
theorem Sepa.two_i {h : Heap} {L : List Chunk} {d1 : Dat} {n : Int} {vs : List AVal} {F : List Nat} (S : Sepa h (.dats [d1,.i n] vs F :: L)) : ∃ v1 F1,vs = [v1,i64 n] ∧ Sepa h (.dat d1 v1 F1 :: L):=by
 obtain ⟨v1,v2,F1,F2,rfl,S1⟩:=Sepa.two S
 have h0 : Own h (.i n) v2 F2:=S1.get 1 rfl
 unfold Own at h0
 obtain ⟨rfl,rfl⟩:=h0
 exact ⟨v1,F1,rfl,S1.drop 1⟩
theorem Store.cells {h : Heap} {s : Store} {v : AVal} {F : List Nat} (ho : Own h s.d v F) : ∃ W T V n k,v = .agg [W,T,V,i64 n,i64 k] ∧ [W,T,V,i64 n,i64 k].all AVal.isCell = true:=by
 obtain ⟨wides,tables,views,now,keep⟩:=s
 obtain ⟨vv,rfl,hu⟩:=Own_g.1 ho
 obtain ⟨W,u1,H1,G1,rfl,rfl,g1,h2⟩:=OwnC_s.1 hu
 obtain ⟨T,u2,H2,G2,rfl,rfl,g2,h3⟩:=OwnC_s.1 h2
 obtain ⟨V,u3,H3,G3,rfl,rfl,g3,h4⟩:=OwnC_s.1 h3
 obtain ⟨w4,rfl,h5⟩:=OwnC_i.1 h4
 obtain ⟨w5,rfl,h6⟩:=OwnC_i.1 h5
 obtain ⟨rfl,rfl⟩:=OwnC_nil.1 h6
 exact ⟨W,T,V,now,keep,rfl,allc g1.cell.2 (allc g2.cell.2 (allc g3.cell.2 rfl))⟩
theorem Store.snap0 (h : Heap) (s : Store) (l : List AVal) (hl : l.all AVal.isScalar = true) : snapL h (s.enc :: l) = some (s.enc :: l):=by
 have e : snapL h l = some l:=by
  induction l with
  | nil=>rfl
  | cons x xs ih=>
   simp only [List.all_cons,Bool.and_eq_true] at hl
   exact snapL_cons (by cases x <;> first | rfl | (simp [AVal.isScalar] at hl)) (ih hl.2)
 exact snapL_cons rfl e
theorem law_Read {pr : Prims} (hk : Okc pr) (s : Store) (view at' : Int) (hf : s.d.fits) : ∃ h,call (cfp pr) 4 [s.enc,i64 view,i64 at'] [] = some (.ret (.bool true) h):=by
 have hp:=hk.toOkp
 have c1:=szStore_r hp s hf 1048576 (by omega) (by omega)
 have hsm : ¬ szR 1048576 s.d.tot < 0 → s.d.tot ≤ 1048576:=fun h=>by
  unfold szR at h
  split at h <;> omega
 have c2 : s.d.tot ≤ 1048576 → RetD pr 14 [s.enc] s.d:=fun h=>toStore_n hp s h
 have c3 : s.d.tot ≤ 1048576 → RetT pr 8 [s.enc,i64 view,i64 at'] [Items.d (sread s view at').1,.i (sread s view at').2]:=fun h=>sStoreRead_n hp s view at' h
 have c4 : s.d.tot ≤ 1048576 → RetT pr 7 [s.enc,i64 view,i64 at'] [Items.d (sread s view at').1,.i (sread s view at').2]:=fun h=>by
  have:=iStoreRead_n hk s view at' h
  rw [read_eq] at this
  exact this
 have c5 : s.d.tot ≤ 1048576 → Ret pr 16 [s.enc,s.enc] (.bool true):=fun h=>eqStore_r hp s h
 have hcnt:=sread_cnt s view at'
 generalize (sread s view at').1 = z at c3 c4 hcnt
 generalize (sread s view at').2 = code at c3 c4
 have c6 : Ret pr 15 [Items.enc z,Items.enc z] (.bool true):=eqItemS_r hp z (by show cntZ z ≤ _; omega)
 have cm:=markStore_t hp s
 have ch:=heldItemS_r hp z 1 (by omega) (by omega)
 have hz1 : (1 : Int) + (cntZ z : Int) ≤ 1152921504606846976:=by omega
 have hcm : cntZ (mkItems 1 z) ≤ 1048576:=by rw [cntZ_mk]; omega
 have hmk:=fun v F h L (S : Sepa h (.dat (Items.d z) v F :: L))=>markItemS_t hp z (k:=1) S (by omega) hz1
 have hq0 : ¬ (1 + (cntZ z : Int)) < 0:=by omega
 have hz2 : cntZ z ≤ 1048576:=by omega
 generalize (1 : Int) + (cntZ z : Int) = q at hmk ch hq0
 generalize mkItems 1 z = mz at hmk ch hcm
 have cm1 : s.d.tot ≤ 1048576 → ∀ (v : AVal) (F : List Nat) (h : Heap) (L : List Chunk),Sepa h (.dat s.d v F :: L) → ∃ h' k',callM (cfp pr) (call (cfp pr)) 17 [v,i64 1] h = some (.ret (i64 k') h') ∧ ¬ k' < 0 ∧ Sepa h' L:=fun ht v F h L S=>by
  obtain ⟨h',k',a,b,c,d⟩:=cm v F h L 1 S (by omega) (by omega)
  exact ⟨h',k',a,by omega,d⟩
 clear cm
 have e1:=fun h=>Store.snap0 h s [] rfl
 have eA:=fun (h : Heap)=>Store.snap0 h s [i64 view,i64 at'] rfl
 have eB : snapL [] [s.enc,s.enc] = some [s.enc,s.enc]:=snapL_cons rfl (e1 [])
 have eC : ∀ z : List Item,snapL [] [Items.enc z,Items.enc z] = some [Items.enc z,Items.enc z]:=fun z=>rfl
 have eI:=fun (h : Heap)=>(show snapL h [i64 view,i64 at'] = some [i64 view,i64 at'] from rfl)
 have hc2:=@Store.cells
 suffices hw : wpFL (cfp pr) 4 [s.enc,i64 view,i64 at'] [] (fun r=>∃ h,r = .ret (.bool true) h) by
  obtain ⟨r,hr,h,rfl⟩:=wpFL_sound (hp.out _ rfl) hw
  exact ⟨h,hr⟩
 have S : Sepa [] []:=Sepa.nil []
 conv=>whnf
 intro k1 a1 hk1 hh1
 replace S:=S.alloc hk1 hh1
 clear hk1 hh1
 conv=>whnf
 refine .inl ⟨_,S.row 0 rfl,rfl,?_⟩
 conv=>whnf
 refine ⟨_,c1 _,?_⟩
 conv=>whnf
 refine bsel_intro (fun g1=>?_) (fun g1=>?_)
 ·conv=>whnf
  exact ⟨_,rfl,_,rfl⟩
 ·have hsm':=hsm (by simpa using g1)
  replace c2:=c2 hsm'
  replace c3:=c3 hsm'
  replace c4:=c4 hsm'
  replace c5:=c5 hsm'
  clear c1 hsm hf g1
  have hT:=hsm'
  conv=>whnf
  refine .inl ⟨_,S.row 0 rfl,rfl,?_⟩
  conv=>whnf
  -- the copy,spec.StoreRead
  refine callD S c2 rfl (e1 _) (fun v1 b1 F1 o1 S1=>?_)
  obtain ⟨W0,T0,V0,n0,k0,rfl,hcs0⟩:=hc2 o1
  conv=>whnf
  refine callT S1 c3 rfl (snapL_cons (Store.snap o1 hT) (eI _)) (fun vs b2 F2 S2=>?_)
  clear S S1 o1
  obtain ⟨vw,F3,rfl,S⟩:=Sepa.two_i S2
  clear S2
  conv=>whnf
  -- x0
  refine .inl ⟨_,S.row 2 rfl,rfl,?_⟩
  conv=>whnf
  refine callD S c2 rfl (e1 _) (fun v2 b3 F4 o1 S1=>?_)
  obtain ⟨W,T,V,n,k,rfl,hcs⟩:=hc2 o1
  clear S o1
  have S:=S1
  clear S1
  conv=>whnf
  intro k2 a2 hk_k2 hh_a2
  replace S:=S.alloc hk_k2 hh_a2
  conv=>whnf
  refine ⟨_,rfl,rfl,hcs,.inl ⟨_,S.row 0 rfl,rfl,?_⟩⟩
  conv=>whnf
  intro a3 hh_a3
  replace S:=S.set 0 rfl hh_a3
  dsimp only [List.set] at S
  conv=>whnf
  refine .inl ⟨_,S.row 0 rfl,rfl,?_⟩
  conv=>whnf
  -- g0
  refine callT S c4 rfl (snapL_cons (Store.snap (S.get 1 rfl) hT) (eI _)) (fun vs b4 F5 S2=>?_)
  clear S
  obtain ⟨vg,F6,rfl,S⟩:=Sepa.two_i S2
  clear S2
  conv=>whnf
  refine ⟨_,c6.here (snapL2 (Items.snap (S.get 0 rfl) hz2) (Items.snap (S.get 3 rfl) hz2)) (eC _) rfl,?_⟩
  conv=>whnf
  refine bsel_false (bne_self _) ?_
  conv=>whnf
  refine .inl ⟨_,S.row 1 rfl,rfl,?_⟩
  conv=>whnf
  refine .inl ⟨_,S.row 5 rfl,rfl,?_⟩
  conv=>whnf
  refine callD S c2 rfl (e1 _) (fun v5 b5 F7 o5 S1=>?_)
  obtain ⟨W5,T5,V5,n5,k5,rfl,hcs5⟩:=hc2 o5
  clear S
  have S:=S1
  clear S1
  conv=>whnf
  refine ⟨_,c5.here (snapL_cons (Store.snap (S.get 3 rfl) hT) (snapL_cons (Store.snap o5 hT) rfl)) eB rfl,?_⟩
  clear o5 c5
  conv=>whnf
  replace S:=S.drop 0
  dsimp only [List.eraseIdx] at S
  -- parts: 0: g0,1: box x0,2: x0,3: w0,4: the first copy,5: box s
  refine .inl ⟨_,S.row 1 rfl,rfl,?_⟩
  conv=>whnf
  replace S:=S.front 2 rfl
  dsimp only [List.eraseIdx] at S
  obtain ⟨b6,k6,q6,m6,S1⟩:=cm1 hT _ _ _ _ S
  clear S
  have S:=S1
  clear S1
  refine ⟨_,q6,?_⟩
  clear q6 cm1
  conv=>whnf
  refine bsel_false (decide_eq_false m6) ?_
  conv=>whnf
  have hq6:=c6.here (args:=[vg,vw]) (snapL2 (Items.snap (S.get 0 rfl) hz2) (Items.snap (S.get 2 rfl) hz2)) (eC _) rfl
  refine ⟨_,hq6,?_⟩
  clear hq6
  conv=>whnf
  refine bsel_false (bne_self _) ?_
  conv=>whnf
  -- marks in g0
  -- mk1
  obtain ⟨b7,F8,q7,S1⟩:=hmk _ _ _ _ S
  clear S
  have S:=S1
  clear S1
  refine ⟨_,q7,?_⟩
  clear q7
  -- whnf
  conv=>whnf
  -- held
  have hq7:=ch.here (args:=[vg,i64 1]) (snapL_cons (Items.snap (S.get 0 rfl) hcm) rfl) rfl rfl
  refine ⟨_,hq7,?_⟩
  clear hq7
  conv=>whnf
  refine bsel_false (decide_eq_false hq0) ?_
  conv=>whnf
  refine bsel_false (bne_self _) ?_
  conv=>whnf
  -- h0
  refine .inl ⟨_,S.row 4 rfl,rfl,?_⟩
  conv=>whnf
  refine callD S c2 rfl (e1 _) (fun v8 b8 F9 o8 S1=>?_)
  obtain ⟨W8,T8,V8,n8,k8,rfl,hcs8⟩:=hc2 o8
  clear S
  have S:=S1
  clear S1
  conv=>whnf
  refine callT S c4 rfl (snapL_cons (Store.snap o8 hT) (eI _)) (fun vs b9 F10 S2=>?_)
  clear S
  obtain ⟨vh,F11,rfl,S⟩:=Sepa.two_i S2
  clear S2
  conv=>whnf
  -- parts: 0: h0,1: the copy,2: g0,3: box x0,4: w0
  have hq8:=c6.here (args:=[vh,vw]) (snapL2 (Items.snap (S.get 0 rfl) hz2) (Items.snap (S.get 4 rfl) hz2)) (eC _) rfl
  refine ⟨_,hq8,?_⟩
  clear hq8
  conv=>whnf
  refine bsel_false (bne_self _) ?_
  conv=>whnf
  have hq9:=ch.here (args:=[vg,i64 1]) (snapL_cons (Items.snap (S.get 2 rfl) hcm) rfl) rfl rfl
  refine ⟨_,hq9,?_⟩
  clear hq9
  conv=>whnf
  refine bsel_false (decide_eq_false hq0) ?_
  conv=>whnf
  refine bsel_false (bne_self _) ?_
  conv=>whnf
  exact ⟨_,rfl,_,rfl⟩
end Go.Proofs.YtncgofhhnhebjaaGreat
/- What the laws' arguments are. -/
set_option maxHeartbeats 4000000
namespace Go.Am
open Go
theorem len_succ {α : Type} {xs : List α} {n : Nat} (h : xs.length = n + 1) : ∃ x ys,xs = x :: ys ∧ ys.length = n:=by
 cases xs with
 | nil=>simp at h
 | cons x ys=>exact ⟨x,ys,rfl,by simpa using h⟩
theorem forall_cons {α : Type} {Q : α → Prop} {a : α} {l : List α} (h : ∀ f ∈ a :: l,Q f) : Q a ∧ ∀ f ∈ l,Q f:=⟨h a (by simp),fun f hf=>h f (by simp [hf])⟩
theorem slice_of {P : Program} {n : Nat} {t e : TypeId} {xs : List AVal} {α : Type} (f : α → AVal) (Q : α → Prop) (hu : P.underlying t = some (.slice e)) (he : ∀ ys,TyA P n e ys → ∃ c,ofCells P e ys = f c ∧ Q c) (h : TyA P (n + 1) t xs) :
  ∃ cs : List α,xs = [.sl (cs.map f)] ∧ cs.length ≤ maxLen ∧ ∀ c ∈ cs,Q c:=by
   unfold TyA at h
   rw [hu] at h
   obtain ⟨yss,rfl,hl,hy⟩:=h
   have key : ∀ yss : List (List AVal),(∀ ys ∈ yss,TyA P n e ys) → ∃ cs : List α,yss.map (ofCells P e) = cs.map f ∧ ∀ c ∈ cs,Q c:=by
    intro yss
    induction yss with
    | nil=>intro _; exact ⟨[],rfl,fun c hc=>by simp at hc⟩
    | cons ys yss ih=>
     intro hy
     obtain ⟨c,hc,hq⟩:=he ys (hy ys (by simp))
     obtain ⟨cs,hcs,hqs⟩:=ih fun zs hz=>hy zs (by simp [hz])
     exact ⟨c :: cs,by simp [hc,hcs],fun d hd=>by
      rcases List.mem_cons.1 hd with rfl | hd
      ·exact hq
      ·exact hqs d hd⟩
   obtain ⟨cs,hcs,hqs⟩:=key yss hy
   have hlen : cs.length = yss.length:=by have:=congrArg List.length hcs; simpa using this.symm
   exact ⟨cs,by rw [hcs],by omega,hqs⟩
theorem int_of {P : Program} {n : Nat} {t : TypeId} {k : IntKind} {xs : List AVal} (hu : P.underlying t = some (.int k)) (h : TyA P (n + 1) t xs) : ∃ i,xs = [.int k i] ∧ (Lit.int k i).wf = true:=by
 unfold TyA at h
 rw [hu] at h
 exact h
theorem bool_of {P : Program} {n : Nat} {t : TypeId} {xs : List AVal} (hu : P.underlying t = some .bool) (h : TyA P (n + 1) t xs) : ∃ b,xs = [.bool b]:=by
 unfold TyA at h
 rw [hu] at h
 exact h
theorem struct_of {P : Program} {n : Nat} {t : TypeId} {fs : Array Field} {xs : List AVal} (hu : P.underlying t = some (.struct fs)) (h : TyA P (n + 1) t xs) : xs.length = P.cellsOf t ∧ ∀ f ∈ fs.toList,TyA P n f.type ((xs.drop f.offset).take (P.cellsOf f.type)):=by
 unfold TyA at h
 rw [hu] at h
 exact h
theorem tya_pos {P : Program} {n : Nat} {t : TypeId} {xs : List AVal} (h : TyA P n t xs) : ∃ m,n = m + 1:=by
 cases n with
 | zero=>exact h.elim
 | succ n=>exact ⟨n,rfl⟩
end Go.Am
namespace Go.Proofs.YtncgofhhnhebjaaGreat
open Go Go.Am
set_option maxRecDepth 100000
def tInt : TypeId:=3
def tBool : TypeId:=4
def tCellL : TypeId:=128
def tTestL : TypeId:=130
def tPlanL : TypeId:=134
theorem uInt : Tryz.prog.underlying tInt = some (.int .i64):=rfl
theorem uBool : Tryz.prog.underlying tBool = some .bool:=rfl
theorem int_a {n : Nat} {xs : List AVal} (h : TyA Tryz.prog n tInt xs) : ∃ i,xs = [i64 i]:=by
 obtain ⟨m,rfl⟩:=tya_pos h
 obtain ⟨i,hi,_⟩:=int_of uInt h
 exact ⟨i,hi⟩
theorem bool_a {n : Nat} {xs : List AVal} (h : TyA Tryz.prog n tBool xs) : ∃ i,xs = [.bool i]:=by
 obtain ⟨m,rfl⟩:=tya_pos h
 exact bool_of uBool h
theorem cell_a {n : Nat} {xs : List AVal} (h : TyA Tryz.prog n tCellL xs) : ∃ c : Cell,xs = [i64 c.kind,i64 c.a,i64 c.b,i64 c.n]:=by
 obtain ⟨m,rfl⟩:=tya_pos h
 obtain ⟨hl,hf⟩:=struct_of rfl h
 have hl : xs.length = 4:=hl
 obtain ⟨x0,ys0,rfl,hl0⟩:=len_succ hl
 obtain ⟨x1,ys1,rfl,hl1⟩:=len_succ hl0
 obtain ⟨x2,ys2,rfl,hl2⟩:=len_succ hl1
 obtain ⟨x3,ys3,rfl,hl3⟩:=len_succ hl2
 have hx : ys3 = []:=List.length_eq_zero_iff.1 hl3
 subst hx
 obtain ⟨f0,hf⟩:=forall_cons hf
 have f0 : TyA Tryz.prog m tInt [x0]:=f0
 obtain ⟨f1,hf⟩:=forall_cons hf
 have f1 : TyA Tryz.prog m tInt [x1]:=f1
 obtain ⟨f2,hf⟩:=forall_cons hf
 have f2 : TyA Tryz.prog m tInt [x2]:=f2
 obtain ⟨f3,hf⟩:=forall_cons hf
 have f3 : TyA Tryz.prog m tInt [x3]:=f3
 obtain ⟨i0,e0⟩:=int_a f0
 obtain ⟨i1,e1⟩:=int_a f1
 obtain ⟨i2,e2⟩:=int_a f2
 obtain ⟨i3,e3⟩:=int_a f3
 simp only [List.cons.injEq,and_true] at e0 e1 e2 e3
 subst e0 e1 e2 e3
 exact ⟨⟨i0,i1,i2,i3⟩,rfl⟩
theorem test_a {n : Nat} {xs : List AVal} (h : TyA Tryz.prog n tTestL xs) : ∃ c : Test,xs = [i64 c.kind,.bool c.no,i64 c.l.kind,i64 c.l.a,i64 c.l.b,i64 c.l.n,i64 c.r.kind,i64 c.r.a,i64 c.r.b,i64 c.r.n]:=by
 obtain ⟨m,rfl⟩:=tya_pos h
 obtain ⟨hl,hf⟩:=struct_of rfl h
 have hl : xs.length = 10:=hl
 obtain ⟨x0,ys0,rfl,hl0⟩:=len_succ hl
 obtain ⟨x1,ys1,rfl,hl1⟩:=len_succ hl0
 obtain ⟨x2,ys2,rfl,hl2⟩:=len_succ hl1
 obtain ⟨x3,ys3,rfl,hl3⟩:=len_succ hl2
 obtain ⟨x4,ys4,rfl,hl4⟩:=len_succ hl3
 obtain ⟨x5,ys5,rfl,hl5⟩:=len_succ hl4
 obtain ⟨x6,ys6,rfl,hl6⟩:=len_succ hl5
 obtain ⟨x7,ys7,rfl,hl7⟩:=len_succ hl6
 obtain ⟨x8,ys8,rfl,hl8⟩:=len_succ hl7
 obtain ⟨x9,ys9,rfl,hl9⟩:=len_succ hl8
 have hx : ys9 = []:=List.length_eq_zero_iff.1 hl9
 subst hx
 obtain ⟨f0,hf⟩:=forall_cons hf
 have f0 : TyA Tryz.prog m tInt [x0]:=f0
 obtain ⟨f1,hf⟩:=forall_cons hf
 have f1 : TyA Tryz.prog m tBool [x1]:=f1
 obtain ⟨f2,hf⟩:=forall_cons hf
 have f2 : TyA Tryz.prog m tCellL [x2,x3,x4,x5]:=f2
 obtain ⟨f3,hf⟩:=forall_cons hf
 have f3 : TyA Tryz.prog m tCellL [x6,x7,x8,x9]:=f3
 obtain ⟨i0,e0⟩:=int_a f0
 obtain ⟨b1,e1⟩:=bool_a f1
 obtain ⟨l,e2⟩:=cell_a f2
 obtain ⟨r,e3⟩:=cell_a f3
 simp only [List.cons.injEq,and_true] at e0 e1 e2 e3
 obtain ⟨rfl,rfl,rfl,rfl⟩:=e2
 obtain ⟨rfl,rfl,rfl,rfl⟩:=e3
 subst e0 e1
 exact ⟨⟨i0,b1,l,r⟩,rfl⟩
theorem plan_a : ∀ (n : Nat) (xs : List AVal),TyA Tryz.prog n tPlanL xs → ∃ p : Plan,.agg xs = p.enc ∧ p.fits:=by
 intro n
 induction n using Nat.strongRecOn with
 | _ n ih=>
 intro xs h
 obtain ⟨m,rfl⟩:=tya_pos h
 obtain ⟨hl,hf⟩:=struct_of rfl h
 have hl : xs.length = 19:=hl
 obtain ⟨x0,ys0,rfl,hl0⟩:=len_succ hl
 obtain ⟨x1,ys1,rfl,hl1⟩:=len_succ hl0
 obtain ⟨x2,ys2,rfl,hl2⟩:=len_succ hl1
 obtain ⟨x3,ys3,rfl,hl3⟩:=len_succ hl2
 obtain ⟨x4,ys4,rfl,hl4⟩:=len_succ hl3
 obtain ⟨x5,ys5,rfl,hl5⟩:=len_succ hl4
 obtain ⟨x6,ys6,rfl,hl6⟩:=len_succ hl5
 obtain ⟨x7,ys7,rfl,hl7⟩:=len_succ hl6
 obtain ⟨x8,ys8,rfl,hl8⟩:=len_succ hl7
 obtain ⟨x9,ys9,rfl,hl9⟩:=len_succ hl8
 obtain ⟨x10,ys10,rfl,hl10⟩:=len_succ hl9
 obtain ⟨x11,ys11,rfl,hl11⟩:=len_succ hl10
 obtain ⟨x12,ys12,rfl,hl12⟩:=len_succ hl11
 obtain ⟨x13,ys13,rfl,hl13⟩:=len_succ hl12
 obtain ⟨x14,ys14,rfl,hl14⟩:=len_succ hl13
 obtain ⟨x15,ys15,rfl,hl15⟩:=len_succ hl14
 obtain ⟨x16,ys16,rfl,hl16⟩:=len_succ hl15
 obtain ⟨x17,ys17,rfl,hl17⟩:=len_succ hl16
 obtain ⟨x18,ys18,rfl,hl18⟩:=len_succ hl17
 have hx : ys18 = []:=List.length_eq_zero_iff.1 hl18
 subst hx
 obtain ⟨f0,hf⟩:=forall_cons hf
 have f0 : TyA Tryz.prog m tInt [x0]:=f0
 obtain ⟨f1,hf⟩:=forall_cons hf
 have f1 : TyA Tryz.prog m tInt [x1]:=f1
 obtain ⟨f2,hf⟩:=forall_cons hf
 have f2 : TyA Tryz.prog m tTestL [x2,x3,x4,x5,x6,x7,x8,x9,x10,x11]:=f2
 obtain ⟨f3,hf⟩:=forall_cons hf
 have f3 : TyA Tryz.prog m 131 [x12]:=f3
 obtain ⟨f4,hf⟩:=forall_cons hf
 have f4 : TyA Tryz.prog m tInt [x13]:=f4
 obtain ⟨f5,hf⟩:=forall_cons hf
 have f5 : TyA Tryz.prog m tInt [x14]:=f5
 obtain ⟨f6,hf⟩:=forall_cons hf
 have f6 : TyA Tryz.prog m 23 [x15]:=f6
 obtain ⟨f7,hf⟩:=forall_cons hf
 have f7 : TyA Tryz.prog m tInt [x16]:=f7
 obtain ⟨f8,hf⟩:=forall_cons hf
 have f8 : TyA Tryz.prog m tInt [x17]:=f8
 obtain ⟨f9,hf⟩:=forall_cons hf
 have f9 : TyA Tryz.prog m 132 [x18]:=f9
 obtain ⟨i0,e0⟩:=int_a f0
 obtain ⟨i1,e1⟩:=int_a f1
 obtain ⟨i4,e4⟩:=int_a f4
 obtain ⟨i5,e5⟩:=int_a f5
 obtain ⟨i7,e7⟩:=int_a f7
 obtain ⟨i8,e8⟩:=int_a f8
 obtain ⟨t2,e2⟩:=test_a f2
 obtain ⟨m',rfl⟩:=tya_pos f3
 obtain ⟨cells,e3,l3,_⟩:=slice_of Cell.enc (fun _=>True) rfl (fun ys hy=>by
  obtain ⟨c,rfl⟩:=cell_a hy
  exact ⟨c,rfl,trivial⟩) f3
 obtain ⟨keys,e6,l6,_⟩:=slice_of i64 (fun _=>True) rfl (fun ys hy=>by
  obtain ⟨c,rfl⟩:=int_a hy
  exact ⟨c,rfl,trivial⟩) f6
 obtain ⟨kids,e9,l9,q9⟩:=slice_of Plan.enc Plan.fits rfl (fun ys hy=>by
  obtain ⟨p,hp,hq⟩:=ih m' (by omega) ys hy
  exact ⟨p,hp,hq⟩) f9
 simp only [List.cons.injEq,and_true] at e0 e1 e2 e3 e4 e5 e6 e7 e8 e9
 obtain ⟨rfl,rfl,rfl,rfl,rfl,rfl,rfl,rfl,rfl,rfl⟩:=e2
 subst e0 e1 e3 e4 e5 e6 e7 e8 e9
 refine ⟨.mk i0 i1 t2 cells i4 i5 keys i7 i8 kids,?_,?_⟩
 ·rw [← encs_eq]; rfl
 ·simp only [Plan.fits,fitss_iff]
  exact ⟨l3,l6,l9,q9⟩
end Go.Proofs.YtncgofhhnhebjaaGreat
/- What the laws' arguments are: items, flows, views, stores. -/
set_option maxHeartbeats 4000000
namespace Go.Proofs.YtncgofhhnhebjaaGreat
open Go Go.Am
set_option maxRecDepth 100000
def tItemL : TypeId:=183
def tItemsL : TypeId:=126
def tRunsL : TypeId:=56
def tSpineL : TypeId:=136
def tFlowL : TypeId:=139
def tFlowsL : TypeId:=137
def tPastL : TypeId:=217
def tPastsL : TypeId:=140
def tViewL : TypeId:=142
def tViewsL : TypeId:=57
def tStoreL : TypeId:=59
def tIntsL : TypeId:=23
theorem fitss_of {α : Type} {f : α → Dat} : ∀ {xs : List α},(∀ x ∈ xs,(f x).fits) → Dat.fitss (xs.map f)
 | [],_=>trivial
 | y :: ys,h=>⟨h y (by simp),fitss_of fun x hx=>h x (by simp [hx])⟩
theorem fits_i (xs : List Int) : Dat.fitss (xs.map Dat.i):=fitss_of fun x _=>trivial
theorem maxLen_I {n : Nat} (h : n ≤ maxLen) : n ≤ maxI:=h
theorem ints_a {n : Nat} {xs : List AVal} (h : TyA Tryz.prog n tIntsL xs) : ∃ ys : List Int,xs = [.sl (ys.map i64)] ∧ (Ints.d ys).fits:=by
 obtain ⟨m,rfl⟩:=tya_pos h
 obtain ⟨ys,e,l,_⟩:=slice_of i64 (fun _=>True) rfl (fun ys hy=>by
  obtain ⟨c,rfl⟩:=int_a hy
  exact ⟨c,rfl,trivial⟩) h
 exact ⟨ys,e,by simp only [Ints.d,Dat.fits,List.length_map]; exact ⟨maxLen_I l,fits_i ys⟩⟩
theorem item_a {n : Nat} {xs : List AVal} (h : TyA Tryz.prog n tItemL xs) : ∃ x : Item,.agg xs = x.enc ∧ x.d.fits:=by
 obtain ⟨m,rfl⟩:=tya_pos h
 obtain ⟨hl,hf⟩:=struct_of rfl h
 have hl : xs.length = 2:=hl
 obtain ⟨x0,ys0,rfl,hl0⟩:=len_succ hl
 obtain ⟨x1,ys1,rfl,hl1⟩:=len_succ hl0
 have hx : ys1 = []:=List.length_eq_zero_iff.1 hl1
 subst hx
 obtain ⟨f0,hf⟩:=forall_cons hf
 have f0 : TyA Tryz.prog m tIntsL [x0]:=f0
 obtain ⟨f1,hf⟩:=forall_cons hf
 have f1 : TyA Tryz.prog m tInt [x1]:=f1
 obtain ⟨row,e0,q0⟩:=ints_a f0
 obtain ⟨w,e1⟩:=int_a f1
 simp only [List.cons.injEq,and_true] at e0 e1
 subst e0 e1
 exact ⟨⟨row,w⟩,rfl,by simp only [Item.d,Dat.fits,Dat.fitss]; exact ⟨q0,trivial,trivial⟩⟩
theorem items_a {n : Nat} {xs : List AVal} (h : TyA Tryz.prog n tItemsL xs) : ∃ z : List Item,xs = [Items.enc z] ∧ (Items.d z).fits:=by
 obtain ⟨m,rfl⟩:=tya_pos h
 obtain ⟨ys,e,l,q⟩:=slice_of Item.enc (fun x=>x.d.fits) rfl (fun ys hy=>by
  obtain ⟨c,h1,h2⟩:=item_a hy
  exact ⟨c,h1,h2⟩) h
 exact ⟨ys,e,by simp only [Items.d,Dat.fits,List.length_map]; exact ⟨maxLen_I l,fitss_of q⟩⟩
theorem runs_a {n : Nat} {xs : List AVal} (h : TyA Tryz.prog n tRunsL xs) : ∃ z : List (List Item),xs = [Runs.enc z] ∧ (Runs.d z).fits:=by
 obtain ⟨m,rfl⟩:=tya_pos h
 obtain ⟨ys,e,l,q⟩:=slice_of Items.enc (fun x=>(Items.d x).fits) rfl (fun ys hy=>by
  obtain ⟨c,h1,h2⟩:=items_a hy
  exact ⟨c,by rw [h1]; rfl,h2⟩) h
 exact ⟨ys,e,by simp only [Runs.d,Dat.fits,List.length_map]; exact ⟨maxLen_I l,fitss_of q⟩⟩
theorem spine_a {n : Nat} {xs : List AVal} (h : TyA Tryz.prog n tSpineL xs) : ∃ z : List (List Item),xs = [Runs.enc z] ∧ (Runs.d z).fits:=by
 obtain ⟨m,rfl⟩:=tya_pos h
 obtain ⟨hl,hf⟩:=struct_of rfl h
 have hl : xs.length = 1:=hl
 obtain ⟨x0,ys0,rfl,hl0⟩:=len_succ hl
 have hx : ys0 = []:=List.length_eq_zero_iff.1 hl0
 subst hx
 obtain ⟨f0,hf⟩:=forall_cons hf
 have f0 : TyA Tryz.prog m tRunsL [x0]:=f0
 exact runs_a f0
theorem cut_at {α : Type} (xs : List α) (a n : Nat) : xs.drop a = (xs.drop a).take n ++ xs.drop (a + n):=by
 rw [← List.drop_drop,List.take_append_drop]
theorem plan_cells (p : Plan) : ∃ cs,p.enc = .agg cs ∧ ∀ l r ks,(Flow.mk p l r ks).enc = .agg (cs ++ [Runs.enc l,Runs.enc r,.sl (Flow.encs ks)]):=by
 obtain ⟨kind,n,test,cells,a,b,keys,agg,col,kids⟩:=p
 exact ⟨_,rfl,fun l r ks=>rfl⟩
theorem flow_a : ∀ (n : Nat) (xs : List AVal),TyA Tryz.prog n tFlowL xs → ∃ f : Flow,.agg xs = f.enc ∧ f.d.fits:=by
 intro n
 induction n using Nat.strongRecOn with
 | _ n ih=>
 intro xs h
 obtain ⟨m,rfl⟩:=tya_pos h
 obtain ⟨hl,hf⟩:=struct_of rfl h
 have hl : xs.length = 22:=hl
 obtain ⟨f0,hf⟩:=forall_cons hf
 have f0 : TyA Tryz.prog m tPlanL ((xs.drop 0).take 19):=f0
 obtain ⟨f1,hf⟩:=forall_cons hf
 have f1 : TyA Tryz.prog m tSpineL ((xs.drop 19).take 1):=f1
 obtain ⟨f2,hf⟩:=forall_cons hf
 have f2 : TyA Tryz.prog m tSpineL ((xs.drop 20).take 1):=f2
 obtain ⟨f3,hf⟩:=forall_cons hf
 have f3 : TyA Tryz.prog m tFlowsL ((xs.drop 21).take 1):=f3
 clear hf
 obtain ⟨p,e0,q0⟩:=plan_a _ _ f0
 obtain ⟨l,e1,q1⟩:=spine_a f1
 obtain ⟨r,e2,q2⟩:=spine_a f2
 obtain ⟨m',rfl⟩:=tya_pos f3
 obtain ⟨ks,e3,l3,q3⟩:=slice_of Flow.enc (fun x=>x.d.fits) rfl (fun ys hy=>ih m' (by omega) ys hy) f3
 have hx : xs = (xs.drop 0).take 19 ++ ((xs.drop 19).take 1 ++ ((xs.drop 20).take 1 ++ (xs.drop 21).take 1)):=by
  have h1:=cut_at xs 0 19
  have h2:=cut_at xs 19 1
  have h3:=cut_at xs 20 1
  have h4:=cut_at xs 21 1
  rw [show xs.drop (21 + 1) = [] from List.drop_eq_nil_of_le (by omega),List.append_nil] at h4
  rw [← h4,← h3,← h2,← h1,List.drop_zero]
 obtain ⟨cs,hc,hfe⟩:=plan_cells p
 rw [hc] at e0
 injection e0 with e0
 refine ⟨.mk p l r ks,?_,?_⟩
 ·rw [hfe l r ks,hx,e0,e1,e2,e3,Flow.encs_map]
  rfl
 ·have hd : Dat.fitss (Flow.ds ks):=by rw [Flow.ds_map]; exact fitss_of q3
  simp only [Flow.d,Dat.fits,Dat.fitss]
  refine ⟨q0,⟨q1,trivial⟩,⟨q2,trivial⟩,⟨?_,hd⟩,trivial⟩
  rw [Flow.ds_map,List.length_map]
  exact maxLen_I l3
theorem past_a {n : Nat} {xs : List AVal} (h : TyA Tryz.prog n tPastL xs) : ∃ x : Past,.agg xs = x.enc ∧ x.d.fits:=by
 obtain ⟨m,rfl⟩:=tya_pos h
 obtain ⟨hl,hf⟩:=struct_of rfl h
 have hl : xs.length = 2:=hl
 obtain ⟨x0,ys0,rfl,hl0⟩:=len_succ hl
 obtain ⟨x1,ys1,rfl,hl1⟩:=len_succ hl0
 have hx : ys1 = []:=List.length_eq_zero_iff.1 hl1
 subst hx
 obtain ⟨f0,hf⟩:=forall_cons hf
 have f0 : TyA Tryz.prog m tInt [x0]:=f0
 obtain ⟨f1,hf⟩:=forall_cons hf
 have f1 : TyA Tryz.prog m tItemsL [x1]:=f1
 obtain ⟨w,e0⟩:=int_a f0
 obtain ⟨z,e1,q1⟩:=items_a f1
 simp only [List.cons.injEq,and_true] at e0 e1
 subst e0 e1
 exact ⟨⟨w,z⟩,rfl,by simp only [Past.d,Dat.fits,Dat.fitss]; exact ⟨trivial,q1,trivial⟩⟩
theorem flow_agg (f : Flow) : ∃ cs,f.enc = .agg cs:=by
 obtain ⟨p,l,r,ks⟩:=f
 obtain ⟨cs,_,h⟩:=plan_cells p
 exact ⟨_,h l r ks⟩
theorem view_a {n : Nat} {xs : List AVal} (h : TyA Tryz.prog n tViewL xs) : ∃ x : View,.agg xs = x.enc ∧ x.d.fits:=by
 obtain ⟨m,rfl⟩:=tya_pos h
 obtain ⟨hl,hf⟩:=struct_of rfl h
 have hl : xs.length = 25:=hl
 obtain ⟨f0,hf⟩:=forall_cons hf
 have f0 : TyA Tryz.prog m tFlowL ((xs.drop 0).take 22):=f0
 obtain ⟨f1,hf⟩:=forall_cons hf
 have f1 : TyA Tryz.prog m tInt ((xs.drop 22).take 1):=f1
 obtain ⟨f2,hf⟩:=forall_cons hf
 have f2 : TyA Tryz.prog m tItemsL ((xs.drop 23).take 1):=f2
 obtain ⟨f3,hf⟩:=forall_cons hf
 have f3 : TyA Tryz.prog m tPastsL ((xs.drop 24).take 1):=f3
 clear hf
 obtain ⟨f,e0,q0⟩:=flow_a _ _ f0
 obtain ⟨since,e1⟩:=int_a f1
 obtain ⟨base,e2,q2⟩:=items_a f2
 obtain ⟨m',rfl⟩:=tya_pos f3
 obtain ⟨ps,e3,l3,q3⟩:=slice_of Past.enc (fun x=>x.d.fits) rfl (fun ys hy=>past_a hy) f3
 have hx : xs = (xs.drop 0).take 22 ++ ((xs.drop 22).take 1 ++ ((xs.drop 23).take 1 ++ (xs.drop 24).take 1)):=by
  have h1:=cut_at xs 0 22
  have h2:=cut_at xs 22 1
  have h3:=cut_at xs 23 1
  have h4:=cut_at xs 24 1
  rw [show xs.drop (24 + 1) = [] from List.drop_eq_nil_of_le (by omega),List.append_nil] at h4
  rw [← h4,← h3,← h2,← h1,List.drop_zero]
 obtain ⟨cs,hc⟩:=flow_agg f
 rw [hc] at e0
 injection e0 with e0
 refine ⟨⟨f,since,base,ps⟩,?_,?_⟩
 ·rw [hx,e0,e1,e2,e3]
  simp only [View.enc,hc]
  rfl
 ·simp only [View.d,Dat.fits,Dat.fitss,List.length_map]
  exact ⟨q0,trivial,q2,⟨maxLen_I l3,fitss_of q3⟩,trivial⟩
theorem store_a {n : Nat} {xs : List AVal} (h : TyA Tryz.prog n tStoreL xs) : ∃ x : Store,.agg xs = x.enc ∧ x.d.fits:=by
 obtain ⟨m,rfl⟩:=tya_pos h
 obtain ⟨hl,hf⟩:=struct_of rfl h
 have hl : xs.length = 5:=hl
 obtain ⟨x0,ys0,rfl,hl0⟩:=len_succ hl
 obtain ⟨x1,ys1,rfl,hl1⟩:=len_succ hl0
 obtain ⟨x2,ys2,rfl,hl2⟩:=len_succ hl1
 obtain ⟨x3,ys3,rfl,hl3⟩:=len_succ hl2
 obtain ⟨x4,ys4,rfl,hl4⟩:=len_succ hl3
 have hx : ys4 = []:=List.length_eq_zero_iff.1 hl4
 subst hx
 obtain ⟨f0,hf⟩:=forall_cons hf
 have f0 : TyA Tryz.prog m tIntsL [x0]:=f0
 obtain ⟨f1,hf⟩:=forall_cons hf
 have f1 : TyA Tryz.prog m tRunsL [x1]:=f1
 obtain ⟨f2,hf⟩:=forall_cons hf
 have f2 : TyA Tryz.prog m tViewsL [x2]:=f2
 obtain ⟨f3,hf⟩:=forall_cons hf
 have f3 : TyA Tryz.prog m tInt [x3]:=f3
 obtain ⟨f4,hf⟩:=forall_cons hf
 have f4 : TyA Tryz.prog m tInt [x4]:=f4
 obtain ⟨wides,e0,q0⟩:=ints_a f0
 obtain ⟨tables,e1,q1⟩:=runs_a f1
 obtain ⟨m',rfl⟩:=tya_pos f2
 obtain ⟨views,e2,l2,q2⟩:=slice_of View.enc (fun x=>x.d.fits) rfl (fun ys hy=>view_a hy) f2
 obtain ⟨now,e3⟩:=int_a f3
 obtain ⟨keep,e4⟩:=int_a f4
 simp only [List.cons.injEq,and_true] at e0 e1 e2 e3 e4
 subst e0 e1 e2 e3 e4
 exact ⟨⟨wides,tables,views,now,keep⟩,rfl,by
  simp only [Store.d,Dat.fits,Dat.fitss,List.length_map]
  exact ⟨q0,q1,⟨maxLen_I l2,fitss_of q2⟩,trivial,trivial,trivial⟩⟩
end Go.Proofs.YtncgofhhnhebjaaGreat
/- THE PROGRAM's StoreRead RETURNS WHAT THE REFERENCE's RETURNS, FOR ALL ARGUMENTS. No condition. -/
set_option maxHeartbeats 4000000
namespace Go.Proofs.YtncgofhhnhebjaaGreat
open Go Go.Am Go.ChangeShapes Go.WideShapes Go.ChangeAt Go.RowKit
set_option maxRecDepth 100000
theorem knobs : ownKnob Tryz.prog.godebug = none:=by kernel_rfl
theorem laidOut : laidOutB Tryz.prog = true:=by kernel_rfl
def storeTypes : List TypeId:=[tInt,tBool,tCellL,tTestL,tPlanL,131,23,132,tItemL,tItemsL,tRunsL,tSpineL,tFlowL,tFlowsL,tPastL,tPastsL,tViewL,tViewsL,tStoreL]
theorem Read_lifted (os : Os) (started : os.Started) (H : Type) (enc : TypeId × Value → H) :
  ReturnsInHanded {} Tryz.checked os 4 .any (Rows.fnExactStoreReadSpec.pre6 enc Tryz.prog Tryz.f4 Rows.fnExactStoreReadRow.domain false) (Rows.fnExactStoreReadSpec.post enc Tryz.prog Tryz.f4 false true false false):=by
   refine returnsInHanded_of_change (C:=Tryz.checked) knobs started (by kernel_rfl) Tryz.func4
    (ChangeSpec.witness6 (enc:=enc) (C:=Tryz.checked) false ⟨#[],#[.agg #[.slice none 0 0,.slice none 0 0,.slice none 0 0,.int .i64 0,.int .i64 0],.int .i64 0,.int .i64 0],[]⟩ 8 (by kernel_rfl) (by kernel_rfl) (by kernel_rfl) (by kernel_rfl)) ?_
   intro W base args ds gs before hval hW hcnd _
   refine row_true (cf:=cfp pr2) cfOk2 (f:=4) (fn:=Tryz.f4) rfl rfl laidOut (by decide +kernel) (ts:=storeTypes) (by kernel_rfl) (by decide +kernel) (tb:=tBool) rfl rfl (fun _=>rfl) (fun H ds hl=>?_) (fun args ha=>?_) hval hW
   ·match ds,hl with
    | [d,e,f],_=>rfl
   ·have ha' : Args Tryz.prog [tStoreL,tInt,tInt] args:=ha
    cases ha' with
    | cons hx hr=>
     cases hr with
     | cons hy hr=>
      cases hr with
      | cons hz hr=>
       cases hr with
       | nil=>
        obtain ⟨s,hs,hq⟩:=store_a hx
        obtain ⟨i,hi⟩:=int_a hy
        obtain ⟨j,hj⟩:=int_a hz
        subst hi hj
        have e1 : ofCells Tryz.prog tStoreL _ = s.enc:=hs
        have e2 : ofCells Tryz.prog tInt [i64 i] = i64 i:=rfl
        have e3 : ofCells Tryz.prog tInt [i64 j] = i64 j:=rfl
        rw [e1,e2,e3]
        exact law_Read okc2 s i j hq
theorem fnExactStoreRead : Rows.FnExactStoreReadSaid:=
 OpenClaim.holds_of_wide 4 Tryz.f4 rfl rfl rfl rfl rfl rfl rfl ⟨rfl,rfl,rfl,rfl,rfl⟩ rfl rfl rfl rfl rfl (by kernel_rfl) Tryz.func4 (by kernel_rfl)
  (of_decide_eq_true (by kernel_rfl)) (by unfold Func.isWrapper; first | (rw [if_pos (by decide +kernel)]; kernel_rfl) | (rw [if_neg (by decide +kernel)]; exact ⟨rfl,rfl⟩))
  (fun os started H enc _=>Read_lifted os started H enc)
#print axioms fnExactStoreRead
end Go.Proofs.YtncgofhhnhebjaaGreat

/- l2Put. -/
import Derived.Test.YtebciagembenjaaDoorGH31
import Derived.Test.YtebciagembenjaaDoorGH30
import Derived.Test.YtebciagembenjaaDoorGH29
import Derived.LaidEql
import Derived.Stop.Asserts
import Derived.WalkKit
set_option linter.unusedVariables false
set_option linter.unusedSimpArgs false
/- The plain law: the order of rows; sorted lists put together. -/
set_option maxHeartbeats 4000000
namespace Go.Proofs.YtebciagembenjaaDoor
open Go Go.Am
theorem cmpL_self : ∀ a : List Int,cmpL a a = 0
 | []=>rfl
 | x :: xs=>by simp only [cmpL]; simp [cmpL_self xs]
theorem cmpL_anti : ∀ (a b : List Int),cmpL b a = -cmpL a b
 | [],[]=>rfl
 | [],_ :: _=>rfl
 | _ :: _,[]=>rfl
 | x :: xs,y :: ys=>by
  simp only [cmpL]
  by_cases h1 : x < y
  ·have : ¬ y < x:=by omega
   simp [h1,this]
  ·by_cases h2 : x > y
   ·have : y < x:=h2
    simp [h1,this]
   ·have e1 : ¬ y < x:=h2
    have e2 : ¬ y > x:=h1
    simp only [h1,h2,e1,e2,if_false]
    exact cmpL_anti xs ys
theorem cmpL_trans : ∀ {a b c : List Int},cmpL a b < 0 → cmpL b c < 0 → cmpL a c < 0
 | [],[],_,h,_=>by simp [cmpL] at h
 | [],_ :: _,[],_,h=>by simp [cmpL] at h
 | [],_ :: _,_ :: _,_,_=>by simp [cmpL]
 | _ :: _,[],_,h,_=>by simp [cmpL] at h
 | _ :: _,_ :: _,[],_,h=>by simp [cmpL] at h
 | x :: xs,y :: ys,z :: zs,h1,h2=>by
  have ih:=@cmpL_trans xs ys zs
  simp only [cmpL] at h1 h2 ⊢
  split at h1 <;> split at h2
  ·rw [if_pos (by omega)]; omega
  ·split at h2
   ·omega
   ·rw [if_pos (by omega)]; omega
  ·split at h1
   ·omega
   ·rw [if_pos (by omega)]; omega
  ·split at h1
   ·omega
   ·split at h2
    ·omega
    ·rw [if_neg (by omega),if_neg (by omega)]; exact ih h1 h2
theorem rowLess_iff (a b : List Int) : rowLess a b = true ↔ cmpL a b < 0:=by rw [← cmpL_lt]; simp
theorem rowLess_false (a b : List Int) : rowLess a b = false ↔ ¬ cmpL a b < 0:=by rw [← cmpL_lt]; simp
theorem listEq_refl (a : List Int) : listEq (· == ·) a a = true:=by
 induction a with
 | nil=>rfl
 | cons x xs ih=>simp [listEq,ih]
theorem rowSame_iff (a b : List Int) : rowSame a b = true ↔ a = b:=by
 unfold rowSame
 constructor
 ·intro h
  induction a generalizing b with
  | nil=>cases b with | nil=>rfl | cons y ys=>simp [listEq] at h
  | cons x xs ih=>
   cases b with
   | nil=>simp [listEq] at h
   | cons y ys=>
    simp only [listEq,Bool.and_eq_true,beq_iff_eq] at h
    rw [h.1,ih _ h.2]
 ·rintro rfl; exact listEq_refl a
theorem rowLess_irrefl (a : List Int) : rowLess a a = false:=by rw [rowLess_false,cmpL_self]; omega
theorem rowLess_trans {a b c : List Int} (h1 : rowLess a b = true) (h2 : rowLess b c = true) : rowLess a c = true:=by
 rw [rowLess_iff] at *
 exact cmpL_trans h1 h2
def Rises : List Item → Prop
 | []=>True
 | x :: xs=>(∀ y ∈ xs,rowLess x.row y.row = true) ∧ Rises xs
theorem zGo_rises {z : List Item} : ∀ {q : Option (List Int)},zGo q z = true → Rises z ∧ ∀ r,q = some r → ∀ y ∈ z,rowLess r y.row = true:=by
 induction z with
 | nil=>intro q _; exact ⟨trivial,fun r _ y hy=>by simp at hy⟩
 | cons x xs ih=>
  intro q h
  simp only [zGo,Bool.and_eq_true] at h
  obtain ⟨⟨h1,h2,h3⟩,h4⟩:=h
  obtain ⟨g1,g2⟩:=ih h4
  refine ⟨⟨fun y hy=>g2 _ rfl y hy,g1⟩,fun r hr y hy=>?_⟩
  subst hr
  simp only at h3
  rcases List.mem_cons.1 hy with rfl | hy
  ·exact h3
  ·exact rowLess_trans h3 (g2 _ rfl y hy)
theorem zOk_rises {z : List Item} (h : zOk z = true) : Rises z:=by
 simp only [zOk,Bool.and_eq_true] at h
 exact (zGo_rises h.2).1
theorem zGo_w {z : List Item} : ∀ {q : Option (List Int)},zGo q z = true → ∀ x ∈ z,wOk x.w = true ∧ rowOk x.row = true:=by
 induction z with
 | nil=>intro q _ x hx; simp at hx
 | cons y ys ih=>
  intro q h x hx
  simp only [zGo,Bool.and_eq_true] at h
  rcases List.mem_cons.1 hx with rfl | hx
  ·exact ⟨h.1.2.1,h.1.1⟩
  ·exact ih h.2 x hx
theorem zOk_w {z : List Item} (h : zOk z = true) : ∀ x ∈ z,x.w ≠ 0:=fun x hx=>by
 simp only [zOk,Bool.and_eq_true] at h
 have:=(zGo_w h.2 x hx).1
 intro e
 simp [wOk,e] at this
theorem addZ_cons {x : Item} {xs : List Item} {b : List Item} (h : ∀ y ∈ b,rowLess x.row y.row = true) : addZ (x :: xs) b = x :: addZ xs b:=by
 unfold addZ
 induction b generalizing xs with
 | nil=>rfl
 | cons y ys ih=>
  simp only [List.foldl_cons]
  rw [show putZ (x :: xs) y.row y.w = x :: putZ xs y.row y.w by rw [putZ,if_pos (h y (by simp))]]
  exact ih fun z hz=>h z (by simp [hz])
theorem addZ_nil_rises : ∀ {b : List Item},Rises b → (∀ x ∈ b,x.w ≠ 0) → addZ [] b = b
 | [],_,_=>rfl
 | y :: ys,hb,hw=>by
  have h1 : putZ [] y.row y.w = [y]:=by
   unfold putZ
   rw [if_neg (by simpa using hw y (by simp))]
  show addZ (putZ [] y.row y.w) ys = _
  rw [h1,addZ_cons hb.1,addZ_nil_rises hb.2 fun x hx=>hw x (by simp [hx])]
end Go.Proofs.YtebciagembenjaaDoor
/- errors.Is of the package's own error: Go's text, walked by the kit; a prim. -/
set_option maxHeartbeats 4000000
namespace Go.Proofs.YtebciagembenjaaDoor
open Go Go.Am Go.RowKit Go.Extern.Stop Go.Stop Go.Extern
set_option maxRecDepth 100000
theorem isTypeOf (v : Value) (w : World) : (Extern.ReflectliteType.typeOf #[.iface 112 v]).run Tryd.prog w = .ok (.iface 102 (.agg #[.pointer (some ⟨1,112,none⟩)])) w:=by kernel_rfl
def cmpE : Array Value → Sem Value := Extern.ReflectliteType.method fun t => do Extern.Rtype.noPackHeld "Comparable" t; pure (.bool (← typeInfo t).comparable)
theorem isComparable (w : World) : (cmpE #[.agg #[.pointer (some ⟨1,112,none⟩)]]).run Tryd.prog w = .ok (.bool true) w:=by kernel_rfl
theorem isMethodComparable (v : Value) (w : World) : (Go.method 252 102 v "Comparable").run Tryd.prog w = .ok (98, v) w := by kernel_rfl
theorem isComp : (Tryd.prog.info? 112).map (·.comparable) = some true:=by kernel_rfl
theorem isSize : (Tryd.prog.info? 139).map (·.size) = some 1:=by kernel_rfl
theorem is_same (a : Addr) (w : World) :
  Calls Tryd.prog 51 #[.iface 112 (.pointer (some a)),.iface 112 (.pointer (some a))] w fun e w'=>e = .returned (.bool true) ∧ w' = w:=by
   obtain ⟨i,hi,hcmp⟩:=Option.map_eq_some_iff.1 isComp
   obtain ⟨j,hj,hjs⟩:=Option.map_eq_some_iff.1 isSize
   have h8:=@run_callFunc_extern Tryd.prog 61 _ Extern.ReflectliteType.typeOf Tryd.func61 (by kernel_rfl) (by kernel_rfl) (by kernel_rfl) (by kernel_rfl)
   have h32:=@run_callFunc_extern Tryd.prog 98 _ cmpE Tryd.func98 (by kernel_rfl) (by kernel_rfl) (by kernel_rfl) (by kernel_rfl)
   have tT:=isTypeOf
   have cT:=isComparable
   have mR:=isMethodComparable
   have heq:=run_eql_iface_ptr_same (P:=Tryd.prog) w a Tryd.underlying75 Tryd.underlying112 hi hcmp hj
   go_enter Tryd.func51,Tryd.ntmps51
   go_wp2
   refine wp_loop_rounds 1 ?_
   rw [rounds_succ]
   go_wp2
   go_ret
   exact ⟨rfl,rfl⟩
theorem is_nil (b : Addr) (w : World) :
  Calls Tryd.prog 51 #[.nilIface,.iface 112 (.pointer (some b))] w fun e w'=>e = .returned (.bool false) ∧ w' = w:=by
   have hn:=run_eql_iface_nil_left (P:=Tryd.prog) w 112 (.pointer (some b)) Tryd.underlying75
   go_enter Tryd.func51,Tryd.ntmps51
   go_wp2
   go_ret
   exact ⟨rfl,rfl⟩
def isPr (args : List AVal) (h : Heap) : Option ARes:=match args with
 | [.nili,.gv g t]=>if t = 112 then some (.ret (.bool false) h) else none
 | [.gv g t,.gv g' t']=>if t = 112 ∧ g = g' then some (.ret (.bool true) h) else none
 | _=>none
theorem rep_gv {E : Env} {w : World} {g : Nat} {t : TypeId} {v : Value} (h : Rep E w (.gv g t) v) : ∃ a,v = .iface t (.pointer (some a)) ∧ w.cell? ⟨g,0,none⟩ = some v:=by
 cases h with
 | clo hc=>cases hc with | gv g t a hS hc=>exact ⟨a,rfl,hc⟩
theorem rep_nili {E : Env} {w : World} {v : Value} (h : Rep E w .nili v) : v = .nilIface:=by
 cases h with
 | clo hc=>cases hc; rfl
theorem isPr_sound {args : List AVal} {h : Heap} {r : ARes} (hr : isPr args h = some r) (E : Env) (w : World) (vs : Array Value) (s : Sim E h w) (hf : Full E h) (hreps : Reps E w args vs) : Calls Tryd.prog 51 vs w (Post E h w r):=by
 have two : ∀ a b : AVal,args = [a,b] → ∃ u v,vs = #[u,v] ∧ Rep E w a u ∧ Rep E w b v:=fun a b e=>by
  subst e
  obtain ⟨h1,h2⟩:=hreps
  have hs : vs.size = 2:=by simpa using h1.symm
  obtain ⟨l⟩:=vs
  match l,hs with
  | [u,v],_=>exact ⟨u,v,rfl,h2 0 _ _ rfl rfl,h2 1 _ _ rfl rfl⟩
 unfold isPr at hr
 split at hr
 ·split at hr
  ·rename_i g t ht
   subst ht
   cases hr
   obtain ⟨u,v,rfl,r1,r2⟩:=two _ _ rfl
   obtain ⟨a,rfl,_⟩:=rep_gv r2
   obtain rfl:=rep_nili r1
   refine Calls.mono (is_nil a w) fun e w' he=>?_
   obtain ⟨rfl,rfl⟩:=he
   exact ⟨.bool false,h,E,rfl,s,hf,Ext.refl E h _,.clo (.bool false)⟩
  ·cases hr
 ·split at hr
  ·rename_i g t g' t' ht
   obtain ⟨rfl,rfl⟩:=ht
   cases hr
   obtain ⟨u,v,rfl,r1,r2⟩:=two _ _ rfl
   obtain ⟨a,rfl,hc⟩:=rep_gv r2
   obtain ⟨b,rfl,hd⟩:=rep_gv r1
   rw [hc] at hd
   cases hd
   refine Calls.mono (is_same a w) fun e w' he=>?_
   obtain ⟨rfl,rfl⟩:=he
   exact ⟨.bool true,h,E,rfl,s,hf,Ext.refl E h _,.clo (.bool true)⟩
  ·cases hr
 ·cases hr
noncomputable def prE : Prims:=fun f=>if f == 51 then some isPr else pr2 f
theorem okE : Okp prE:=⟨fun f h=>by
 unfold prE
 rw [plain_ne h (g:=51) (by rfl)]
 exact ok2.out f h⟩
theorem prE_bad (f : FuncId) (h : bad f = true) : prE f ≠ none:=by
 unfold prE
 split
 ·exact fun e=>by cases e
 ·exact pr2_bad f h
theorem cfOkE : CfgOk (cfp prE):=cfOk_of prE_bad fun f p args h r hp hr E w vs hb s hf hg hreps=>by
 unfold prE at hp
 split at hp
 ·rename_i e
  have : f = 51:=by simpa using e
  subst this
  cases hp
  exact isPr_sound hr E w vs s hf hreps
 ·exact cfOk2.prims f p args h r hp hr E w vs hb s hf hg hreps
end Go.Proofs.YtebciagembenjaaDoor
/- l2Put. -/
set_option maxHeartbeats 4000000
namespace Go.Proofs.YtebciagembenjaaDoor
open Go Go.Am
variable {pr : Prims} (hp : Okp pr)
set_option maxRecDepth 100000
theorem dats_at {h : Heap} {L : List Chunk} {R : Chunk} {A B : List Item} {x : Item} {vs : List AVal} {F : List Nat} (S : Sepa h (R :: .dats ((A ++ x :: B).map Item.d) vs F :: L)) :
  ∃ P F1,vs[A.length]? = some (.agg [P,i64 x.w]) ∧ Own h (Ints.d x.row) P F1:=by
   have h1 : Owns h ((A ++ x :: B).map Item.d) vs F:=S.get 1 rfl
   rw [List.map_append,List.map_cons] at h1
   obtain ⟨v,F1,h2,h3⟩:=Owns.at h1
   obtain ⟨P,rfl,h4⟩:=Item.open h3
   exact ⟨P,F1,by simpa using h2,h4⟩
theorem l2Put_own (hp : Okp pr) (z : List Item) (r : List Int) (w : Int) (rv : AVal) (hl : z.length ≤ big) (hz : ∀ x ∈ z,x.row.length ≤ big) (hr : r.length ≤ big) {id : Nat} {vs : List AVal} {F : List Nat} {h : Heap} {L : List Chunk}
  (S0 : Sepa h (.row id (.arr 2 vs) :: .dats (z.map Item.d) vs F :: L)) (hrv : ∀ h',Sepa h' L → Am.snap h' rv = some (.sl (r.map i64))) {K : ARes → Prop}
  (hK : ∀ v' h' F',Sepa h' (.acd 2 ((putZ z r w).map Item.d) v' F' :: L) → K (.ret v' h')) : wpFG (cfp pr) 18 [.own id 0 z.length,rv,i64 w] h K:=by
   have hvl : vs.length = z.length:=by have:=Owns_len (S0.get 1 rfl); simpa using this
   have hrs : Am.snap h rv = some (.sl (r.map i64)):=hrv h ((S0.drop 0).drop 0)
   conv=>whnf
   refine loopG (fun m tm hp=>∃ (j : Nat) (A : List Item) (B : List Item),j + m = z.length ∧ tm 7 = i64 (j : Nat) ∧ (hp = h) ∧ (z = A ++ B ∧ A.length = j ∧ ∀ x ∈ A,rowLess x.row r = true)) (fun m tm hq hfr hI=>?_) (z.length) ⟨0,[],z,by simp,(by first | rfl | kernel_rfl | simp),(rfl),(⟨rfl,rfl,by simp⟩)⟩
   obtain ⟨j,A,B,hj,e7,hh,hAB⟩:=hI
   have k0:=hfr 0 (by kernel_rfl)
   conv at k0=>rhs; whnf
   rw [← upd_id k0]
   have k1:=hfr 1 (by kernel_rfl)
   conv at k1=>rhs; whnf
   rw [← upd_id k1]
   have k2:=hfr 2 (by kernel_rfl)
   conv at k2=>rhs; whnf
   rw [← upd_id k2]
   rw [← upd_id e7]
   clear hfr k0 k1 k2 e7
   have S : Sepa hq []:=Sepa.nil hq
   conv=>whnf
   subst hh
   obtain ⟨rfl,hAl,hA⟩:=hAB
   clear S
   have S:=S0
   clear S0
   rw [List.length_append] at hj
   have hjb : j < 4611686018427387904:=by simp [big] at hl; omega
   cases B with
   | nil=>
    rw [List.append_nil] at *
    simp only [List.length_nil] at hj
    subst hAl
    have hput : putZ A r w = if w == 0 then A else A ++ [⟨r,w⟩]:=by
     have:=putZ_less (B:=[]) (w:=w) hA
     rw [List.append_nil] at this
     rw [this]
     unfold putZ
     split <;> simp
    rw [hput] at hK
    conv=>whnf
    refine bsel_false (by simp) ?_
    conv=>whnf
    refine bsel_false (by simp) ?_
    conv=>whnf
    refine bsel_intro (fun g1=>?_) (fun g1=>?_)
    ·rw [if_pos g1] at hK
     conv=>whnf
     exact ⟨_,rfl,hK _ _ _ (Sepa.acdClose S (by simp))⟩
    ·rw [if_neg (by rw [g1]; simp)] at hK
     have h3:=l1Copy_n hp r hr
     have hbig : A.length + 1 ≤ sizeLim:=by simp only [sizeLim,big] at *; omega
     conv=>whnf
     refine ⟨_,S.row 0 rfl,⟨by simp,by simp,by simp⟩,?_⟩
     conv=>whnf
     refine ⟨trivial,?_⟩
     conv=>whnf
     refine ⟨[],elems_cut (S.row 0 rfl) (by simp; omega) (by simp),rfl,?_⟩
     refine .inl ⟨rfl,?_⟩
     conv=>whnf
     refine ⟨_,S.row 0 rfl,⟨by simp,by simp,by simp⟩,?_⟩
     conv=>whnf
     refine callD S h3 rfl (snapL1 (hrv _ ((S.drop 0).drop 0))) fun Q q3 F3 o3 S3=>?_
     clear S
     have S:=S3
     clear S3
     conv=>whnf
     refine cellsG_intro o3.cell.1 ?_
     conv=>whnf
     intro kv_ hv_ hkv_ hhv_
     replace S:=S.alloc hkv_ hhv_
     conv=>whnf
     refine ⟨trivial,?_⟩
     conv=>whnf
     refine ⟨[_],elems_row1 (S.row 0 rfl),elem_agg rfl (allc o3.cell.2 rfl),?_⟩
     replace S:=S.drop 0
     dsimp only [List.eraseIdx] at S
     replace S:=S.front 1 rfl
     dsimp only [List.eraseIdx] at S
     refine AppR_cut S (by simp; omega) (by simp; omega) fun k4 c4 S4=>?_
     clear S
     rw [List.take_of_length_le (by simp; omega)] at S4
     have S : Sepa c4 (.row k4 (.arr 2 (vs ++ [AVal.agg [Q,i64 w]])) :: _):=S4
     clear S4
     conv=>whnf
     refine ⟨trivial,?_⟩
     conv=>whnf
     refine ⟨[],rfl,rfl,?_⟩
     refine AppR_cut S (by simp; omega) (by simp; omega) fun k5 c5 S5=>?_
     clear S
     rw [List.take_of_length_le (by simp; omega),List.append_nil] at S5
     have S6:=S5.front 1 rfl
     dsimp only [List.eraseIdx] at S6
     have S7:=(item_of (w:=w) S6).front 2 rfl
     dsimp only [List.eraseIdx] at S7
     have S8:=(Sepa.snoc S7.swap).swap
     conv=>whnf
     exact ⟨_,rfl,hK _ _ _ (by rw [List.map_append]; exact Sepa.acdClose S8 (by simp))⟩
   | cons b B=>
    simp only [List.length_cons] at hj
    obtain ⟨VA,P,VB,F0,G,F2,rfl,hVA,S1⟩:=Sepa.datsAt S.swap
    replace S1:=(S1.front 3 rfl)
    dsimp only [List.eraseIdx] at S1
    have hP : Own hq (Ints.d b.row) P G:=S1.get 2 rfl
    have hbr:=hz b (by simp)
    have hidx : 0 + ((j : Nat) : Int).toNat = VA.length:=by rw [hVA,hAl]; simp
    have h1:=(sRowLess_r hp b.row r hbr hr).here (args:=[P,rv]) (snapL2 (Ints.snap hP) hrs) rfl rfl
    have h2:=(sRowSame_r hp b.row r hbr hr).here (args:=[P,rv]) (snapL2 (Ints.snap hP) hrs) rfl rfl
    have hlen : (A ++ b :: B).length = j + (B.length + 1):=by simp [hAl]
    have hbig : j + (B.length + 1) + 1 ≤ sizeLim:=by rw [← hlen]; simp only [sizeLim,big] at *; omega
    have hput : rowLess b.row r = false → putZ (A ++ b :: B) r w = if rowSame b.row r then (if addW b.w w == 0 then A ++ B else A ++ ⟨b.row,addW b.w w⟩ :: B) else if w == 0 then A ++ b :: B else A ++ ⟨r,w⟩ :: b :: B:=fun hb=>by
     rw [putZ_less hA]
     unfold putZ
     rw [if_neg (by rw [hb]; simp)]
     repeat' split
     all_goals rfl
    conv=>whnf
    refine bsel_true (by simp; omega) ?_
    conv=>whnf
    refine ⟨_,S.row 0 rfl,⟨by omega,by omega⟩,?_⟩
    conv=>whnf
    refine .inr ⟨_,_,_,S.row 0 rfl,rowGet hidx,?_⟩
    conv=>whnf
    refine ⟨_,h1,?_⟩
    conv=>whnf
    refine bsel_intro (fun g1=>?_) (fun g1=>?_)
    ·conv=>whnf
     exact ⟨m - 1,by omega,j + 1,A ++ [b],B,by omega,nat_step j hjb,rfl,by simp,by simp [hAl],fun x hx=>by
      rcases List.mem_append.1 hx with hx | hx
      ·exact hA x hx
      ·simp at hx; subst hx; exact g1⟩
    ·rw [hput g1] at hK
     clear hput S
     have S:=S1
     clear S1
     conv=>whnf
     refine bsel_true (by simp; omega) ?_
     conv=>whnf
     refine ⟨_,S.row 0 rfl,⟨by omega,by omega⟩,?_⟩
     conv=>whnf
     refine .inr ⟨_,_,_,S.row 0 rfl,rowGet hidx,?_⟩
     conv=>whnf
     refine ⟨_,h2,?_⟩
     conv=>whnf
     refine bsel_intro (fun g2=>?_) (fun g2=>?_)
     ·rw [if_pos g2] at hK
      conv=>whnf
      refine ⟨_,S.row 0 rfl,⟨by omega,by omega⟩,?_⟩
      conv=>whnf
      refine .inr ⟨_,_,_,S.row 0 rfl,rowGet hidx,?_⟩
      conv=>whnf
      refine ⟨_,S.row 0 rfl,⟨by omega,by omega⟩,?_⟩
      conv=>whnf
      refine ⟨_,rfl,rfl,rfl,.inr ⟨_,_,_,S.row 0 rfl,rowGet hidx,?_⟩⟩
      conv=>whnf
      intro c1 hh_c1
      replace S:=S.setRow 0 (e':=(.agg [P,i64 (addW b.w w)])) rfl hidx hh_c1
      clear hh_c1
      dsimp only [List.set] at S
      conv=>whnf
      refine ⟨_,S.row 0 rfl,⟨by omega,by omega⟩,?_⟩
      conv=>whnf
      refine .inr ⟨_,_,_,S.row 0 rfl,rowGet hidx,?_⟩
      conv=>whnf
      refine bsel_intro (fun g3=>?_) (fun g3=>?_)
      ·rw [if_pos g3] at hK
       have hw : IntKind.i64.wrap (((j : Nat) : Int) + 1) = (j : Int) + 1:=by rw [IntKind.wrap_i64]; omega
       have hVB : VB.all (elemOk 2) = true:=itemsD (S.get 3 rfl : Owns c1 (B.map Item.d) VB F2)
       have hVl : VB.length = B.length:=by have:=Owns_len (S.get 3 rfl : Owns c1 (B.map Item.d) VB F2); simpa using this
       conv=>whnf
       refine ⟨_,S.row 0 rfl,⟨by simp,by simp,by simp; omega⟩,?_⟩
       conv=>whnf
       refine ⟨_,S.row 0 rfl,⟨by rw [hw]; simp; omega,by rw [hw]; simp; omega,by simp⟩,?_⟩
       conv=>whnf
       refine ⟨trivial,?_⟩
       conv=>whnf
       refine ⟨VB,elems_cut (S.row 0 rfl) (by rw [hw]; simp; omega) ?_,hVB,?_⟩
       ·rw [hw]
        rw [show 0 + ((some ((j : Int) + 1)).getD 0).toNat = VA.length + 1 by simp; omega,show VA ++ AVal.agg [P,i64 (addW b.w w)] :: VB = (VA ++ [AVal.agg [P,i64 (addW b.w w)]]) ++ VB by simp,List.drop_left' (by simp)]
        rw [List.take_of_length_le]
        simp
        omega
       refine AppR_cut S (by simp; omega) (by simp; omega) fun k c2 S2=>?_
       conv=>whnf
       rw [show (VA ++ AVal.agg [P,i64 (addW b.w w)] :: VB).take (((some ((j : Nat) : Int)).getD ((A ++ b :: B).length : Nat)).toNat - ((none : Option Int).getD 0).toNat) = VA by
        rw [show ((some ((j : Nat) : Int)).getD ((A ++ b :: B).length : Nat)).toNat - ((none : Option Int).getD 0).toNat = VA.length by simp; omega,List.take_left]] at S2
       have S3:=((S2.drop 2).front 2 rfl).front 2 rfl
       dsimp only [List.eraseIdx] at S3
       have S4:=(Sepa.dappend S3).swap
       rw [← List.map_append] at S4
       exact ⟨_,rfl,hK _ _ _ (Sepa.acdClose S4 (by simp; omega))⟩
      ·rw [if_neg (by rw [g3]; simp)] at hK
       conv=>whnf
       have S2:=((S.front 3 rfl).front 3 rfl).front 3 rfl
       dsimp only [List.eraseIdx] at S2
       obtain ⟨F3,S3⟩:=Sepa.datsOf (w:=addW b.w w) S2
       exact ⟨_,rfl,hK _ _ _ (Sepa.acdClose S3.swap (by simp))⟩
     ·rw [if_neg (by rw [g2]; simp)] at hK
      conv=>whnf
      refine bsel_intro (fun g3=>?_) (fun g3=>?_)
      ·rw [if_pos g3] at hK
       conv=>whnf
       have S2:=((S.front 3 rfl).front 3 rfl).front 3 rfl
       dsimp only [List.eraseIdx] at S2
       obtain ⟨F3,S3⟩:=Sepa.datsOf (w:=b.w) S2
       exact ⟨_,rfl,hK _ _ _ (Sepa.acdClose S3.swap (by simp))⟩
      ·rw [if_neg (by rw [g3]; simp)] at hK
       have hVB : VB.all (elemOk 2) = true:=itemsD (S.get 3 rfl : Owns hq (B.map Item.d) VB F2)
       have hVl : VB.length = B.length:=by have:=Owns_len (S.get 3 rfl : Owns hq (B.map Item.d) VB F2); simpa using this
       have heb : elemOk 2 (.agg [P,i64 b.w]) = true:=by
        have:=elem_agg (cs:=[P,i64 b.w]) (sz:=2) rfl (allc hP.cell.2 rfl)
        rwa [List.all_cons,List.all_nil,Bool.and_true] at this
       have hEB : (AVal.agg [P,i64 b.w] :: VB).all (elemOk 2) = true:=by rw [List.all_cons,heb,hVB]; rfl
       have h3:=l1Copy_n hp r hr
       conv=>whnf
       refine ⟨_,S.row 0 rfl,⟨by simp,by simp; omega,by simp⟩,?_⟩
       conv=>whnf
       refine ⟨trivial,?_⟩
       conv=>whnf
       refine ⟨AVal.agg [P,i64 b.w] :: VB,elems_cut (S.row 0 rfl) (by simp; omega) ?_,hEB,?_⟩
       ·rw [show 0 + ((some ((j : Nat) : Int)).getD 0).toNat = VA.length by simp; omega,List.drop_left,List.take_of_length_le]
        simp
        omega
       refine AppR_nil S (by simp) (by simp; omega) fun k2 c2 S2=>?_
       clear S
       have S : Sepa c2 (.row k2 (.arr 2 (AVal.agg [P,i64 b.w] :: VB)) :: _):=S2
       clear S2
       conv=>whnf
       refine ⟨_,S.row 1 rfl,⟨by simp,by simp,by simp; omega⟩,?_⟩
       conv=>whnf
       refine callD S h3 rfl (snapL1 (hrv _ (((((S.drop 0).drop 0).drop 0).drop 0).drop 0))) fun Q q3 F3 o3 S3=>?_
       clear S
       have S:=S3
       clear S3
       conv=>whnf
       refine cellsG_intro o3.cell.1 ?_
       conv=>whnf
       intro kv_ hv_ hkv_ hhv_
       replace S:=S.alloc hkv_ hhv_
       conv=>whnf
       refine ⟨trivial,?_⟩
       conv=>whnf
       refine ⟨[_],elems_row1 (S.row 0 rfl),elem_agg rfl (allc o3.cell.2 rfl),?_⟩
       replace S:=S.drop 0
       dsimp only [List.eraseIdx] at S
       replace S:=S.front 2 rfl
       dsimp only [List.eraseIdx] at S
       refine AppR_cut S (by simp; omega) (by simp; omega) fun k4 c4 S4=>?_
       clear S
       rw [show (VA ++ AVal.agg [P,i64 b.w] :: VB).take (((some ((j : Nat) : Int)).getD ((A ++ b :: B).length : Nat)).toNat - ((none : Option Int).getD 0).toNat) = VA by
        rw [show ((some ((j : Nat) : Int)).getD ((A ++ b :: B).length : Nat)).toNat - ((none : Option Int).getD 0).toNat = VA.length by simp; omega,List.take_left]] at S4
       have S : Sepa c4 (.row k4 (.arr 2 (VA ++ [AVal.agg [Q,i64 w]])) :: _):=S4
       clear S4
       conv=>whnf
       refine ⟨trivial,?_⟩
       conv=>whnf
       refine ⟨AVal.agg [P,i64 b.w] :: VB,elems_cut (S.row 2 rfl) (by simp) (by simp),hEB,?_⟩
       refine AppR_cut S (by simp; omega) (by simp; omega) fun k5 c5 S5=>?_
       clear S
       rw [List.take_of_length_le (by simp; omega),List.append_assoc] at S5
       have S6:=(S5.drop 2).front 3 rfl
       dsimp only [List.eraseIdx] at S6
       have S7:=S6.is (c':=.dat b.d (.agg [P,i64 b.w]) (G ++ [])) (Own_g.2 ⟨_,rfl,OwnC_one (S6.get 0 rfl) (OwnC_int OwnC_no)⟩) (by simp [Chunk.dat])
       have S8:=Sepa.dcons (S7.front 4 rfl).swap
       dsimp only [List.eraseIdx] at S8
       have S9:=(S8.front 2 rfl).front 3 rfl
       dsimp only [List.eraseIdx] at S9
       obtain ⟨F9,S10⟩:=Sepa.datsOf (B:=b :: B) (w:=w) S9
       conv=>whnf
       exact ⟨_,rfl,hK _ _ _ (Sepa.acdClose S10.swap (by simp; omega))⟩
theorem l2Put_nil (hp : Okp pr) (r : List Int) (w : Int) (rv : AVal) (hr : r.length ≤ big) {h : Heap} {L : List Chunk} (S : Sepa h L) (hrv : ∀ h',Sepa h' L → Am.snap h' rv = some (.sl (r.map i64))) {K : ARes → Prop}
  (hK : ∀ v' h' F',Sepa h' (.acd 2 ((putZ [] r w).map Item.d) v' F' :: L) → K (.ret v' h')) : wpFG (cfp pr) 18 [.nil,rv,i64 w] h K:=by
   have h3:=l1Copy_n hp r hr
   unfold putZ at hK
   conv=>whnf
   refine loopG1 ?_
   conv=>whnf
   refine bsel_intro (fun g1=>?_) (fun g1=>?_)
   ·rw [if_pos g1] at hK
    conv=>whnf
    exact ⟨_,rfl,hK _ _ _ (Sepa.acd0 2 S)⟩
   ·rw [if_neg (by rw [g1]; simp)] at hK
    conv=>whnf
    refine ⟨⟨rfl,rfl⟩,?_⟩
    conv=>whnf
    refine ⟨trivial,?_⟩
    conv=>whnf
    refine ⟨[],rfl,rfl,?_⟩
    refine .inl ⟨rfl,?_⟩
    conv=>whnf
    refine ⟨⟨rfl,rfl⟩,?_⟩
    conv=>whnf
    refine callD S h3 rfl (snapL1 (hrv _ S)) fun Q q3 F3 o3 S3=>?_
    clear S
    have S:=S3
    clear S3
    conv=>whnf
    refine cellsG_intro o3.cell.1 ?_
    conv=>whnf
    intro kv_ hv_ hkv_ hhv_
    replace S:=S.alloc hkv_ hhv_
    conv=>whnf
    refine ⟨trivial,?_⟩
    conv=>whnf
    refine ⟨[_],elems_row1 (S.row 0 rfl),elem_agg rfl (allc o3.cell.2 rfl),?_⟩
    replace S:=S.drop 0
    dsimp only [List.eraseIdx] at S
    refine appD (sz:=2) ((Sepa.acd0 2 (item_of (w:=w) S))) (by simp [sizeLim]) fun k4 c4 F4 S4=>?_
    clear S
    have S:=S4
    clear S4
    conv=>whnf
    refine ⟨trivial,?_⟩
    conv=>whnf
    refine ⟨[],rfl,rfl,?_⟩
    rcases Sepa.acdOpen S with ⟨g1,_,_⟩ | ⟨id,vs,Fs,he,S5⟩
    ·simp at g1
    ·cases he
     have hvl : vs.length = 1:=by have:=Owns_len (S5.get 1 rfl); simpa using this
     refine AppR_cut S5 (by simp; omega) (by simp [sizeLim]) fun k5 c5 S6=>?_
     rw [List.take_of_length_le (by simp; omega),List.append_nil] at S6
     conv=>whnf
     exact ⟨_,rfl,hK _ _ _ (Sepa.acdClose (xs:=[Item.d ⟨r,w⟩]) S6 (by simp))⟩
include hp in
theorem callPut (z : List Item) (r : List Int) (w : Int) (rv : AVal) (hl : z.length ≤ big) (hz : ∀ x ∈ z,x.row.length ≤ big) (hr : r.length ≤ big) {v : AVal} {F : List Nat} {h : Heap} {L : List Chunk}
  (S : Sepa h (.acd 2 (z.map Item.d) v F :: L)) (hrv : ∀ h',Sepa h' L → Am.snap h' rv = some (.sl (r.map i64))) {K : ARes → Prop}
  (hK : ∀ v' h' F',Sepa h' (.acd 2 ((putZ z r w).map Item.d) v' F' :: L) → K (.ret v' h')) : ∃ x,callM (cfp pr) (call (cfp pr)) 18 [v,rv,i64 w] h = some x ∧ K x:=by
   rw [callF rfl]
   rcases Sepa.acdOpen S with ⟨g1,rfl,S1⟩ | ⟨id,vs,Fs,rfl,S1⟩
   ·have : z = []:=List.map_eq_nil_iff.1 g1
    subst this
    exact wpFG_sound (hp.out _ rfl) (l2Put_nil hp r w rv hr S1 hrv hK)
   ·rw [List.length_map]
    exact wpFG_sound (hp.out _ rfl) (l2Put_own hp z r w rv hl hz hr S1 hrv hK)
end Go.Proofs.YtebciagembenjaaDoor

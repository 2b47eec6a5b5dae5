/- The law's data are equal to themselves. (Printed by gensz.py.) -/
import Derived.Test.YtncgofhhnhebjaaGreatGH37
import Derived.Test.YtncgofhhnhebjaaGreatGH17
import Derived.Test.YtncgofhhnhebjaaGreatGH18
import Derived.Test.YtncgofhhnhebjaaGreatGSDe
set_option linter.unusedVariables false
set_option linter.unusedSimpArgs false
/- Runs: the program's. -/
set_option maxHeartbeats 4000000
namespace Go.Proofs.YtncgofhhnhebjaaGreat
open Go Go.Am
variable {pr : Prims} (hp : Okp pr)
set_option maxRecDepth 100000
def irunGo : List Item → List (List Item) → Bool
 | _,[]=>true
 | all,z :: rest=>(!z.isEmpty && (zOk z && zOk (mergeZ all z))) && irunGo (mergeZ all z) rest
def irunOk (runs : List (List Item)) : Bool:=decide (runs.length ≤ 5) && irunGo [] runs
theorem runsOk_r (hp : Okp pr) (runs : List (List Item)) (hr : runsm runs) : Ret pr 202 [Runs.enc runs] (.bool (irunOk runs)):=by
 obtain ⟨hl,hr⟩:=hr
 refine retg hp rfl rfl ?_
 have S : Sepa [] []:=Sepa.nil []
 conv=>whnf
 refine bsel_intro (fun h0=>?_) (fun h0=>?_)
 ·conv=>whnf
  exact g_bool (by have : ¬ runs.length ≤ 5 := by simp at h0; omega
                   simp [irunOk,this])
 have h5 : runs.length ≤ 5:=by simp at h0; omega
 have hz : irunOk runs = irunGo [] runs:=by simp [irunOk,h5]
 rw [hz]
 clear hz h0
 conv=>whnf
 refine loopG (fun m tm hp=>∃ (j : Nat) (V : AVal) (z : List Item),j + m = runs.length ∧ tm 3 = V ∧ tm 11 = i64 (j : Nat) ∧ ((zsm z ∧ z.length ≤ 100) ∧ snapL [] [V] = some [Items.enc z]) ∧ (irunGo [] runs = irunGo z (runs.drop j))) (fun m tm hq hfr hI=>?_) (runs.length) ⟨0,.nil,[],by simp,(by first | rfl | kernel_rfl | simp),(by first | rfl | kernel_rfl | simp),(⟨⟨⟨by simp,by simp⟩,by simp⟩,rfl⟩),(rfl)⟩
 obtain ⟨j,V,z,hj,e3,e11,hz,hall⟩:=hI
 have k9:=hfr 9 (by kernel_rfl)
 conv at k9=>rhs; whnf
 rw [← upd_id k9]
 have k10:=hfr 10 (by kernel_rfl)
 conv at k10=>rhs; whnf
 rw [← upd_id k10]
 rw [← upd_id e3]
 rw [← upd_id e11]
 clear hfr k9 k10 e3 e11
 have S : Sepa hq []:=Sepa.nil hq
 conv=>whnf
 obtain ⟨⟨hz,hz2⟩,hV⟩:=hz
 have hV : Am.snap [] V = some (Items.enc z):=by
  unfold snapL at hV
  simp only [mapO] at hV
  cases h : Am.snap [] V with
  | none=>rw [h] at hV; cases hV
  | some q=>rw [h] at hV; simpa using hV
 have hlb:=hl
 unfold big at hlb
 refine bsel_intro (fun h1=>?_) (fun h1=>?_)
 ·have hjl : j < runs.length:=by simpa using h1
  have hge : (runs.map Items.enc)[((j : Nat) : Int).toNat]? = some (Items.enc runs[j]):=by rw [Int.toNat_natCast]; simp [hjl]
  rw [List.drop_eq_getElem_cons hjl] at hall
  have hx:=hr _ (List.getElem_mem hjl)
  generalize runs[j] = x at hge hall hx
  simp only [irunGo] at hall
  have hxl:=hx.1
  unfold big at hxl
  by_cases hxz : x.length ≤ 100
  ·have hmz : zsm (mergeZ z x):=mergeZ_zsm hz hx (by simp [big]; omega)
   have h2:=(together_r hp z x hz hx).snapped (args:=[V,Items.enc x]) (snapL2 hV rfl) rfl
   have h3:=iZOk_r hp x hx
   have h4:=iZOk_r hp (mergeZ z x) hmz
   conv=>whnf
   refine ⟨_,hge,by omega,rfl,?_⟩
   conv=>whnf
   refine ⟨_,h2 _,?_⟩
   conv=>whnf
   refine bsel_intro (fun g1=>?_) (fun g1=>?_)
   ·conv=>whnf
    exact g_bool (by rw [hall]; have : x = []:=List.length_eq_zero_iff.1 (by simpa using g1); subst this; rfl)
   ·have hne : x.isEmpty = false:=by cases x with | nil=>simp at g1 | cons a b=>rfl
    rw [hne] at hall
    conv=>whnf
    refine ⟨_,h3 _,?_⟩
    conv=>whnf
    refine bsel_intro (fun g2=>?_) (fun g2=>?_)
    ·rw [g2] at hall
     conv=>whnf
     refine ⟨_,h4 _,?_⟩
     conv=>whnf
     refine bsel_intro (fun g3=>?_) (fun g3=>?_)
     ·rw [g3] at hall
      conv=>whnf
      exact ⟨m - 1,by omega,j + 1,_,mergeZ z x,by omega,rfl,nat_step j (by omega),⟨⟨hmz,(zOk_row g3).1⟩,rfl⟩,hall⟩
     ·rw [g3] at hall
      conv=>whnf
      exact g_bool (by rw [hall]; rfl)
    ·rw [g2] at hall
     conv=>whnf
     exact g_bool (by rw [hall]; rfl)
  ·have hnz : zOk x = false:=by simp [zOk,hxz]
   have hmz : zsm (mergeZ z x) ∨ True:=.inr trivial
   have h2:=(together_r hp z x hz hx).snapped (args:=[V,Items.enc x]) (snapL2 hV rfl) rfl
   have h3:=iZOk_r hp x hx
   rw [hnz] at h3 hall
   conv=>whnf
   refine ⟨_,hge,by omega,rfl,?_⟩
   conv=>whnf
   refine ⟨_,h2 _,?_⟩
   conv=>whnf
   refine bsel_false (by simp; intro e; rw [e] at hxz; simp at hxz) ?_
   conv=>whnf
   refine ⟨_,h3 _,?_⟩
   conv=>whnf
   exact g_bool (by rw [hall]; simp)
 ·have hjl : j = runs.length:=by
   have : ¬ j < runs.length:=by simpa using h1
   omega
  subst hjl
  rw [List.drop_length] at hall
  conv=>whnf
  exact g_bool (by rw [hall]; rfl)
theorem iRunOk_r (hp : Okp pr) (runs : List (List Item)) (hr : runsm runs) : Ret pr 182 [.agg [Runs.enc runs]] (.bool (irunOk runs)):=by
 have h:=runsOk_r hp runs hr
 refine retg hp rfl rfl ?_
 have S : Sepa [] []:=Sepa.nil []
 iterate 4
  all_goals (try (conv=>whnf))
  all_goals (first | (intro ka_ ha_ hk_ hh_; replace S:=S.alloc hk_ hh_) | (refine .inl ⟨_,S.row 0 rfl,rfl,?_⟩) | (refine .inl ⟨_,S.row 1 rfl,rfl,?_⟩) | (refine .inl ⟨_,S.row 2 rfl,rfl,?_⟩) | (refine .inl ⟨_,S.row 3 rfl,rfl,?_⟩) | (refine .inl ⟨_,S.row 4 rfl,rfl,?_⟩) | (refine ⟨_,rfl,rfl,rfl,.inl ⟨_,S.row 0 rfl,rfl,?_⟩⟩; (conv=>whnf); intro ha_ hh_; replace S:=S.set 0 rfl hh_; dsimp only [List.set] at S) | (refine ⟨_,rfl,rfl,rfl,.inl ⟨_,S.row 1 rfl,rfl,?_⟩⟩; (conv=>whnf); intro ha_ hh_; replace S:=S.set 1 rfl hh_; dsimp only [List.set] at S) | (refine ⟨_,rfl,rfl,rfl,.inl ⟨_,S.row 2 rfl,rfl,?_⟩⟩; (conv=>whnf); intro ha_ hh_; replace S:=S.set 2 rfl hh_; dsimp only [List.set] at S) | (refine ⟨_,rfl,rfl,rfl,.inl ⟨_,S.row 3 rfl,rfl,?_⟩⟩; (conv=>whnf); intro ha_ hh_; replace S:=S.set 3 rfl hh_; dsimp only [List.set] at S) | (refine ⟨_,rfl,rfl,rfl,.inl ⟨_,S.row 4 rfl,rfl,?_⟩⟩; (conv=>whnf); intro ha_ hh_; replace S:=S.set 4 rfl hh_; dsimp only [List.set] at S) | (refine bsel_intro (fun hb=>?_) (fun hb=>?_)) | (refine ⟨_,h _,?_⟩) | skip)
 all_goals exact g_bool hb.symm
end Go.Proofs.YtncgofhhnhebjaaGreat
/- The reference's PlanSame, whole. -/
set_option maxHeartbeats 4000000
namespace Go.Proofs.YtncgofhhnhebjaaGreat
open Go Go.Am
variable {pr : Prims} (hp : Okp pr)
set_option maxRecDepth 100000
theorem sPlanSame_r' (hp : Okp pr) : ∀ (N : Nat) (p : Plan),SizeOf.sizeOf p ≤ N → p.small → ∀ q,q.small → Ret pr 144 [p.enc,q.enc] (.bool (planEq p q)):=by
 intro N
 induction N with
 | zero=>intro p h; exfalso; cases p; simp at h
 | succ N ih=>
  intro p hs hsm q hsq
  obtain ⟨kind,n,test,cells,a,b,keys,agg,c,kids⟩:=p
  obtain ⟨kind',n',test',cells',a',b',keys',agg',c',kids'⟩:=q
  obtain ⟨hsc,hsk,hskids,hsks⟩:=small_split hsm
  obtain ⟨hsc',hsk',hskids',hsks'⟩:=small_split hsq
  have hk:=l4Ints_r hp keys keys' (by omega) (by omega)
  have hf : ∀ p ∈ kids,∀ q ∈ kids',Ret pr 144 [p.enc,q.enc] (.bool (planEq p q)):=fun p hpm q hq=>ih p (by have:=List.sizeOf_lt_of_mem hpm; simp at hs; omega) (hsks p hpm) q (hsks' q hq)
  have hL:=encs_len kids
  have hL':=encs_len kids'
  have e1 : (((cells.map Cell.enc).length : Int) != ((cells'.map Cell.enc).length : Int)) = true → listEq cellEq cells cells' = false:=fun h=>listEq_ne (by simp at h; omega)
  have e2 : (((Plan.encs kids).length : Int) != ((Plan.encs kids').length : Int)) = true → planEqs kids kids' = false:=fun h=>by rw [planEqs_eq]; exact listEq_ne (by simp [hL,hL'] at h; omega)
  refine ret_of hp rfl rfl ?_
  iterate 22
   all_goals (try (conv=>whnf))
   all_goals (first | (refine bsel_intro (fun hb=>?_) (fun hb=>?_)) | (refine ⟨_,testEq test test',eqS_test,rfl,?_⟩) | (refine ⟨_,hk _,?_⟩) | skip)
  all_goals (try (refine fin_bool ?_; clear hk hf ih hs hsm hsq hsks hsks' hsc hsk hskids hsc' hsk' hskids' hL hL'; simp_all [planEq,Plan.kind,Plan.n,Plan.test,Plan.cells,Plan.a,Plan.b,Plan.keys,Plan.agg,Plan.col,Plan.kids]; done))
  rename_i b1 b2 b3 b4 b5 b6 b7 b8 b9
  have hcl : cells.length = cells'.length:=by simp at b9; omega
  have hkl : kids.length = kids'.length:=by simp [hL,hL'] at hb; omega
  have hpe : planEq (Plan.mk kind n test cells a b keys agg c kids) (Plan.mk kind' n' test' cells' a' b' keys' agg' c' kids') = (listEq cellEq cells cells' && planEqs kids kids'):=by
   clear hk hf ih hs hsm hsq hsks hsks' hsc hsk hskids hsc' hsk' hskids' hL hL' e1 e2 b9 hb hcl hkl
   simp_all [planEq,Plan.kind,Plan.n,Plan.test,Plan.cells,Plan.a,Plan.b,Plan.keys,Plan.agg,Plan.col,Plan.kids]
  rw [hpe]
  clear b1 b2 b3 b4 b5 b6 b7 b8 b9 hb hpe e1 e2 hs ih hk
  have H0 : ∀ (t : Nat → AVal),True:=fun _=>trivial
  refine loop_rule (fun m st=>∃ j : Nat,j + m = cells.length ∧ st.tm 2 = .ptr 0 0 0 ∧ st.tm 3 = .ptr 1 0 0 ∧ st.tm 5 = i64 (j : Nat) ∧ st.hp = [.box (Plan.mk kind n test cells a b keys agg c kids).enc,.box (Plan.mk kind' n' test' cells' a' b' keys' agg' c' kids').enc] ∧ listEq cellEq cells cells' = listEq cellEq (cells.drop j) (cells'.drop j)) (fun m st hI=>?_) cells.length _ ⟨0,by simp,rfl,rfl,rfl,rfl,rfl⟩
  obtain ⟨j,hj,e2,e3,e5,hh,hall⟩:=hI
  obtain ⟨tm,hq⟩:=st
  simp only at e2 e3 e5 hh
  subst hh
  rw [show tm = upd (upd (upd tm 2 (.ptr 0 0 0)) 3 (.ptr 1 0 0)) 5 (i64 (j : Nat)) by rw [upd_id e2,upd_id e3,upd_id e5]]
  clear e2 e3 e5
  conv=>whnf
  refine bsel_intro (fun h1=>?_) (fun h1=>?_)
  ·have hjl : j < cells.length:=by simpa using h1
   rw [listEq_step hjl (by omega)] at hall
   conv=>whnf
   refine ⟨(cells[j]).enc,by simp [hjl],by omega,rfl,?_⟩
   conv=>whnf
   refine ⟨(cells'[j]).enc,by simp [show j < cells'.length by omega],by omega,rfl,?_⟩
   conv=>whnf
   refine ⟨_,cellEq cells[j] cells'[j],eqS_cell,rfl,?_⟩
   refine bsel_intro (fun h2=>?_) (fun h2=>?_)
   ·conv=>whnf
    exact ⟨m - 1,by omega,j + 1,by omega,rfl,rfl,nat_step j (by omega),rfl,by rw [hall,h2]; rfl⟩
   ·conv=>whnf
    exact fin_bool (by rw [hall,h2]; rfl)
  ·have hjl : j = cells.length := by have : ¬ j < cells.length := by simpa using h1
                                     omega
   subst hjl
   rw [listEq_end hcl] at hall
   rw [hall,Bool.true_and,planEqs_eq]
   clear hall
   conv=>whnf
   refine loop_rule (fun m st=>∃ j : Nat,j + m = kids.length ∧ st.tm 2 = .ptr 0 0 0 ∧ st.tm 3 = .ptr 1 0 0 ∧ st.tm 6 = i64 (j : Nat) ∧ st.hp = [.box (Plan.mk kind n test cells a b keys agg c kids).enc,.box (Plan.mk kind' n' test' cells' a' b' keys' agg' c' kids').enc] ∧ listEq planEq kids kids' = listEq planEq (kids.drop j) (kids'.drop j)) (fun m st hI=>?_) kids.length _ ⟨0,by simp,rfl,rfl,rfl,rfl,rfl⟩
   obtain ⟨j,hj,e2,e3,e6,hh,hall⟩:=hI
   obtain ⟨tm,hq⟩:=st
   simp only at e2 e3 e6 hh
   subst hh
   rw [show tm = upd (upd (upd tm 2 (.ptr 0 0 0)) 3 (.ptr 1 0 0)) 6 (i64 (j : Nat)) by rw [upd_id e2,upd_id e3,upd_id e6]]
   clear e2 e3 e6
   conv=>whnf
   refine bsel_intro (fun h1=>?_) (fun h1=>?_)
   ·have hjl : j < kids.length:=by simpa [hL] using h1
    rw [listEq_step hjl (by omega)] at hall
    have hih:=hf kids[j] (List.getElem_mem hjl) kids'[j] (List.getElem_mem _)
    have g1 : (Plan.encs kids)[((j : Nat) : Int).toNat]? = some kids[j].enc:=by rw [Int.toNat_natCast,encs_get,List.getElem?_eq_getElem hjl]; rfl
    have g2 : (Plan.encs kids')[((j : Nat) : Int).toNat]? = some kids'[j].enc:=by rw [Int.toNat_natCast,encs_get,List.getElem?_eq_getElem (show j < kids'.length by omega)]; rfl
    generalize kids[j] = x at hih hall g1
    generalize kids'[j] = y at hih hall g2
    obtain ⟨kind3,n3,test3,cells3,a3,b3,keys3,agg3,c3,kids3⟩:=x
    obtain ⟨kind4,n4,test4,cells4,a4,b4,keys4,agg4,c4,kids4⟩:=y
    conv=>whnf
    refine ⟨_,g1,by omega,rfl,?_⟩
    conv=>whnf
    refine ⟨_,g2,by omega,rfl,?_⟩
    conv=>whnf
    refine ⟨_,hih _,?_⟩
    conv=>whnf
    refine bsel_intro (fun h2=>?_) (fun h2=>?_)
    ·conv=>whnf
     exact ⟨m - 1,by omega,j + 1,by omega,rfl,rfl,nat_step j (by omega),rfl,by rw [hall,h2]; rfl⟩
    ·conv=>whnf
     exact fin_bool (by rw [hall,h2]; rfl)
   ·have hjl : j = kids.length := by have : ¬ j < kids.length := by simpa [hL] using h1
                                     omega
    subst hjl
    rw [listEq_end hkl] at hall
    conv=>whnf
    exact fin_bool hall.symm
theorem sPlanSame_r (hp : Okp pr) (p q : Plan) (hsm : p.small) (hsq : q.small) : Ret pr 144 [p.enc,q.enc] (.bool (planEq p q)):=sPlanSame_r' hp _ p (Nat.le_refl _) hsm q hsq
end Go.Proofs.YtncgofhhnhebjaaGreat
/- The law's own functions: copies of plans, comparisons, sizes. -/
set_option maxHeartbeats 4000000
namespace Go.Proofs.YtncgofhhnhebjaaGreat
open Go Go.Am
variable {pr : Prims} (hp : Okp pr)
set_option maxRecDepth 100000
theorem eqCell_r (hp : Okp pr) (c : Cell) : Ret pr 212 [c.enc,c.enc] (.bool true):=by
 obtain ⟨k,a,b,n⟩:=c
 have h : ∀ x : Int,(x != x) = false:=fun x=>by simp
 refine ret_of hp rfl rfl ?_
 iterate 6
  all_goals (try (conv=>whnf))
  all_goals (first | (refine bsel_false (h _) ?_) | (refine bsel_intro (fun hb=>?_) (fun hb=>?_)) | skip)
 exact fin_bool rfl
theorem eqTest_r (hp : Okp pr) (t : Test) : Ret pr 199 [t.enc,t.enc] (.bool true):=by
 obtain ⟨k,no,l,r⟩:=t
 have h : ∀ x : Int,(x != x) = false:=fun x=>by simp
 have hl:=eqCell_r hp l
 have hr:=eqCell_r hp r
 refine ret_of hp rfl rfl ?_
 cases no
 iterate 2
  ·iterate 6
    all_goals (try (conv=>whnf))
    all_goals (first | (refine bsel_false (h _) ?_) | (refine bsel_intro (fun hb=>?_) (fun hb=>?_)) | (refine ⟨_,hl _,?_⟩) | (refine ⟨_,hr _,?_⟩) | skip)
   exact fin_bool rfl
theorem eqCellS_r (hp : Okp pr) (xs : List Cell) (hl : xs.length ≤ 1048576) : Ret pr 200 [.sl (xs.map Cell.enc),.sl (xs.map Cell.enc)] (.bool true):=by
 have h : ∀ x : Int,(x != x) = false:=fun x=>by simp
 refine ret_of hp rfl rfl ?_
 conv=>whnf
 refine bsel_false (h _) ?_
 conv=>whnf
 refine loop_rule (fun m st=>∃ j : Nat,j + m = xs.length ∧ st.tm 0 = .sl (xs.map Cell.enc) ∧ st.tm 1 = .sl (xs.map Cell.enc) ∧ st.tm 5 = i64 (j : Nat) ∧ st.hp = []) (fun m st hI=>?_) (xs.length) _ ⟨0,by simp,(by first | kernel_rfl | rfl | simp),(by first | kernel_rfl | rfl | simp),(by first | kernel_rfl | rfl | simp),(by first | kernel_rfl | rfl | simp)⟩
 obtain ⟨j,hj,e0,e1,e5,hh⟩:=hI
 obtain ⟨tm,hq⟩:=st
 simp only at e0 e1 e5 hh
 subst hh
 rw [show tm = upd (upd (upd tm 0 (.sl (xs.map Cell.enc))) 1 (.sl (xs.map Cell.enc))) 5 (i64 (j : Nat)) by rw [upd_id e0,upd_id e1,upd_id e5]]
 clear e0 e1 e5
 conv=>whnf
 refine bsel_intro (fun h1=>?_) (fun h1=>?_)
 ·have hjl : j < xs.length:=by simpa using h1
  conv=>whnf
  refine ⟨(xs[j]).enc,by simp [hjl],by omega,rfl,?_⟩
  conv=>whnf
  refine ⟨(xs[j]).enc,by simp [hjl],by omega,rfl,?_⟩
  conv=>whnf
  refine ⟨_,eqCell_r hp xs[j] _,?_⟩
  conv=>whnf
  exact ⟨m - 1,by omega,j + 1,by omega,rfl,rfl,nat_step j (by omega),rfl⟩
 ·conv=>whnf
  exact fin_bool rfl
theorem eqIntS_r (hp : Okp pr) (xs : List Int) (hl : xs.length ≤ 1048576) : Ret pr 50 [.sl (xs.map i64),.sl (xs.map i64)] (.bool true):=by
 have h : ∀ x : Int,(x != x) = false:=fun x=>by simp
 refine ret_of hp rfl rfl ?_
 conv=>whnf
 refine bsel_false (h _) ?_
 conv=>whnf
 refine loop_rule (fun m st=>∃ j : Nat,j + m = xs.length ∧ st.tm 0 = .sl (xs.map i64) ∧ st.tm 1 = .sl (xs.map i64) ∧ st.tm 5 = i64 (j : Nat) ∧ st.hp = []) (fun m st hI=>?_) (xs.length) _ ⟨0,by simp,(by first | kernel_rfl | rfl | simp),(by first | kernel_rfl | rfl | simp),(by first | kernel_rfl | rfl | simp),(by first | kernel_rfl | rfl | simp)⟩
 obtain ⟨j,hj,e0,e1,e5,hh⟩:=hI
 obtain ⟨tm,hq⟩:=st
 simp only at e0 e1 e5 hh
 subst hh
 rw [show tm = upd (upd (upd tm 0 (.sl (xs.map i64))) 1 (.sl (xs.map i64))) 5 (i64 (j : Nat)) by rw [upd_id e0,upd_id e1,upd_id e5]]
 clear e0 e1 e5
 conv=>whnf
 refine bsel_intro (fun h1=>?_) (fun h1=>?_)
 ·have hjl : j < xs.length:=by simpa using h1
  conv=>whnf
  refine ⟨i64 xs[j],by simp [hjl],by omega,rfl,?_⟩
  conv=>whnf
  refine ⟨i64 xs[j],by simp [hjl],by omega,rfl,?_⟩
  conv=>whnf
  refine bsel_false (h _) ?_
  conv=>whnf
  exact ⟨m - 1,by omega,j + 1,by omega,rfl,rfl,nat_step j (by omega),rfl⟩
 ·conv=>whnf
  exact fin_bool rfl
theorem eqPlanS_r (hp : Okp pr) (xs : List Plan) (hl : xs.length ≤ 1048576) (ih : ∀ p ∈ xs,Ret pr 176 [p.enc,p.enc] (.bool true)) : Ret pr 201 [.sl (Plan.encs xs),.sl (Plan.encs xs)] (.bool true):=by
 have h : ∀ x : Int,(x != x) = false:=fun x=>by simp
 refine ret_of hp rfl rfl ?_
 conv=>whnf
 refine bsel_false (h _) ?_
 conv=>whnf
 refine loop_rule (fun m st=>∃ j : Nat,j + m = xs.length ∧ st.tm 0 = .sl (Plan.encs xs) ∧ st.tm 1 = .sl (Plan.encs xs) ∧ st.tm 5 = i64 (j : Nat) ∧ st.hp = []) (fun m st hI=>?_) (xs.length) _ ⟨0,by simp,(by first | kernel_rfl | rfl | simp),(by first | kernel_rfl | rfl | simp),(by first | kernel_rfl | rfl | simp),(by first | kernel_rfl | rfl | simp)⟩
 obtain ⟨j,hj,e0,e1,e5,hh⟩:=hI
 obtain ⟨tm,hq⟩:=st
 simp only at e0 e1 e5 hh
 subst hh
 rw [show tm = upd (upd (upd tm 0 (.sl (Plan.encs xs))) 1 (.sl (Plan.encs xs))) 5 (i64 (j : Nat)) by rw [upd_id e0,upd_id e1,upd_id e5]]
 clear e0 e1 e5
 conv=>whnf
 refine bsel_intro (fun h1=>?_) (fun h1=>?_)
 ·have hjl : j < xs.length:=by simpa [encs_len] using h1
  have hge : (Plan.encs xs)[((j : Nat) : Int).toNat]? = some xs[j].enc:=by rw [Int.toNat_natCast,encs_get]; simp [hjl]
  have hih:=ih xs[j] (List.getElem_mem hjl)
  generalize xs[j] = q at hge hih
  obtain ⟨kind,n,test,cells,a,b,keys,agg,c,kids⟩:=q
  conv=>whnf
  refine ⟨_,hge,by omega,rfl,?_⟩
  conv=>whnf
  refine ⟨_,hge,by omega,rfl,?_⟩
  conv=>whnf
  refine ⟨_,hih _,?_⟩
  conv=>whnf
  exact ⟨m - 1,by omega,j + 1,by omega,rfl,rfl,nat_step j (by omega),rfl⟩
 ·conv=>whnf
  exact fin_bool rfl
theorem eqPlan_r' (hp : Okp pr) : ∀ (N : Nat) (p : Plan),SizeOf.sizeOf p ≤ N → p.small → Ret pr 176 [p.enc,p.enc] (.bool true):=by
 intro N
 induction N with
 | zero=>intro p h; exfalso; cases p; simp at h
 | succ N ih=>
  intro p hs hsm
  obtain ⟨kind,n,test,cells,a,b,keys,agg,c,kids⟩:=p
  obtain ⟨hsc,hsk,hskids,hsks⟩:=small_split hsm
  have h : ∀ x : Int,(x != x) = false:=fun x=>by simp
  have h1:=eqTest_r hp test
  have h2:=eqCellS_r hp cells hsc
  have h3:=eqIntS_r hp keys hsk
  have h4:=eqPlanS_r hp kids hskids fun q hq=>ih q (by have:=List.sizeOf_lt_of_mem hq; simp at hs; omega) (hsks q hq)
  refine ret_of hp rfl rfl ?_
  iterate 12
   all_goals (try (conv=>whnf))
   all_goals (first | (refine bsel_false (h _) ?_) | (refine bsel_intro (fun hb=>?_) (fun hb=>?_)) | (refine ⟨_,h1 _,?_⟩) | (refine ⟨_,h2 _,?_⟩) | (refine ⟨_,h3 _,?_⟩) | (refine ⟨_,h4 _,?_⟩) | skip)
  exact fin_bool rfl
theorem eqPlan_r (hp : Okp pr) (p : Plan) (hsm : p.small) : Ret pr 176 [p.enc,p.enc] (.bool true):=eqPlan_r' hp _ p (Nat.le_refl _) hsm
mutual
def Plan.fits : Plan → Prop
 | .mk kind n test cells a b keys agg c kids=>cells.length ≤ 9223372036854775807 ∧ keys.length ≤ 9223372036854775807 ∧ kids.length ≤ 9223372036854775807 ∧ Plan.fitss kids
def Plan.fitss : List Plan → Prop
 | []=>True
 | p :: ps=>p.fits ∧ Plan.fitss ps
end
theorem fitss_iff (ps : List Plan) : Plan.fitss ps ↔ ∀ p ∈ ps,p.fits:=by
 induction ps with
 | nil=>simp [Plan.fitss]
 | cons p ps ih=>simp [Plan.fitss,ih]
def szR (left : Int) (k : Nat) : Int:=if left < k then -1 else left - k
theorem szR_wrap {left : Int} {k : Nat} (h0 : 0 ≤ left) (h1 : left ≤ 1048576) (hk : k ≤ 9223372036854775807) : IntKind.i64.wrap (left - (k : Int)) = left - k:=by
 rw [IntKind.wrap_i64]; omega
theorem szCellS_r (hp : Okp pr) (xs : List Cell) (left : Int) (h0 : 0 ≤ left) (h1 : left ≤ 1048576) (hl : xs.length ≤ 9223372036854775807) : Ret pr 194 [.sl (xs.map Cell.enc),i64 left] (i64 (szR left xs.length)):=by
 have hw:=szR_wrap (k:=(xs.map Cell.enc).length) h0 h1 (by simpa using hl)
 refine ret_of hp rfl rfl ?_
 iterate 3
  all_goals (try (conv=>whnf))
  all_goals (first | (refine bsel_intro (fun hb=>?_) (fun hb=>?_)) | skip)
 all_goals exact fin_int (by rw [hw] at *; simp [szR] at *; omega)
theorem szIntS_r (hp : Okp pr) (xs : List Int) (left : Int) (h0 : 0 ≤ left) (h1 : left ≤ 1048576) (hl : xs.length ≤ 9223372036854775807) : Ret pr 43 [.sl (xs.map i64),i64 left] (i64 (szR left xs.length)):=by
 have hw:=szR_wrap (k:=(xs.map i64).length) h0 h1 (by simpa using hl)
 refine ret_of hp rfl rfl ?_
 iterate 3
  all_goals (try (conv=>whnf))
  all_goals (first | (refine bsel_intro (fun hb=>?_) (fun hb=>?_)) | skip)
 all_goals exact fin_int (by rw [hw] at *; simp [szR] at *; omega)
end Go.Proofs.YtncgofhhnhebjaaGreat
/- The law's data are equal to themselves. (Printed by gensz.py.) -/
set_option maxHeartbeats 4000000
namespace Go.Proofs.YtncgofhhnhebjaaGreat
open Go Go.Am
variable {pr : Prims} (hp : Okp pr)
set_option maxRecDepth 100000
theorem eqItem_r (hp : Okp pr) (x : Item) (hf : x.d.tot ≤ 1048576) : Ret pr 49 [x.enc,x.enc] (.bool true):=by
 obtain ⟨row,w⟩:=x
 have h1:=eqIntS_r hp row (by simp [Item.d,Ints.d,Dat.tot,Dat.tots] at hf; omega)
 have h : ∀ x : Int,(x != x) = false:=fun x=>by simp
 refine ret_of hp rfl rfl ?_
 iterate 6
  all_goals (try (conv=>whnf))
  all_goals (first | (refine bsel_false (h _) ?_) | (refine bsel_intro (fun hb=>?_) (fun hb=>?_)) | (refine ⟨_,h1 _,?_⟩) | skip)
 exact fin_bool rfl
theorem eqItemS_r1 (hp : Okp pr) (xs : List Item) (hl : xs.length ≤ 1048576) (ih : ∀ x ∈ xs,Ret pr 49 [Item.enc x,Item.enc x] (.bool true)) : Ret pr 15 [.sl (xs.map Item.enc),.sl (xs.map Item.enc)] (.bool true):=by
 have h : ∀ x : Int,(x != x) = false:=fun x=>by simp
 refine ret_of hp rfl rfl ?_
 conv=>whnf
 refine bsel_false (h _) ?_
 conv=>whnf
 refine loop_rule (fun m st=>∃ j : Nat,j + m = xs.length ∧ st.tm 0 = .sl (xs.map Item.enc) ∧ st.tm 1 = .sl (xs.map Item.enc) ∧ st.tm 5 = i64 (j : Nat) ∧ st.hp = []) (fun m st hI=>?_) (xs.length) _ ⟨0,by simp,(by first | kernel_rfl | rfl | simp),(by first | kernel_rfl | rfl | simp),(by first | kernel_rfl | rfl | simp),(by first | kernel_rfl | rfl | simp)⟩
 obtain ⟨j,hj,e0,e1,e5,hh⟩:=hI
 obtain ⟨tm,hq⟩:=st
 simp only at e0 e1 e5 hh
 subst hh
 rw [show tm = upd (upd (upd tm 0 (.sl (xs.map Item.enc))) 1 (.sl (xs.map Item.enc))) 5 (i64 (j : Nat)) by rw [upd_id e0,upd_id e1,upd_id e5]]
 clear e0 e1 e5
 conv=>whnf
 refine bsel_intro (fun h1=>?_) (fun h1=>?_)
 ·have hjl : j < xs.length:=by simpa using h1
  have hge : (xs.map Item.enc)[((j : Nat) : Int).toNat]? = some (Item.enc xs[j]):=by rw [Int.toNat_natCast]; simp [hjl]
  have hih:=ih xs[j] (List.getElem_mem hjl)
  generalize xs[j] = q at hge hih
  obtain ⟨row,w⟩:=q
  conv=>whnf
  refine ⟨_,hge,by omega,rfl,?_⟩
  conv=>whnf
  refine ⟨_,hge,by omega,rfl,?_⟩
  conv=>whnf
  refine ⟨_,hih _,?_⟩
  conv=>whnf
  exact ⟨m - 1,by omega,j + 1,by omega,rfl,rfl,nat_step j (by omega),rfl⟩
 ·conv=>whnf
  exact fin_bool rfl
theorem eqItemS_r (hp : Okp pr) (xs : List Item) (hf : (Items.d xs).tot ≤ 1048576) : Ret pr 15 [Items.enc xs,Items.enc xs] (.bool true):=by
 simp only [Items.d,Dat.tot,List.length_map] at hf
 exact eqItemS_r1 hp xs (by omega) fun x hx=>eqItem_r hp x (by have:=tots_map (f:=Item.d) hx; omega)
theorem eqItemSS_r1 (hp : Okp pr) (xs : List (List Item)) (hl : xs.length ≤ 1048576) (ih : ∀ x ∈ xs,Ret pr 15 [Items.enc x,Items.enc x] (.bool true)) : Ret pr 51 [.sl (xs.map Items.enc),.sl (xs.map Items.enc)] (.bool true):=by
 have h : ∀ x : Int,(x != x) = false:=fun x=>by simp
 refine ret_of hp rfl rfl ?_
 conv=>whnf
 refine bsel_false (h _) ?_
 conv=>whnf
 refine loop_rule (fun m st=>∃ j : Nat,j + m = xs.length ∧ st.tm 0 = .sl (xs.map Items.enc) ∧ st.tm 1 = .sl (xs.map Items.enc) ∧ st.tm 5 = i64 (j : Nat) ∧ st.hp = []) (fun m st hI=>?_) (xs.length) _ ⟨0,by simp,(by first | kernel_rfl | rfl | simp),(by first | kernel_rfl | rfl | simp),(by first | kernel_rfl | rfl | simp),(by first | kernel_rfl | rfl | simp)⟩
 obtain ⟨j,hj,e0,e1,e5,hh⟩:=hI
 obtain ⟨tm,hq⟩:=st
 simp only at e0 e1 e5 hh
 subst hh
 rw [show tm = upd (upd (upd tm 0 (.sl (xs.map Items.enc))) 1 (.sl (xs.map Items.enc))) 5 (i64 (j : Nat)) by rw [upd_id e0,upd_id e1,upd_id e5]]
 clear e0 e1 e5
 conv=>whnf
 refine bsel_intro (fun h1=>?_) (fun h1=>?_)
 ·have hjl : j < xs.length:=by simpa using h1
  have hge : (xs.map Items.enc)[((j : Nat) : Int).toNat]? = some (Items.enc xs[j]):=by rw [Int.toNat_natCast]; simp [hjl]
  have hih:=ih xs[j] (List.getElem_mem hjl)
  generalize xs[j] = q at hge hih
  conv=>whnf
  refine ⟨_,hge,by omega,rfl,?_⟩
  conv=>whnf
  refine ⟨_,hge,by omega,rfl,?_⟩
  conv=>whnf
  refine ⟨_,hih _,?_⟩
  conv=>whnf
  exact ⟨m - 1,by omega,j + 1,by omega,rfl,rfl,nat_step j (by omega),rfl⟩
 ·conv=>whnf
  exact fin_bool rfl
theorem eqItemSS_r (hp : Okp pr) (xs : List (List Item)) (hf : (Runs.d xs).tot ≤ 1048576) : Ret pr 51 [Runs.enc xs,Runs.enc xs] (.bool true):=by
 simp only [Runs.d,Dat.tot,List.length_map] at hf
 exact eqItemSS_r1 hp xs (by omega) fun x hx=>eqItemS_r hp x (by have:=tots_map (f:=Items.d) hx; omega)
theorem eqSpine_r (hp : Okp pr) (xs : List (List Item)) (hf : (Runs.d xs).tot ≤ 1048576) : Ret pr 177 [.agg [Runs.enc xs],.agg [Runs.enc xs]] (.bool true):=by
 have h1:=eqItemSS_r hp xs hf
 have h : ∀ x : Int,(x != x) = false:=fun x=>by simp
 refine ret_of hp rfl rfl ?_
 iterate 5
  all_goals (try (conv=>whnf))
  all_goals (first | (refine bsel_false (h _) ?_) | (refine bsel_intro (fun hb=>?_) (fun hb=>?_)) | (refine ⟨_,h1 _,?_⟩) | skip)
 exact fin_bool rfl
theorem eqFlowS_r1 (hp : Okp pr) (xs : List Flow) (hl : xs.length ≤ 1048576) (ih : ∀ x ∈ xs,Ret pr 140 [Flow.enc x,Flow.enc x] (.bool true)) : Ret pr 178 [.sl (xs.map Flow.enc),.sl (xs.map Flow.enc)] (.bool true):=by
 have h : ∀ x : Int,(x != x) = false:=fun x=>by simp
 refine ret_of hp rfl rfl ?_
 conv=>whnf
 refine bsel_false (h _) ?_
 conv=>whnf
 refine loop_rule (fun m st=>∃ j : Nat,j + m = xs.length ∧ st.tm 0 = .sl (xs.map Flow.enc) ∧ st.tm 1 = .sl (xs.map Flow.enc) ∧ st.tm 5 = i64 (j : Nat) ∧ st.hp = []) (fun m st hI=>?_) (xs.length) _ ⟨0,by simp,(by first | kernel_rfl | rfl | simp),(by first | kernel_rfl | rfl | simp),(by first | kernel_rfl | rfl | simp),(by first | kernel_rfl | rfl | simp)⟩
 obtain ⟨j,hj,e0,e1,e5,hh⟩:=hI
 obtain ⟨tm,hq⟩:=st
 simp only at e0 e1 e5 hh
 subst hh
 rw [show tm = upd (upd (upd tm 0 (.sl (xs.map Flow.enc))) 1 (.sl (xs.map Flow.enc))) 5 (i64 (j : Nat)) by rw [upd_id e0,upd_id e1,upd_id e5]]
 clear e0 e1 e5
 conv=>whnf
 refine bsel_intro (fun h1=>?_) (fun h1=>?_)
 ·have hjl : j < xs.length:=by simpa using h1
  have hge : (xs.map Flow.enc)[((j : Nat) : Int).toNat]? = some (Flow.enc xs[j]):=by rw [Int.toNat_natCast]; simp [hjl]
  have hih:=ih xs[j] (List.getElem_mem hjl)
  generalize xs[j] = q at hge hih
  obtain ⟨⟨kind,n,test,cells,a,b,keys,agg,col,kids⟩,l,r,ks⟩:=q
  conv=>whnf
  refine ⟨_,hge,by omega,rfl,?_⟩
  conv=>whnf
  refine ⟨_,hge,by omega,rfl,?_⟩
  conv=>whnf
  refine ⟨_,hih _,?_⟩
  conv=>whnf
  exact ⟨m - 1,by omega,j + 1,by omega,rfl,rfl,nat_step j (by omega),rfl⟩
 ·conv=>whnf
  exact fin_bool rfl
theorem eqFlow_r' (hp : Okp pr) : ∀ (N : Nat) (f : Flow),SizeOf.sizeOf f ≤ N → f.d.tot ≤ 1048576 → Ret pr 140 [f.enc,f.enc] (.bool true):=by
 intro N
 induction N with
 | zero=>intro f h; exfalso; cases f; simp at h
 | succ N ih=>
  intro f hs hf
  obtain ⟨p,l,r,ks⟩:=f
  simp only [Flow.d,Dat.tot,Dat.tots,Flow.ds_map,List.length_map] at hf
  have h1:=eqPlan_r hp p (small_of (by omega))
  have h2:=eqSpine_r hp l (by omega)
  have h3:=eqSpine_r hp r (by omega)
  have h4:=eqFlowS_r1 hp ks (by omega) fun x hx=>ih x (by have:=List.sizeOf_lt_of_mem hx; simp at hs; omega) (by have:=tots_map (f:=Flow.d) hx; omega)
  rw [← Flow.encs_map] at h4
  obtain ⟨kind,n,test,cells,a,b,keys,agg,col,kids⟩:=p
  clear ih hs hf
  have h : ∀ x : Int,(x != x) = false:=fun x=>by simp
  refine ret_of hp rfl rfl ?_
  iterate 10
   all_goals (try (conv=>whnf))
   all_goals (first | (refine bsel_false (h _) ?_) | (refine bsel_intro (fun hb=>?_) (fun hb=>?_)) | (refine ⟨_,h1 _,?_⟩) | (refine ⟨_,h2 _,?_⟩) | (refine ⟨_,h3 _,?_⟩) | (refine ⟨_,h4 _,?_⟩) | skip)
  exact fin_bool rfl
theorem eqFlow_r (hp : Okp pr) (f : Flow) (hf : f.d.tot ≤ 1048576) : Ret pr 140 [f.enc,f.enc] (.bool true):=by
 exact eqFlow_r' hp _ f (Nat.le_refl _) hf
theorem eqPast_r (hp : Okp pr) (x : Past) (hf : x.d.tot ≤ 1048576) : Ret pr 179 [x.enc,x.enc] (.bool true):=by
 obtain ⟨t,out⟩:=x
 simp only [Past.d,Dat.tot,Dat.tots] at hf
 have h1:=eqItemS_r hp out (by omega)
 have h : ∀ x : Int,(x != x) = false:=fun x=>by simp
 refine ret_of hp rfl rfl ?_
 iterate 6
  all_goals (try (conv=>whnf))
  all_goals (first | (refine bsel_false (h _) ?_) | (refine bsel_intro (fun hb=>?_) (fun hb=>?_)) | (refine ⟨_,h1 _,?_⟩) | skip)
 exact fin_bool rfl
theorem eqPastS_r1 (hp : Okp pr) (xs : List Past) (hl : xs.length ≤ 1048576) (ih : ∀ x ∈ xs,Ret pr 179 [Past.enc x,Past.enc x] (.bool true)) : Ret pr 141 [.sl (xs.map Past.enc),.sl (xs.map Past.enc)] (.bool true):=by
 have h : ∀ x : Int,(x != x) = false:=fun x=>by simp
 refine ret_of hp rfl rfl ?_
 conv=>whnf
 refine bsel_false (h _) ?_
 conv=>whnf
 refine loop_rule (fun m st=>∃ j : Nat,j + m = xs.length ∧ st.tm 0 = .sl (xs.map Past.enc) ∧ st.tm 1 = .sl (xs.map Past.enc) ∧ st.tm 5 = i64 (j : Nat) ∧ st.hp = []) (fun m st hI=>?_) (xs.length) _ ⟨0,by simp,(by first | kernel_rfl | rfl | simp),(by first | kernel_rfl | rfl | simp),(by first | kernel_rfl | rfl | simp),(by first | kernel_rfl | rfl | simp)⟩
 obtain ⟨j,hj,e0,e1,e5,hh⟩:=hI
 obtain ⟨tm,hq⟩:=st
 simp only at e0 e1 e5 hh
 subst hh
 rw [show tm = upd (upd (upd tm 0 (.sl (xs.map Past.enc))) 1 (.sl (xs.map Past.enc))) 5 (i64 (j : Nat)) by rw [upd_id e0,upd_id e1,upd_id e5]]
 clear e0 e1 e5
 conv=>whnf
 refine bsel_intro (fun h1=>?_) (fun h1=>?_)
 ·have hjl : j < xs.length:=by simpa using h1
  have hge : (xs.map Past.enc)[((j : Nat) : Int).toNat]? = some (Past.enc xs[j]):=by rw [Int.toNat_natCast]; simp [hjl]
  have hih:=ih xs[j] (List.getElem_mem hjl)
  generalize xs[j] = q at hge hih
  obtain ⟨t,out⟩:=q
  conv=>whnf
  refine ⟨_,hge,by omega,rfl,?_⟩
  conv=>whnf
  refine ⟨_,hge,by omega,rfl,?_⟩
  conv=>whnf
  refine ⟨_,hih _,?_⟩
  conv=>whnf
  exact ⟨m - 1,by omega,j + 1,by omega,rfl,rfl,nat_step j (by omega),rfl⟩
 ·conv=>whnf
  exact fin_bool rfl
theorem eqView_r (hp : Okp pr) (x : View) (hf : x.d.tot ≤ 1048576) : Ret pr 96 [x.enc,x.enc] (.bool true):=by
 obtain ⟨f,since,base,pasts⟩:=x
 simp only [View.d,Dat.tot,Dat.tots,List.length_map] at hf
 have h1:=eqFlow_r hp f (by omega)
 have h2:=eqItemS_r hp base (by omega)
 have h3:=eqPastS_r1 hp pasts (by omega) fun x hx=>eqPast_r hp x (by have:=tots_map (f:=Past.d) hx; omega)
 clear hf
 obtain ⟨⟨kind,n,test,cells,a,b,keys,agg,col,kids⟩,l,r,ks⟩:=f
 have h : ∀ x : Int,(x != x) = false:=fun x=>by simp
 refine ret_of hp rfl rfl ?_
 iterate 10
  all_goals (try (conv=>whnf))
  all_goals (first | (refine bsel_false (h _) ?_) | (refine bsel_intro (fun hb=>?_) (fun hb=>?_)) | (refine ⟨_,h1 _,?_⟩) | (refine ⟨_,h2 _,?_⟩) | (refine ⟨_,h3 _,?_⟩) | skip)
 exact fin_bool rfl
theorem eqViewS_r1 (hp : Okp pr) (xs : List View) (hl : xs.length ≤ 1048576) (ih : ∀ x ∈ xs,Ret pr 96 [View.enc x,View.enc x] (.bool true)) : Ret pr 52 [.sl (xs.map View.enc),.sl (xs.map View.enc)] (.bool true):=by
 have h : ∀ x : Int,(x != x) = false:=fun x=>by simp
 refine ret_of hp rfl rfl ?_
 conv=>whnf
 refine bsel_false (h _) ?_
 conv=>whnf
 refine loop_rule (fun m st=>∃ j : Nat,j + m = xs.length ∧ st.tm 0 = .sl (xs.map View.enc) ∧ st.tm 1 = .sl (xs.map View.enc) ∧ st.tm 5 = i64 (j : Nat) ∧ st.hp = []) (fun m st hI=>?_) (xs.length) _ ⟨0,by simp,(by first | kernel_rfl | rfl | simp),(by first | kernel_rfl | rfl | simp),(by first | kernel_rfl | rfl | simp),(by first | kernel_rfl | rfl | simp)⟩
 obtain ⟨j,hj,e0,e1,e5,hh⟩:=hI
 obtain ⟨tm,hq⟩:=st
 simp only at e0 e1 e5 hh
 subst hh
 rw [show tm = upd (upd (upd tm 0 (.sl (xs.map View.enc))) 1 (.sl (xs.map View.enc))) 5 (i64 (j : Nat)) by rw [upd_id e0,upd_id e1,upd_id e5]]
 clear e0 e1 e5
 conv=>whnf
 refine bsel_intro (fun h1=>?_) (fun h1=>?_)
 ·have hjl : j < xs.length:=by simpa using h1
  have hge : (xs.map View.enc)[((j : Nat) : Int).toNat]? = some (View.enc xs[j]):=by rw [Int.toNat_natCast]; simp [hjl]
  have hih:=ih xs[j] (List.getElem_mem hjl)
  generalize xs[j] = q at hge hih
  obtain ⟨⟨⟨kind,n,test,cells,a,b,keys,agg,col,kids⟩,l,r,ks⟩,since,base,pasts⟩:=q
  conv=>whnf
  refine ⟨_,hge,by omega,rfl,?_⟩
  conv=>whnf
  refine ⟨_,hge,by omega,rfl,?_⟩
  conv=>whnf
  refine ⟨_,hih _,?_⟩
  conv=>whnf
  exact ⟨m - 1,by omega,j + 1,by omega,rfl,rfl,nat_step j (by omega),rfl⟩
 ·conv=>whnf
  exact fin_bool rfl
theorem eqStore_r (hp : Okp pr) (x : Store) (hf : x.d.tot ≤ 1048576) : Ret pr 16 [x.enc,x.enc] (.bool true):=by
 obtain ⟨ws,ts,vs,now,keep⟩:=x
 simp only [Store.d,Ints.d,Dat.tot,Dat.tots,List.length_map] at hf
 have h1:=eqIntS_r hp ws (by omega)
 have h2:=eqItemSS_r hp ts (by omega)
 have h3:=eqViewS_r1 hp vs (by omega) fun x hx=>eqView_r hp x (by have:=tots_map (f:=View.d) hx; omega)
 clear hf
 have h : ∀ x : Int,(x != x) = false:=fun x=>by simp
 refine ret_of hp rfl rfl ?_
 iterate 10
  all_goals (try (conv=>whnf))
  all_goals (first | (refine bsel_false (h _) ?_) | (refine bsel_intro (fun hb=>?_) (fun hb=>?_)) | (refine ⟨_,h1 _,?_⟩) | (refine ⟨_,h2 _,?_⟩) | (refine ⟨_,h3 _,?_⟩) | skip)
 exact fin_bool rfl
end Go.Proofs.YtncgofhhnhebjaaGreat

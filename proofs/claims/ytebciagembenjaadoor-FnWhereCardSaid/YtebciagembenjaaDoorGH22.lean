/- The law's own functions: copies of lists. -/
import Derived.Test.YtebciagembenjaaDoorGH20
import Derived.Test.YtebciagembenjaaDoorGH21
import Derived.Test.YtebciagembenjaaDoorGH19
set_option linter.unusedVariables false
set_option linter.unusedSimpArgs false
/- Rows. -/
set_option maxHeartbeats 4000000
namespace Go.Proofs.YtebciagembenjaaDoor
open Go Go.Am
variable {pr : Prims} (hp : Okp pr)
set_option maxRecDepth 100000
abbrev big : Nat:=1000000000
def rowOk (r : List Int) : Bool:=decide (1 ≤ r.length) && (decide (r.length ≤ 6) && r.all isCell)
def rowLess (a b : List Int) : Bool:=decide (ordL a b < 0)
def rowSame (a b : List Int) : Bool:=listEq (· == ·) a b
def rowF : AVal:=.func (.func 56) [] []
theorem rowF_r (hp : Okp pr) (n : Int) : Ret pr 56 [i64 n] (.bool (!isCell n)):=by
 refine retg hp rfl rfl ?_
 have S : Sepa [] []:=Sepa.nil []
 iterate 3
  all_goals (try (conv=>whnf))
  all_goals (first | (intro ka_ ha_ hk_ hh_; replace S:=S.alloc hk_ hh_) | (refine .inl ⟨_,S.row 0 rfl,rfl,?_⟩) | (refine .inl ⟨_,S.row 1 rfl,rfl,?_⟩) | (refine .inl ⟨_,S.row 2 rfl,rfl,?_⟩) | (refine .inl ⟨_,S.row 3 rfl,rfl,?_⟩) | (refine .inl ⟨_,S.row 4 rfl,rfl,?_⟩) | (refine ⟨_,rfl,rfl,rfl,.inl ⟨_,S.row 0 rfl,rfl,?_⟩⟩; (conv=>whnf); intro ha_ hh_; replace S:=S.set 0 rfl hh_; dsimp only [List.set] at S) | (refine ⟨_,rfl,rfl,rfl,.inl ⟨_,S.row 1 rfl,rfl,?_⟩⟩; (conv=>whnf); intro ha_ hh_; replace S:=S.set 1 rfl hh_; dsimp only [List.set] at S) | (refine ⟨_,rfl,rfl,rfl,.inl ⟨_,S.row 2 rfl,rfl,?_⟩⟩; (conv=>whnf); intro ha_ hh_; replace S:=S.set 2 rfl hh_; dsimp only [List.set] at S) | (refine ⟨_,rfl,rfl,rfl,.inl ⟨_,S.row 3 rfl,rfl,?_⟩⟩; (conv=>whnf); intro ha_ hh_; replace S:=S.set 3 rfl hh_; dsimp only [List.set] at S) | (refine ⟨_,rfl,rfl,rfl,.inl ⟨_,S.row 4 rfl,rfl,?_⟩⟩; (conv=>whnf); intro ha_ hh_; replace S:=S.set 4 rfl hh_; dsimp only [List.set] at S) | (refine bsel_intro (fun hb=>?_) (fun hb=>?_)) | (refine ⟨_,isCell_r hp n _,?_⟩) | skip)
 all_goals exact g_bool (by simp_all)
theorem indexRow_r (hp : Okp pr) (xs : List Int) (hl : xs.length ≤ big) : Ret pr 64 [.sl (xs.map i64),rowF] (i64 (idxP (fun n=>!isCell n) 0 xs)):=by
 refine retg hp rfl rfl ?_
 have S : Sepa [] []:=Sepa.nil []
 conv=>whnf
 refine loopG (fun m tm hp=>∃ (j : Nat),j + m = xs.length ∧ tm 8 = i64 (j : Nat) ∧ (idxP (fun n=>!isCell n) 0 xs = idxP (fun n=>!isCell n) (j : Nat) (xs.drop j))) (fun m tm hq hfr hI=>?_) (xs.length) ⟨0,by simp,(by first | rfl | kernel_rfl | simp),(by simp)⟩
 obtain ⟨j,hj,e8,hall⟩:=hI
 have k0:=hfr 0 (by kernel_rfl)
 conv at k0=>rhs; whnf
 rw [← upd_id k0]
 have k1:=hfr 1 (by kernel_rfl)
 conv at k1=>rhs; whnf
 rw [← upd_id k1]
 have k7:=hfr 7 (by kernel_rfl)
 conv at k7=>rhs; whnf
 rw [← upd_id k7]
 rw [← upd_id e8]
 clear hfr k0 k1 k7 e8
 have S : Sepa hq []:=Sepa.nil hq
 conv=>whnf
 refine bsel_intro (fun h1=>?_) (fun h1=>?_)
 ·have hjl : j < xs.length:=by simpa using h1
  rw [List.drop_eq_getElem_cons hjl] at hall
  simp only [idxP] at hall
  conv=>whnf
  refine ⟨i64 xs[j],by simp [hjl],by omega,rfl,?_⟩
  conv=>whnf
  refine ⟨_,rowF_r hp xs[j] _,?_⟩
  conv=>whnf
  refine bsel_intro (fun h2=>?_) (fun h2=>?_)
  ·conv=>whnf
   exact g_int (by rw [hall,h2]; rfl)
  ·conv=>whnf
   exact ⟨m - 1,by omega,j + 1,by omega,nat_step j (by simp [big] at hl; omega),by rw [hall,h2]; rfl⟩
 ·have hjl : j = xs.length := by have : ¬ j < xs.length := by simpa using h1
                                 omega
  subst hjl
  rw [List.drop_length] at hall
  conv=>whnf
  exact g_int (by rw [hall]; rfl)
theorem containsRow_r (hp : Okp pr) (xs : List Int) (hl : xs.length ≤ big) : Ret pr 55 [.sl (xs.map i64),rowF] (.bool (xs.any fun n=>!isCell n)):=by
 have h:=indexRow_r hp xs hl
 rw [← idxP_ge (fun n=>!isCell n) xs 0 (Int.le_refl 0)]
 refine retg hp rfl rfl ?_
 have S : Sepa [] []:=Sepa.nil []
 iterate 3
  all_goals (try (conv=>whnf))
  all_goals (first | (intro ka_ ha_ hk_ hh_; replace S:=S.alloc hk_ hh_) | (refine .inl ⟨_,S.row 0 rfl,rfl,?_⟩) | (refine .inl ⟨_,S.row 1 rfl,rfl,?_⟩) | (refine .inl ⟨_,S.row 2 rfl,rfl,?_⟩) | (refine .inl ⟨_,S.row 3 rfl,rfl,?_⟩) | (refine .inl ⟨_,S.row 4 rfl,rfl,?_⟩) | (refine ⟨_,rfl,rfl,rfl,.inl ⟨_,S.row 0 rfl,rfl,?_⟩⟩; (conv=>whnf); intro ha_ hh_; replace S:=S.set 0 rfl hh_; dsimp only [List.set] at S) | (refine ⟨_,rfl,rfl,rfl,.inl ⟨_,S.row 1 rfl,rfl,?_⟩⟩; (conv=>whnf); intro ha_ hh_; replace S:=S.set 1 rfl hh_; dsimp only [List.set] at S) | (refine ⟨_,rfl,rfl,rfl,.inl ⟨_,S.row 2 rfl,rfl,?_⟩⟩; (conv=>whnf); intro ha_ hh_; replace S:=S.set 2 rfl hh_; dsimp only [List.set] at S) | (refine ⟨_,rfl,rfl,rfl,.inl ⟨_,S.row 3 rfl,rfl,?_⟩⟩; (conv=>whnf); intro ha_ hh_; replace S:=S.set 3 rfl hh_; dsimp only [List.set] at S) | (refine ⟨_,rfl,rfl,rfl,.inl ⟨_,S.row 4 rfl,rfl,?_⟩⟩; (conv=>whnf); intro ha_ hh_; replace S:=S.set 4 rfl hh_; dsimp only [List.set] at S) | (refine bsel_intro (fun hb=>?_) (fun hb=>?_)) | (refine ⟨_,h _,?_⟩) | skip)
 all_goals exact g_bool hb.symm
theorem iRowOk_r (hp : Okp pr) (xs : List Int) (hl : xs.length ≤ big) : Ret pr 35 [.sl (xs.map i64)] (.bool (rowOk xs)):=by
 have h:=containsRow_r hp xs hl
 refine retg hp rfl rfl ?_
 have S : Sepa [] []:=Sepa.nil []
 iterate 5
  all_goals (try (conv=>whnf))
  all_goals (first | (intro ka_ ha_ hk_ hh_; replace S:=S.alloc hk_ hh_) | (refine .inl ⟨_,S.row 0 rfl,rfl,?_⟩) | (refine .inl ⟨_,S.row 1 rfl,rfl,?_⟩) | (refine .inl ⟨_,S.row 2 rfl,rfl,?_⟩) | (refine .inl ⟨_,S.row 3 rfl,rfl,?_⟩) | (refine .inl ⟨_,S.row 4 rfl,rfl,?_⟩) | (refine ⟨_,rfl,rfl,rfl,.inl ⟨_,S.row 0 rfl,rfl,?_⟩⟩; (conv=>whnf); intro ha_ hh_; replace S:=S.set 0 rfl hh_; dsimp only [List.set] at S) | (refine ⟨_,rfl,rfl,rfl,.inl ⟨_,S.row 1 rfl,rfl,?_⟩⟩; (conv=>whnf); intro ha_ hh_; replace S:=S.set 1 rfl hh_; dsimp only [List.set] at S) | (refine ⟨_,rfl,rfl,rfl,.inl ⟨_,S.row 2 rfl,rfl,?_⟩⟩; (conv=>whnf); intro ha_ hh_; replace S:=S.set 2 rfl hh_; dsimp only [List.set] at S) | (refine ⟨_,rfl,rfl,rfl,.inl ⟨_,S.row 3 rfl,rfl,?_⟩⟩; (conv=>whnf); intro ha_ hh_; replace S:=S.set 3 rfl hh_; dsimp only [List.set] at S) | (refine ⟨_,rfl,rfl,rfl,.inl ⟨_,S.row 4 rfl,rfl,?_⟩⟩; (conv=>whnf); intro ha_ hh_; replace S:=S.set 4 rfl hh_; dsimp only [List.set] at S) | (refine bsel_intro (fun hb=>?_) (fun hb=>?_)) | (refine ⟨_,h _,?_⟩) | skip)
 all_goals exact g_bool (by clear h hl hp; first | (simp_all [rowOk]; done) | (simp_all [rowOk]; omega))
def cmpL : List Int → List Int → Int
 | [],[]=>0
 | [],_ :: _=>-1
 | _ :: _,[]=>1
 | x :: xs,y :: ys=>if x < y then -1 else if x > y then 1 else cmpL xs ys
theorem cmpL_iff : ∀ (a b : List Int),cmpL a b < 0 ↔ ordL a b < 0
 | [],[]=>Iff.rfl
 | [],y :: ys=>by
  have : ordL [] (y :: ys) < 0:=by simp only [ordL,List.length_nil,List.length_cons]; omega
  exact ⟨fun _=>this,fun _=>by show (-1 : Int) < 0; omega⟩
 | x :: xs,[]=>by
  have : ¬ ordL (x :: xs) [] < 0:=by simp only [ordL,List.length_nil,List.length_cons]; omega
  exact ⟨fun h=>by have h' : (1 : Int) < 0:=h; omega,fun h=>absurd h this⟩
 | x :: xs,y :: ys=>by
  have ih:=cmpL_iff xs ys
  have e1 : cmpL (x :: xs) (y :: ys) = if x < y then -1 else if x > y then 1 else cmpL xs ys:=rfl
  have e2 : ordL (x :: xs) (y :: ys) = if x < y then -1 else if y < x then 1 else ordL xs ys:=rfl
  rw [e1,e2]
  rcases Int.lt_trichotomy x y with h | h | h
  ·rw [if_pos h,if_pos h]
  ·subst h; rw [if_neg (by omega),if_neg (by omega),if_neg (by omega),if_neg (by omega)]; exact ih
  ·rw [if_neg (by omega),if_pos h,if_neg (by omega),if_pos (by omega)]
theorem cmpL_lt (a b : List Int) : decide (cmpL a b < 0) = rowLess a b:=by
 simp only [rowLess,cmpL_iff]
theorem isNaN_r (hp : Okp pr) (n : Int) : Ret pr 63 [i64 n] (.bool false):=by
 refine retg hp rfl rfl ?_
 have S : Sepa [] []:=Sepa.nil []
 iterate 3
  all_goals (try (conv=>whnf))
  all_goals (first | (intro ka_ ha_ hk_ hh_; replace S:=S.alloc hk_ hh_) | (refine .inl ⟨_,S.row 0 rfl,rfl,?_⟩) | (refine .inl ⟨_,S.row 1 rfl,rfl,?_⟩) | (refine .inl ⟨_,S.row 2 rfl,rfl,?_⟩) | (refine .inl ⟨_,S.row 3 rfl,rfl,?_⟩) | (refine .inl ⟨_,S.row 4 rfl,rfl,?_⟩) | (refine ⟨_,rfl,rfl,rfl,.inl ⟨_,S.row 0 rfl,rfl,?_⟩⟩; (conv=>whnf); intro ha_ hh_; replace S:=S.set 0 rfl hh_; dsimp only [List.set] at S) | (refine ⟨_,rfl,rfl,rfl,.inl ⟨_,S.row 1 rfl,rfl,?_⟩⟩; (conv=>whnf); intro ha_ hh_; replace S:=S.set 1 rfl hh_; dsimp only [List.set] at S) | (refine ⟨_,rfl,rfl,rfl,.inl ⟨_,S.row 2 rfl,rfl,?_⟩⟩; (conv=>whnf); intro ha_ hh_; replace S:=S.set 2 rfl hh_; dsimp only [List.set] at S) | (refine ⟨_,rfl,rfl,rfl,.inl ⟨_,S.row 3 rfl,rfl,?_⟩⟩; (conv=>whnf); intro ha_ hh_; replace S:=S.set 3 rfl hh_; dsimp only [List.set] at S) | (refine ⟨_,rfl,rfl,rfl,.inl ⟨_,S.row 4 rfl,rfl,?_⟩⟩; (conv=>whnf); intro ha_ hh_; replace S:=S.set 4 rfl hh_; dsimp only [List.set] at S) | (refine bsel_intro (fun hb=>?_) (fun hb=>?_)) | skip)
 all_goals exact g_bool (by simp_all)
def cmpI (x y : Int) : Int:=if x < y then -1 else if x > y then 1 else 0
theorem cmpInt_r (hp : Okp pr) (x y : Int) : Ret pr 52 [i64 x,i64 y] (i64 (cmpI x y)):=by
 have h1:=isNaN_r hp x
 have h2:=isNaN_r hp y
 refine retg hp rfl rfl ?_
 have S : Sepa [] []:=Sepa.nil []
 iterate 5
  all_goals (try (conv=>whnf))
  all_goals (first | (intro ka_ ha_ hk_ hh_; replace S:=S.alloc hk_ hh_) | (refine .inl ⟨_,S.row 0 rfl,rfl,?_⟩) | (refine .inl ⟨_,S.row 1 rfl,rfl,?_⟩) | (refine .inl ⟨_,S.row 2 rfl,rfl,?_⟩) | (refine .inl ⟨_,S.row 3 rfl,rfl,?_⟩) | (refine .inl ⟨_,S.row 4 rfl,rfl,?_⟩) | (refine ⟨_,rfl,rfl,rfl,.inl ⟨_,S.row 0 rfl,rfl,?_⟩⟩; (conv=>whnf); intro ha_ hh_; replace S:=S.set 0 rfl hh_; dsimp only [List.set] at S) | (refine ⟨_,rfl,rfl,rfl,.inl ⟨_,S.row 1 rfl,rfl,?_⟩⟩; (conv=>whnf); intro ha_ hh_; replace S:=S.set 1 rfl hh_; dsimp only [List.set] at S) | (refine ⟨_,rfl,rfl,rfl,.inl ⟨_,S.row 2 rfl,rfl,?_⟩⟩; (conv=>whnf); intro ha_ hh_; replace S:=S.set 2 rfl hh_; dsimp only [List.set] at S) | (refine ⟨_,rfl,rfl,rfl,.inl ⟨_,S.row 3 rfl,rfl,?_⟩⟩; (conv=>whnf); intro ha_ hh_; replace S:=S.set 3 rfl hh_; dsimp only [List.set] at S) | (refine ⟨_,rfl,rfl,rfl,.inl ⟨_,S.row 4 rfl,rfl,?_⟩⟩; (conv=>whnf); intro ha_ hh_; replace S:=S.set 4 rfl hh_; dsimp only [List.set] at S) | (refine bsel_intro (fun hb=>?_) (fun hb=>?_)) | (refine ⟨_,h1 _,?_⟩) | (refine ⟨_,h2 _,?_⟩) | skip)
 all_goals exact g_int (by clear h1 h2; first | (simp_all [cmpI]; done) | (simp_all [cmpI]; omega))
theorem cmpL_end {xs : List Int} (ys : List Int) (h : xs = []) : cmpL xs ys = if ys = [] then 0 else -1:=by
 subst h; cases ys <;> rfl
theorem compare_r (hp : Okp pr) (xs ys : List Int) (hl : xs.length ≤ big) (hl2 : ys.length ≤ big) : Ret pr 28 [.sl (xs.map i64),.sl (ys.map i64)] (i64 (cmpL xs ys)):=by
 refine retg hp rfl rfl ?_
 have S : Sepa [] []:=Sepa.nil []
 conv=>whnf
 refine loopG (fun m tm hp=>∃ (j : Nat),j + m = xs.length ∧ tm 11 = i64 (j : Nat) ∧ (j ≤ ys.length ∧ cmpL xs ys = cmpL (xs.drop j) (ys.drop j))) (fun m tm hq hfr hI=>?_) (xs.length) ⟨0,by simp,(by first | rfl | kernel_rfl | simp),(by simp)⟩
 obtain ⟨j,hj,e11,hall⟩:=hI
 have k0:=hfr 0 (by kernel_rfl)
 conv at k0=>rhs; whnf
 rw [← upd_id k0]
 have k1:=hfr 1 (by kernel_rfl)
 conv at k1=>rhs; whnf
 rw [← upd_id k1]
 have k9:=hfr 9 (by kernel_rfl)
 conv at k9=>rhs; whnf
 rw [← upd_id k9]
 have k10:=hfr 10 (by kernel_rfl)
 conv at k10=>rhs; whnf
 rw [← upd_id k10]
 rw [← upd_id e11]
 clear hfr k0 k1 k9 k10 e11
 have S : Sepa hq []:=Sepa.nil hq
 conv=>whnf
 obtain ⟨hjy,hall⟩:=hall
 refine bsel_intro (fun h1=>?_) (fun h1=>?_)
 ·have hjl : j < xs.length:=by simpa using h1
  have g1 : (xs.map i64)[((j : Nat) : Int).toNat]? = some (i64 xs[j]):=by rw [Int.toNat_natCast]; simp [hjl]
  rw [List.drop_eq_getElem_cons hjl] at hall
  conv=>whnf
  refine ⟨_,g1,by omega,rfl,?_⟩
  conv=>whnf
  refine bsel_intro (fun h2=>?_) (fun h2=>?_)
  ·have hjm : ys.length ≤ j:=by simpa using h2
   rw [List.drop_eq_nil_of_le hjm] at hall
   conv=>whnf
   exact g_int (by rw [hall]; rfl)
  ·have hjm : j < ys.length:=by simpa using h2
   have g2 : (ys.map i64)[((j : Nat) : Int).toNat]? = some (i64 ys[j]):=by rw [Int.toNat_natCast]; simp [hjm]
   rw [List.drop_eq_getElem_cons hjm] at hall
   have h3:=cmpInt_r hp xs[j] ys[j]
   have hall2 : cmpL xs ys = if cmpI xs[j] ys[j] = 0 then cmpL (xs.drop (j + 1)) (ys.drop (j + 1)) else cmpI xs[j] ys[j]:=by
    rw [hall]
    simp only [cmpL,cmpI]
    split
    ·simp
    ·split <;> simp
   generalize xs[j] = x at g1 h3 hall2
   generalize ys[j] = y at g2 h3 hall2
   generalize cmpI x y = c at h3 hall2
   conv=>whnf
   refine ⟨_,g2,by omega,rfl,?_⟩
   conv=>whnf
   refine ⟨_,h3 _,?_⟩
   conv=>whnf
   refine bsel_intro (fun h4=>?_) (fun h4=>?_)
   ·conv=>whnf
    exact g_int (by rw [hall2,if_neg (by simpa using h4)])
   ·conv=>whnf
    exact ⟨m - 1,by omega,j + 1,by omega,nat_step j (by simp [big] at hl; omega),by omega,by rw [hall2,if_pos (by simpa using h4)]⟩
 ·have hjl : j = xs.length := by have : ¬ j < xs.length := by simpa using h1
                                 omega
  subst hjl
  rw [cmpL_end _ (List.drop_length)] at hall
  conv=>whnf
  refine bsel_intro (fun h2=>?_) (fun h2=>?_)
  ·conv=>whnf
   exact g_int (by rw [hall,if_neg (by simp at h2 ⊢; omega)])
  ·conv=>whnf
   exact g_int (by rw [hall,if_pos (by simp at h2 ⊢; omega)])
theorem iRowLess_r (hp : Okp pr) (a b : List Int) (h1 : a.length ≤ big) (h2 : b.length ≤ big) : Ret pr 36 [.sl (a.map i64),.sl (b.map i64)] (.bool (rowLess a b)):=by
 have h:=compare_r hp a b h1 h2
 rw [← cmpL_lt]
 refine retg hp rfl rfl ?_
 have S : Sepa [] []:=Sepa.nil []
 iterate 3
  all_goals (try (conv=>whnf))
  all_goals (first | (intro ka_ ha_ hk_ hh_; replace S:=S.alloc hk_ hh_) | (refine .inl ⟨_,S.row 0 rfl,rfl,?_⟩) | (refine .inl ⟨_,S.row 1 rfl,rfl,?_⟩) | (refine .inl ⟨_,S.row 2 rfl,rfl,?_⟩) | (refine .inl ⟨_,S.row 3 rfl,rfl,?_⟩) | (refine .inl ⟨_,S.row 4 rfl,rfl,?_⟩) | (refine ⟨_,rfl,rfl,rfl,.inl ⟨_,S.row 0 rfl,rfl,?_⟩⟩; (conv=>whnf); intro ha_ hh_; replace S:=S.set 0 rfl hh_; dsimp only [List.set] at S) | (refine ⟨_,rfl,rfl,rfl,.inl ⟨_,S.row 1 rfl,rfl,?_⟩⟩; (conv=>whnf); intro ha_ hh_; replace S:=S.set 1 rfl hh_; dsimp only [List.set] at S) | (refine ⟨_,rfl,rfl,rfl,.inl ⟨_,S.row 2 rfl,rfl,?_⟩⟩; (conv=>whnf); intro ha_ hh_; replace S:=S.set 2 rfl hh_; dsimp only [List.set] at S) | (refine ⟨_,rfl,rfl,rfl,.inl ⟨_,S.row 3 rfl,rfl,?_⟩⟩; (conv=>whnf); intro ha_ hh_; replace S:=S.set 3 rfl hh_; dsimp only [List.set] at S) | (refine ⟨_,rfl,rfl,rfl,.inl ⟨_,S.row 4 rfl,rfl,?_⟩⟩; (conv=>whnf); intro ha_ hh_; replace S:=S.set 4 rfl hh_; dsimp only [List.set] at S) | (refine bsel_intro (fun hb=>?_) (fun hb=>?_)) | (refine ⟨_,h _,?_⟩) | skip)
 all_goals exact g_bool (by rw [hb])
theorem equalI_r (hp : Okp pr) (xs ys : List Int) (hl : xs.length ≤ big) : Ret pr 45 [.sl (xs.map i64),.sl (ys.map i64)] (.bool (rowSame xs ys)):=by
 refine retg hp rfl rfl ?_
 have S : Sepa [] []:=Sepa.nil []
 conv=>whnf
 refine bsel_intro (fun h0=>?_) (fun h0=>?_)
 ·conv=>whnf
  exact g_bool (listEq_ne (by simp at h0; omega)).symm
 have hlen : xs.length = ys.length:=by simp at h0; omega
 conv=>whnf
 refine loopG (fun m tm hp=>∃ (j : Nat),j + m = xs.length ∧ tm 13 = i64 (j : Nat) ∧ (rowSame xs ys = listEq (· == ·) (xs.drop j) (ys.drop j))) (fun m tm hq hfr hI=>?_) (xs.length) ⟨0,by simp,(by first | rfl | kernel_rfl | simp),(rfl)⟩
 obtain ⟨j,hj,e13,hall⟩:=hI
 have k0:=hfr 0 (by kernel_rfl)
 conv at k0=>rhs; whnf
 rw [← upd_id k0]
 have k1:=hfr 1 (by kernel_rfl)
 conv at k1=>rhs; whnf
 rw [← upd_id k1]
 have k12:=hfr 12 (by kernel_rfl)
 conv at k12=>rhs; whnf
 rw [← upd_id k12]
 rw [← upd_id e13]
 clear hfr k0 k1 k12 e13
 have S : Sepa hq []:=Sepa.nil hq
 conv=>whnf
 refine bsel_intro (fun h1=>?_) (fun h1=>?_)
 ·have hjl : j < xs.length:=by simpa using h1
  rw [listEq_step hjl (by omega)] at hall
  conv=>whnf
  refine ⟨i64 xs[j],by simp [hjl],by omega,rfl,?_⟩
  conv=>whnf
  refine ⟨i64 ys[j],by simp [show j < ys.length by omega],by omega,rfl,?_⟩
  conv=>whnf
  refine bsel_intro (fun h2=>?_) (fun h2=>?_)
  ·have h3 : (xs[j] == ys[j]) = false:=by simpa using h2
   conv=>whnf
   exact g_bool (by rw [hall,h3]; rfl)
  ·have h3 : (xs[j] == ys[j]) = true:=by simpa using h2
   conv=>whnf
   exact ⟨m - 1,by omega,j + 1,by omega,nat_step j (by simp [big] at hl; omega),by rw [hall,h3]; rfl⟩
 ·have hjl : j = xs.length := by have : ¬ j < xs.length := by simpa using h1
                                 omega
  subst hjl
  rw [listEq_end hlen] at hall
  conv=>whnf
  exact g_bool hall.symm
theorem iRowSame_r (hp : Okp pr) (a b : List Int) (h1 : a.length ≤ big) : Ret pr 21 [.sl (a.map i64),.sl (b.map i64)] (.bool (rowSame a b)):=by
 have h:=equalI_r hp a b h1
 refine retg hp rfl rfl ?_
 have S : Sepa [] []:=Sepa.nil []
 iterate 3
  all_goals (try (conv=>whnf))
  all_goals (first | (intro ka_ ha_ hk_ hh_; replace S:=S.alloc hk_ hh_) | (refine .inl ⟨_,S.row 0 rfl,rfl,?_⟩) | (refine .inl ⟨_,S.row 1 rfl,rfl,?_⟩) | (refine .inl ⟨_,S.row 2 rfl,rfl,?_⟩) | (refine .inl ⟨_,S.row 3 rfl,rfl,?_⟩) | (refine .inl ⟨_,S.row 4 rfl,rfl,?_⟩) | (refine ⟨_,rfl,rfl,rfl,.inl ⟨_,S.row 0 rfl,rfl,?_⟩⟩; (conv=>whnf); intro ha_ hh_; replace S:=S.set 0 rfl hh_; dsimp only [List.set] at S) | (refine ⟨_,rfl,rfl,rfl,.inl ⟨_,S.row 1 rfl,rfl,?_⟩⟩; (conv=>whnf); intro ha_ hh_; replace S:=S.set 1 rfl hh_; dsimp only [List.set] at S) | (refine ⟨_,rfl,rfl,rfl,.inl ⟨_,S.row 2 rfl,rfl,?_⟩⟩; (conv=>whnf); intro ha_ hh_; replace S:=S.set 2 rfl hh_; dsimp only [List.set] at S) | (refine ⟨_,rfl,rfl,rfl,.inl ⟨_,S.row 3 rfl,rfl,?_⟩⟩; (conv=>whnf); intro ha_ hh_; replace S:=S.set 3 rfl hh_; dsimp only [List.set] at S) | (refine ⟨_,rfl,rfl,rfl,.inl ⟨_,S.row 4 rfl,rfl,?_⟩⟩; (conv=>whnf); intro ha_ hh_; replace S:=S.set 4 rfl hh_; dsimp only [List.set] at S) | (refine bsel_intro (fun hb=>?_) (fun hb=>?_)) | (refine ⟨_,h _,?_⟩) | skip)
 all_goals exact g_bool hb.symm
end Go.Proofs.YtebciagembenjaaDoor
/- Items. -/
set_option maxHeartbeats 4000000
namespace Go.Proofs.YtebciagembenjaaDoor
open Go Go.Am
variable {pr : Prims} (hp : Okp pr)
set_option maxRecDepth 100000
structure Item where
 row : List Int
 w : Int
def Item.enc (x : Item) : AVal:=.agg [.sl (x.row.map i64),i64 x.w]
def zsm (z : List Item) : Prop:=z.length ≤ big ∧ ∀ x ∈ z,x.row.length ≤ big
def wOk (w : Int) : Bool:=!decide (w < -10000) && (!decide (w > 10000) && !(w == 0))
def zGo : Option (List Int) → List Item → Bool
 | _,[]=>true
 | p,x :: xs=>(rowOk x.row && (wOk x.w && (match p with | none=>true | some q=>rowLess q x.row))) && zGo (some x.row) xs
def zOk (z : List Item) : Bool:=decide (z.length ≤ 100) && zGo none z
def lastRow (z : List Item) : Option (List Int):=z.getLast?.map Item.row
theorem lastRow_take {z : List Item} {j : Nat} (h : j < z.length) : lastRow (z.take (j + 1)) = some z[j].row:=by
 unfold lastRow
 rw [show z.take (j + 1) = z.take j ++ [z[j]] by rw [List.take_add_one]; simp [h],List.getLast?_concat]
 rfl
theorem iZOk_r (hp : Okp pr) (z : List Item) (hz : zsm z) : Ret pr 14 [.sl (z.map Item.enc)] (.bool (zOk z)):=by
 obtain ⟨hl,hr⟩:=hz
 refine retg hp rfl rfl ?_
 have S : Sepa [] []:=Sepa.nil []
 conv=>whnf
 refine bsel_intro (fun h0=>?_) (fun h0=>?_)
 ·conv=>whnf
  exact g_bool (by have : ¬ z.length ≤ 100 := by simp at h0; omega
                   simp [zOk,this])
 have hz : zOk z = zGo none z:=by
  have : z.length ≤ 100:=by simp at h0; omega
  simp [zOk,this]
 rw [hz]
 clear hz h0
 conv=>whnf
 refine loopG (fun m tm hp=>∃ (j : Nat),j + m = z.length ∧ tm 10 = i64 (j : Nat) ∧ (zGo none z = zGo (lastRow (z.take j)) (z.drop j))) (fun m tm hq hfr hI=>?_) (z.length) ⟨0,by simp,(by first | rfl | kernel_rfl | simp),(by simp [lastRow])⟩
 obtain ⟨j,hj,e10,hall⟩:=hI
 have k0:=hfr 0 (by kernel_rfl)
 conv at k0=>rhs; whnf
 rw [← upd_id k0]
 have k8:=hfr 8 (by kernel_rfl)
 conv at k8=>rhs; whnf
 rw [← upd_id k8]
 have k9:=hfr 9 (by kernel_rfl)
 conv at k9=>rhs; whnf
 rw [← upd_id k9]
 rw [← upd_id e10]
 clear hfr k0 k8 k9 e10
 have S : Sepa hq []:=Sepa.nil hq
 conv=>whnf
 refine bsel_intro (fun h1=>?_) (fun h1=>?_)
 ·have hjl : j < z.length:=by simpa using h1
  have hnext:=lastRow_take hjl
  have hge : (z.map Item.enc)[((j : Nat) : Int).toNat]? = some (Item.enc z[j]):=by rw [Int.toNat_natCast]; simp [hjl]
  have hrow:=hr z[j] (List.getElem_mem hjl)
  rw [List.drop_eq_getElem_cons hjl] at hall
  simp only [zGo] at hall
  cases j with
  | zero=>
   have hprev : lastRow (z.take 0) = none:=by simp [lastRow]
   rw [hprev] at hall
   generalize z[0] = x at hge hrow hall hnext
   obtain ⟨row,w⟩:=x
   have h2:=iRowOk_r hp row hrow
   simp only [wOk] at hall
   conv=>whnf
   refine ⟨_,hge,by omega,rfl,?_⟩
   iterate 14
    all_goals (try (conv=>whnf))
    all_goals (first | (intro ka_ ha_ hk_ hh_; replace S:=S.alloc hk_ hh_) | (refine .inl ⟨_,S.row 0 rfl,rfl,?_⟩) | (refine .inl ⟨_,S.row 1 rfl,rfl,?_⟩) | (refine .inl ⟨_,S.row 2 rfl,rfl,?_⟩) | (refine .inl ⟨_,S.row 3 rfl,rfl,?_⟩) | (refine .inl ⟨_,S.row 4 rfl,rfl,?_⟩) | (refine ⟨_,rfl,rfl,rfl,.inl ⟨_,S.row 0 rfl,rfl,?_⟩⟩; (conv=>whnf); intro ha_ hh_; replace S:=S.set 0 rfl hh_; dsimp only [List.set] at S) | (refine ⟨_,rfl,rfl,rfl,.inl ⟨_,S.row 1 rfl,rfl,?_⟩⟩; (conv=>whnf); intro ha_ hh_; replace S:=S.set 1 rfl hh_; dsimp only [List.set] at S) | (refine ⟨_,rfl,rfl,rfl,.inl ⟨_,S.row 2 rfl,rfl,?_⟩⟩; (conv=>whnf); intro ha_ hh_; replace S:=S.set 2 rfl hh_; dsimp only [List.set] at S) | (refine ⟨_,rfl,rfl,rfl,.inl ⟨_,S.row 3 rfl,rfl,?_⟩⟩; (conv=>whnf); intro ha_ hh_; replace S:=S.set 3 rfl hh_; dsimp only [List.set] at S) | (refine ⟨_,rfl,rfl,rfl,.inl ⟨_,S.row 4 rfl,rfl,?_⟩⟩; (conv=>whnf); intro ha_ hh_; replace S:=S.set 4 rfl hh_; dsimp only [List.set] at S) | (refine bsel_intro (fun hb=>?_) (fun hb=>?_)) | (refine ⟨_,h2 _,?_⟩) | skip)
   all_goals first
    | exact g_bool (by clear hge hnext h2 hr hrow; simp_all)
    | exact ⟨m - 1,by omega,1,by omega,nat_step 0 (by omega),by rw [hnext,hall]; clear hge hnext h2 hr hrow hall; simp_all⟩
  | succ i=>
   have hprev:=lastRow_take (z:=z) (j:=i) (by omega)
   rw [hprev] at hall
   have hw : IntKind.i64.wrap (((i + 1 : Nat) : Int) - 1) = (i : Nat):=by rw [IntKind.wrap_i64]; simp [big] at hl; omega
   have hge2 : (z.map Item.enc)[(IntKind.i64.wrap (((i + 1 : Nat) : Int) - 1)).toNat]? = some (Item.enc z[i]):=by rw [hw,Int.toNat_natCast]; simp [show i < z.length by omega]
   have hrow2:=hr z[i] (List.getElem_mem (by omega))
   generalize z[i + 1] = x at hge hrow hall hnext
   generalize z[i] = y at hge2 hrow2 hall hprev
   obtain ⟨row,w⟩:=x
   obtain ⟨row2,w2⟩:=y
   have h2:=iRowOk_r hp row hrow
   have h3:=iRowLess_r hp row2 row hrow2 hrow
   simp only [wOk] at hall
   conv=>whnf
   refine ⟨_,hge,by omega,rfl,?_⟩
   iterate 18
    all_goals (try (conv=>whnf))
    all_goals (first | (refine ⟨_,hge2,by omega,rfl,?_⟩) | (intro ka_ ha_ hk_ hh_; replace S:=S.alloc hk_ hh_) | (refine .inl ⟨_,S.row 0 rfl,rfl,?_⟩) | (refine .inl ⟨_,S.row 1 rfl,rfl,?_⟩) | (refine .inl ⟨_,S.row 2 rfl,rfl,?_⟩) | (refine .inl ⟨_,S.row 3 rfl,rfl,?_⟩) | (refine .inl ⟨_,S.row 4 rfl,rfl,?_⟩) | (refine ⟨_,rfl,rfl,rfl,.inl ⟨_,S.row 0 rfl,rfl,?_⟩⟩; (conv=>whnf); intro ha_ hh_; replace S:=S.set 0 rfl hh_; dsimp only [List.set] at S) | (refine ⟨_,rfl,rfl,rfl,.inl ⟨_,S.row 1 rfl,rfl,?_⟩⟩; (conv=>whnf); intro ha_ hh_; replace S:=S.set 1 rfl hh_; dsimp only [List.set] at S) | (refine ⟨_,rfl,rfl,rfl,.inl ⟨_,S.row 2 rfl,rfl,?_⟩⟩; (conv=>whnf); intro ha_ hh_; replace S:=S.set 2 rfl hh_; dsimp only [List.set] at S) | (refine ⟨_,rfl,rfl,rfl,.inl ⟨_,S.row 3 rfl,rfl,?_⟩⟩; (conv=>whnf); intro ha_ hh_; replace S:=S.set 3 rfl hh_; dsimp only [List.set] at S) | (refine ⟨_,rfl,rfl,rfl,.inl ⟨_,S.row 4 rfl,rfl,?_⟩⟩; (conv=>whnf); intro ha_ hh_; replace S:=S.set 4 rfl hh_; dsimp only [List.set] at S) | (refine bsel_intro (fun hb=>?_) (fun hb=>?_)) | (refine ⟨_,h2 _,?_⟩) | (refine ⟨_,h3 _,?_⟩) | skip)
   all_goals first
    | exact g_bool (by clear hge hge2 hnext h2 h3 hr hrow hrow2 hw hprev; simp_all)
    | exact ⟨m - 1,by omega,i + 1 + 1,by omega,nat_step (i + 1) (by simp [big] at hl; omega),by rw [hnext,hall]; clear hge hge2 hnext h2 h3 hr hrow hrow2 hall hw hprev; simp_all⟩
 ·have hjl : j = z.length := by have : ¬ j < z.length := by simpa using h1
                                omega
  subst hjl
  rw [List.drop_length] at hall
  conv=>whnf
  exact g_bool (by rw [hall]; rfl)
end Go.Proofs.YtebciagembenjaaDoor
/- The law's own functions: copies of lists. -/
set_option maxHeartbeats 4000000
namespace Go.Proofs.YtebciagembenjaaDoor
open Go Go.Am
variable {pr : Prims} (hp : Okp pr)
set_option maxRecDepth 100000
end Go.Proofs.YtebciagembenjaaDoor

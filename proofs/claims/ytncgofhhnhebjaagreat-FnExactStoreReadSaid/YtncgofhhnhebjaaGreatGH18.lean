/- The law's own functions: copies of plans, the caller's own. -/
import Derived.Test.YtncgofhhnhebjaaGreatGH15
import Derived.Test.YtncgofhhnhebjaaGreatGH17
import Derived.Test.YtncgofhhnhebjaaGreatGH16
set_option linter.unusedVariables false
set_option linter.unusedSimpArgs false
/- Rows. -/
set_option maxHeartbeats 4000000
namespace Go.Proofs.YtncgofhhnhebjaaGreat
open Go Go.Am
variable {pr : Prims} (hp : Okp pr)
set_option maxRecDepth 100000
abbrev big : Nat:=1000000000
def rowOk (r : List Int) : Bool:=decide (1 ≤ r.length) && (decide (r.length ≤ 6) && r.all isCell)
def rowLess (a b : List Int) : Bool:=decide (ordL a b < 0)
def rowSame (a b : List Int) : Bool:=listEq (· == ·) a b
def rowF : AVal:=.func (.func 89) [] []
theorem rowF_r (hp : Okp pr) (n : Int) : Ret pr 89 [i64 n] (.bool (!isCell n)):=by
 refine retg hp rfl rfl ?_
 have S : Sepa [] []:=Sepa.nil []
 iterate 3
  all_goals (try (conv=>whnf))
  all_goals (first | (intro ka_ ha_ hk_ hh_; replace S:=S.alloc hk_ hh_) | (refine .inl ⟨_,S.row 0 rfl,rfl,?_⟩) | (refine .inl ⟨_,S.row 1 rfl,rfl,?_⟩) | (refine .inl ⟨_,S.row 2 rfl,rfl,?_⟩) | (refine .inl ⟨_,S.row 3 rfl,rfl,?_⟩) | (refine .inl ⟨_,S.row 4 rfl,rfl,?_⟩) | (refine ⟨_,rfl,rfl,rfl,.inl ⟨_,S.row 0 rfl,rfl,?_⟩⟩; (conv=>whnf); intro ha_ hh_; replace S:=S.set 0 rfl hh_; dsimp only [List.set] at S) | (refine ⟨_,rfl,rfl,rfl,.inl ⟨_,S.row 1 rfl,rfl,?_⟩⟩; (conv=>whnf); intro ha_ hh_; replace S:=S.set 1 rfl hh_; dsimp only [List.set] at S) | (refine ⟨_,rfl,rfl,rfl,.inl ⟨_,S.row 2 rfl,rfl,?_⟩⟩; (conv=>whnf); intro ha_ hh_; replace S:=S.set 2 rfl hh_; dsimp only [List.set] at S) | (refine ⟨_,rfl,rfl,rfl,.inl ⟨_,S.row 3 rfl,rfl,?_⟩⟩; (conv=>whnf); intro ha_ hh_; replace S:=S.set 3 rfl hh_; dsimp only [List.set] at S) | (refine ⟨_,rfl,rfl,rfl,.inl ⟨_,S.row 4 rfl,rfl,?_⟩⟩; (conv=>whnf); intro ha_ hh_; replace S:=S.set 4 rfl hh_; dsimp only [List.set] at S) | (refine bsel_intro (fun hb=>?_) (fun hb=>?_)) | (refine ⟨_,isCell_r hp n _,?_⟩) | skip)
 all_goals exact g_bool (by simp_all)
theorem indexRow_r (hp : Okp pr) (xs : List Int) (hl : xs.length ≤ big) : Ret pr 132 [.sl (xs.map i64),rowF] (i64 (idxP (fun n=>!isCell n) 0 xs)):=by
 refine retg hp rfl rfl ?_
 have S : Sepa [] []:=Sepa.nil []
 conv=>whnf
 refine loopG (fun m tm hp=>∃ (j : Nat),j + m = xs.length ∧ tm 8 = i64 (j : Nat) ∧ (idxP (fun n=>!isCell n) 0 xs = idxP (fun n=>!isCell n) (j : Nat) (xs.drop j))) (fun m tm hq hfr hI=>?_) (xs.length) ⟨0,by simp,(by first | rfl | kernel_rfl | simp),(by simp)⟩
 obtain ⟨j,hj,e8,hall⟩:=hI
 have k0:=hfr 0 (by kernel_rfl)
 conv at k0=>rhs; whnf
 rw [← upd_id k0]
 have k1:=hfr 1 (by kernel_rfl)
 conv at k1=>rhs; whnf
 rw [← upd_id k1]
 have k7:=hfr 7 (by kernel_rfl)
 conv at k7=>rhs; whnf
 rw [← upd_id k7]
 rw [← upd_id e8]
 clear hfr k0 k1 k7 e8
 have S : Sepa hq []:=Sepa.nil hq
 conv=>whnf
 refine bsel_intro (fun h1=>?_) (fun h1=>?_)
 ·have hjl : j < xs.length:=by simpa using h1
  rw [List.drop_eq_getElem_cons hjl] at hall
  simp only [idxP] at hall
  conv=>whnf
  refine ⟨i64 xs[j],by simp [hjl],by omega,rfl,?_⟩
  conv=>whnf
  refine ⟨_,rowF_r hp xs[j] _,?_⟩
  conv=>whnf
  refine bsel_intro (fun h2=>?_) (fun h2=>?_)
  ·conv=>whnf
   exact g_int (by rw [hall,h2]; rfl)
  ·conv=>whnf
   exact ⟨m - 1,by omega,j + 1,by omega,nat_step j (by simp [big] at hl; omega),by rw [hall,h2]; rfl⟩
 ·have hjl : j = xs.length := by have : ¬ j < xs.length := by simpa using h1
                                 omega
  subst hjl
  rw [List.drop_length] at hall
  conv=>whnf
  exact g_int (by rw [hall]; rfl)
theorem containsRow_r (hp : Okp pr) (xs : List Int) (hl : xs.length ≤ big) : Ret pr 88 [.sl (xs.map i64),rowF] (.bool (xs.any fun n=>!isCell n)):=by
 have h:=indexRow_r hp xs hl
 rw [← idxP_ge (fun n=>!isCell n) xs 0 (Int.le_refl 0)]
 refine retg hp rfl rfl ?_
 have S : Sepa [] []:=Sepa.nil []
 iterate 3
  all_goals (try (conv=>whnf))
  all_goals (first | (intro ka_ ha_ hk_ hh_; replace S:=S.alloc hk_ hh_) | (refine .inl ⟨_,S.row 0 rfl,rfl,?_⟩) | (refine .inl ⟨_,S.row 1 rfl,rfl,?_⟩) | (refine .inl ⟨_,S.row 2 rfl,rfl,?_⟩) | (refine .inl ⟨_,S.row 3 rfl,rfl,?_⟩) | (refine .inl ⟨_,S.row 4 rfl,rfl,?_⟩) | (refine ⟨_,rfl,rfl,rfl,.inl ⟨_,S.row 0 rfl,rfl,?_⟩⟩; (conv=>whnf); intro ha_ hh_; replace S:=S.set 0 rfl hh_; dsimp only [List.set] at S) | (refine ⟨_,rfl,rfl,rfl,.inl ⟨_,S.row 1 rfl,rfl,?_⟩⟩; (conv=>whnf); intro ha_ hh_; replace S:=S.set 1 rfl hh_; dsimp only [List.set] at S) | (refine ⟨_,rfl,rfl,rfl,.inl ⟨_,S.row 2 rfl,rfl,?_⟩⟩; (conv=>whnf); intro ha_ hh_; replace S:=S.set 2 rfl hh_; dsimp only [List.set] at S) | (refine ⟨_,rfl,rfl,rfl,.inl ⟨_,S.row 3 rfl,rfl,?_⟩⟩; (conv=>whnf); intro ha_ hh_; replace S:=S.set 3 rfl hh_; dsimp only [List.set] at S) | (refine ⟨_,rfl,rfl,rfl,.inl ⟨_,S.row 4 rfl,rfl,?_⟩⟩; (conv=>whnf); intro ha_ hh_; replace S:=S.set 4 rfl hh_; dsimp only [List.set] at S) | (refine bsel_intro (fun hb=>?_) (fun hb=>?_)) | (refine ⟨_,h _,?_⟩) | skip)
 all_goals exact g_bool hb.symm
theorem iRowOk_r (hp : Okp pr) (xs : List Int) (hl : xs.length ≤ big) : Ret pr 41 [.sl (xs.map i64)] (.bool (rowOk xs)):=by
 have h:=containsRow_r hp xs hl
 refine retg hp rfl rfl ?_
 have S : Sepa [] []:=Sepa.nil []
 iterate 5
  all_goals (try (conv=>whnf))
  all_goals (first | (intro ka_ ha_ hk_ hh_; replace S:=S.alloc hk_ hh_) | (refine .inl ⟨_,S.row 0 rfl,rfl,?_⟩) | (refine .inl ⟨_,S.row 1 rfl,rfl,?_⟩) | (refine .inl ⟨_,S.row 2 rfl,rfl,?_⟩) | (refine .inl ⟨_,S.row 3 rfl,rfl,?_⟩) | (refine .inl ⟨_,S.row 4 rfl,rfl,?_⟩) | (refine ⟨_,rfl,rfl,rfl,.inl ⟨_,S.row 0 rfl,rfl,?_⟩⟩; (conv=>whnf); intro ha_ hh_; replace S:=S.set 0 rfl hh_; dsimp only [List.set] at S) | (refine ⟨_,rfl,rfl,rfl,.inl ⟨_,S.row 1 rfl,rfl,?_⟩⟩; (conv=>whnf); intro ha_ hh_; replace S:=S.set 1 rfl hh_; dsimp only [List.set] at S) | (refine ⟨_,rfl,rfl,rfl,.inl ⟨_,S.row 2 rfl,rfl,?_⟩⟩; (conv=>whnf); intro ha_ hh_; replace S:=S.set 2 rfl hh_; dsimp only [List.set] at S) | (refine ⟨_,rfl,rfl,rfl,.inl ⟨_,S.row 3 rfl,rfl,?_⟩⟩; (conv=>whnf); intro ha_ hh_; replace S:=S.set 3 rfl hh_; dsimp only [List.set] at S) | (refine ⟨_,rfl,rfl,rfl,.inl ⟨_,S.row 4 rfl,rfl,?_⟩⟩; (conv=>whnf); intro ha_ hh_; replace S:=S.set 4 rfl hh_; dsimp only [List.set] at S) | (refine bsel_intro (fun hb=>?_) (fun hb=>?_)) | (refine ⟨_,h _,?_⟩) | skip)
 all_goals exact g_bool (by clear h hl hp; first | (simp_all [rowOk]; done) | (simp_all [rowOk]; omega))
def cmpL : List Int → List Int → Int
 | [],[]=>0
 | [],_ :: _=>-1
 | _ :: _,[]=>1
 | x :: xs,y :: ys=>if x < y then -1 else if x > y then 1 else cmpL xs ys
theorem cmpL_iff : ∀ (a b : List Int),cmpL a b < 0 ↔ ordL a b < 0
 | [],[]=>Iff.rfl
 | [],y :: ys=>by
  have : ordL [] (y :: ys) < 0:=by simp only [ordL,List.length_nil,List.length_cons]; omega
  exact ⟨fun _=>this,fun _=>by show (-1 : Int) < 0; omega⟩
 | x :: xs,[]=>by
  have : ¬ ordL (x :: xs) [] < 0:=by simp only [ordL,List.length_nil,List.length_cons]; omega
  exact ⟨fun h=>by have h' : (1 : Int) < 0:=h; omega,fun h=>absurd h this⟩
 | x :: xs,y :: ys=>by
  have ih:=cmpL_iff xs ys
  have e1 : cmpL (x :: xs) (y :: ys) = if x < y then -1 else if x > y then 1 else cmpL xs ys:=rfl
  have e2 : ordL (x :: xs) (y :: ys) = if x < y then -1 else if y < x then 1 else ordL xs ys:=rfl
  rw [e1,e2]
  rcases Int.lt_trichotomy x y with h | h | h
  ·rw [if_pos h,if_pos h]
  ·subst h; rw [if_neg (by omega),if_neg (by omega),if_neg (by omega),if_neg (by omega)]; exact ih
  ·rw [if_neg (by omega),if_pos h,if_neg (by omega),if_pos (by omega)]
theorem cmpL_lt (a b : List Int) : decide (cmpL a b < 0) = rowLess a b:=by
 simp only [rowLess,cmpL_iff]
theorem isNaN_r (hp : Okp pr) (n : Int) : Ret pr 167 [i64 n] (.bool false):=by
 refine retg hp rfl rfl ?_
 have S : Sepa [] []:=Sepa.nil []
 iterate 3
  all_goals (try (conv=>whnf))
  all_goals (first | (intro ka_ ha_ hk_ hh_; replace S:=S.alloc hk_ hh_) | (refine .inl ⟨_,S.row 0 rfl,rfl,?_⟩) | (refine .inl ⟨_,S.row 1 rfl,rfl,?_⟩) | (refine .inl ⟨_,S.row 2 rfl,rfl,?_⟩) | (refine .inl ⟨_,S.row 3 rfl,rfl,?_⟩) | (refine .inl ⟨_,S.row 4 rfl,rfl,?_⟩) | (refine ⟨_,rfl,rfl,rfl,.inl ⟨_,S.row 0 rfl,rfl,?_⟩⟩; (conv=>whnf); intro ha_ hh_; replace S:=S.set 0 rfl hh_; dsimp only [List.set] at S) | (refine ⟨_,rfl,rfl,rfl,.inl ⟨_,S.row 1 rfl,rfl,?_⟩⟩; (conv=>whnf); intro ha_ hh_; replace S:=S.set 1 rfl hh_; dsimp only [List.set] at S) | (refine ⟨_,rfl,rfl,rfl,.inl ⟨_,S.row 2 rfl,rfl,?_⟩⟩; (conv=>whnf); intro ha_ hh_; replace S:=S.set 2 rfl hh_; dsimp only [List.set] at S) | (refine ⟨_,rfl,rfl,rfl,.inl ⟨_,S.row 3 rfl,rfl,?_⟩⟩; (conv=>whnf); intro ha_ hh_; replace S:=S.set 3 rfl hh_; dsimp only [List.set] at S) | (refine ⟨_,rfl,rfl,rfl,.inl ⟨_,S.row 4 rfl,rfl,?_⟩⟩; (conv=>whnf); intro ha_ hh_; replace S:=S.set 4 rfl hh_; dsimp only [List.set] at S) | (refine bsel_intro (fun hb=>?_) (fun hb=>?_)) | skip)
 all_goals exact g_bool (by simp_all)
def cmpI (x y : Int) : Int:=if x < y then -1 else if x > y then 1 else 0
theorem cmpInt_r (hp : Okp pr) (x y : Int) : Ret pr 133 [i64 x,i64 y] (i64 (cmpI x y)):=by
 have h1:=isNaN_r hp x
 have h2:=isNaN_r hp y
 refine retg hp rfl rfl ?_
 have S : Sepa [] []:=Sepa.nil []
 iterate 5
  all_goals (try (conv=>whnf))
  all_goals (first | (intro ka_ ha_ hk_ hh_; replace S:=S.alloc hk_ hh_) | (refine .inl ⟨_,S.row 0 rfl,rfl,?_⟩) | (refine .inl ⟨_,S.row 1 rfl,rfl,?_⟩) | (refine .inl ⟨_,S.row 2 rfl,rfl,?_⟩) | (refine .inl ⟨_,S.row 3 rfl,rfl,?_⟩) | (refine .inl ⟨_,S.row 4 rfl,rfl,?_⟩) | (refine ⟨_,rfl,rfl,rfl,.inl ⟨_,S.row 0 rfl,rfl,?_⟩⟩; (conv=>whnf); intro ha_ hh_; replace S:=S.set 0 rfl hh_; dsimp only [List.set] at S) | (refine ⟨_,rfl,rfl,rfl,.inl ⟨_,S.row 1 rfl,rfl,?_⟩⟩; (conv=>whnf); intro ha_ hh_; replace S:=S.set 1 rfl hh_; dsimp only [List.set] at S) | (refine ⟨_,rfl,rfl,rfl,.inl ⟨_,S.row 2 rfl,rfl,?_⟩⟩; (conv=>whnf); intro ha_ hh_; replace S:=S.set 2 rfl hh_; dsimp only [List.set] at S) | (refine ⟨_,rfl,rfl,rfl,.inl ⟨_,S.row 3 rfl,rfl,?_⟩⟩; (conv=>whnf); intro ha_ hh_; replace S:=S.set 3 rfl hh_; dsimp only [List.set] at S) | (refine ⟨_,rfl,rfl,rfl,.inl ⟨_,S.row 4 rfl,rfl,?_⟩⟩; (conv=>whnf); intro ha_ hh_; replace S:=S.set 4 rfl hh_; dsimp only [List.set] at S) | (refine bsel_intro (fun hb=>?_) (fun hb=>?_)) | (refine ⟨_,h1 _,?_⟩) | (refine ⟨_,h2 _,?_⟩) | skip)
 all_goals exact g_int (by clear h1 h2; first | (simp_all [cmpI]; done) | (simp_all [cmpI]; omega))
theorem cmpL_end {xs : List Int} (ys : List Int) (h : xs = []) : cmpL xs ys = if ys = [] then 0 else -1:=by
 subst h; cases ys <;> rfl
theorem compare_r (hp : Okp pr) (xs ys : List Int) (hl : xs.length ≤ big) (hl2 : ys.length ≤ big) : Ret pr 91 [.sl (xs.map i64),.sl (ys.map i64)] (i64 (cmpL xs ys)):=by
 refine retg hp rfl rfl ?_
 have S : Sepa [] []:=Sepa.nil []
 conv=>whnf
 refine loopG (fun m tm hp=>∃ (j : Nat),j + m = xs.length ∧ tm 11 = i64 (j : Nat) ∧ (j ≤ ys.length ∧ cmpL xs ys = cmpL (xs.drop j) (ys.drop j))) (fun m tm hq hfr hI=>?_) (xs.length) ⟨0,by simp,(by first | rfl | kernel_rfl | simp),(by simp)⟩
 obtain ⟨j,hj,e11,hall⟩:=hI
 have k0:=hfr 0 (by kernel_rfl)
 conv at k0=>rhs; whnf
 rw [← upd_id k0]
 have k1:=hfr 1 (by kernel_rfl)
 conv at k1=>rhs; whnf
 rw [← upd_id k1]
 have k9:=hfr 9 (by kernel_rfl)
 conv at k9=>rhs; whnf
 rw [← upd_id k9]
 have k10:=hfr 10 (by kernel_rfl)
 conv at k10=>rhs; whnf
 rw [← upd_id k10]
 rw [← upd_id e11]
 clear hfr k0 k1 k9 k10 e11
 have S : Sepa hq []:=Sepa.nil hq
 conv=>whnf
 obtain ⟨hjy,hall⟩:=hall
 refine bsel_intro (fun h1=>?_) (fun h1=>?_)
 ·have hjl : j < xs.length:=by simpa using h1
  have g1 : (xs.map i64)[((j : Nat) : Int).toNat]? = some (i64 xs[j]):=by rw [Int.toNat_natCast]; simp [hjl]
  rw [List.drop_eq_getElem_cons hjl] at hall
  conv=>whnf
  refine ⟨_,g1,by omega,rfl,?_⟩
  conv=>whnf
  refine bsel_intro (fun h2=>?_) (fun h2=>?_)
  ·have hjm : ys.length ≤ j:=by simpa using h2
   rw [List.drop_eq_nil_of_le hjm] at hall
   conv=>whnf
   exact g_int (by rw [hall]; rfl)
  ·have hjm : j < ys.length:=by simpa using h2
   have g2 : (ys.map i64)[((j : Nat) : Int).toNat]? = some (i64 ys[j]):=by rw [Int.toNat_natCast]; simp [hjm]
   rw [List.drop_eq_getElem_cons hjm] at hall
   have h3:=cmpInt_r hp xs[j] ys[j]
   have hall2 : cmpL xs ys = if cmpI xs[j] ys[j] = 0 then cmpL (xs.drop (j + 1)) (ys.drop (j + 1)) else cmpI xs[j] ys[j]:=by
    rw [hall]
    simp only [cmpL,cmpI]
    split
    ·simp
    ·split <;> simp
   generalize xs[j] = x at g1 h3 hall2
   generalize ys[j] = y at g2 h3 hall2
   generalize cmpI x y = c at h3 hall2
   conv=>whnf
   refine ⟨_,g2,by omega,rfl,?_⟩
   conv=>whnf
   refine ⟨_,h3 _,?_⟩
   conv=>whnf
   refine bsel_intro (fun h4=>?_) (fun h4=>?_)
   ·conv=>whnf
    exact g_int (by rw [hall2,if_neg (by simpa using h4)])
   ·conv=>whnf
    exact ⟨m - 1,by omega,j + 1,by omega,nat_step j (by simp [big] at hl; omega),by omega,by rw [hall2,if_pos (by simpa using h4)]⟩
 ·have hjl : j = xs.length := by have : ¬ j < xs.length := by simpa using h1
                                 omega
  subst hjl
  rw [cmpL_end _ (List.drop_length)] at hall
  conv=>whnf
  refine bsel_intro (fun h2=>?_) (fun h2=>?_)
  ·conv=>whnf
   exact g_int (by rw [hall,if_neg (by simp at h2 ⊢; omega)])
  ·conv=>whnf
   exact g_int (by rw [hall,if_pos (by simp at h2 ⊢; omega)])
theorem iRowLess_r (hp : Okp pr) (a b : List Int) (h1 : a.length ≤ big) (h2 : b.length ≤ big) : Ret pr 42 [.sl (a.map i64),.sl (b.map i64)] (.bool (rowLess a b)):=by
 have h:=compare_r hp a b h1 h2
 rw [← cmpL_lt]
 refine retg hp rfl rfl ?_
 have S : Sepa [] []:=Sepa.nil []
 iterate 3
  all_goals (try (conv=>whnf))
  all_goals (first | (intro ka_ ha_ hk_ hh_; replace S:=S.alloc hk_ hh_) | (refine .inl ⟨_,S.row 0 rfl,rfl,?_⟩) | (refine .inl ⟨_,S.row 1 rfl,rfl,?_⟩) | (refine .inl ⟨_,S.row 2 rfl,rfl,?_⟩) | (refine .inl ⟨_,S.row 3 rfl,rfl,?_⟩) | (refine .inl ⟨_,S.row 4 rfl,rfl,?_⟩) | (refine ⟨_,rfl,rfl,rfl,.inl ⟨_,S.row 0 rfl,rfl,?_⟩⟩; (conv=>whnf); intro ha_ hh_; replace S:=S.set 0 rfl hh_; dsimp only [List.set] at S) | (refine ⟨_,rfl,rfl,rfl,.inl ⟨_,S.row 1 rfl,rfl,?_⟩⟩; (conv=>whnf); intro ha_ hh_; replace S:=S.set 1 rfl hh_; dsimp only [List.set] at S) | (refine ⟨_,rfl,rfl,rfl,.inl ⟨_,S.row 2 rfl,rfl,?_⟩⟩; (conv=>whnf); intro ha_ hh_; replace S:=S.set 2 rfl hh_; dsimp only [List.set] at S) | (refine ⟨_,rfl,rfl,rfl,.inl ⟨_,S.row 3 rfl,rfl,?_⟩⟩; (conv=>whnf); intro ha_ hh_; replace S:=S.set 3 rfl hh_; dsimp only [List.set] at S) | (refine ⟨_,rfl,rfl,rfl,.inl ⟨_,S.row 4 rfl,rfl,?_⟩⟩; (conv=>whnf); intro ha_ hh_; replace S:=S.set 4 rfl hh_; dsimp only [List.set] at S) | (refine bsel_intro (fun hb=>?_) (fun hb=>?_)) | (refine ⟨_,h _,?_⟩) | skip)
 all_goals exact g_bool (by rw [hb])
end Go.Proofs.YtncgofhhnhebjaaGreat
/- Items. -/
set_option maxHeartbeats 4000000
namespace Go.Proofs.YtncgofhhnhebjaaGreat
open Go Go.Am
variable {pr : Prims} (hp : Okp pr)
set_option maxRecDepth 100000
structure Item where
 row : List Int
 w : Int
def Item.enc (x : Item) : AVal:=.agg [.sl (x.row.map i64),i64 x.w]
def zsm (z : List Item) : Prop:=z.length ≤ big ∧ ∀ x ∈ z,x.row.length ≤ big
def wOk (w : Int) : Bool:=!decide (w < -10000) && (!decide (w > 10000) && !(w == 0))
def zGo : Option (List Int) → List Item → Bool
 | _,[]=>true
 | p,x :: xs=>(rowOk x.row && (wOk x.w && (match p with | none=>true | some q=>rowLess q x.row))) && zGo (some x.row) xs
def zOk (z : List Item) : Bool:=decide (z.length ≤ 100) && zGo none z
def lastRow (z : List Item) : Option (List Int):=z.getLast?.map Item.row
theorem lastRow_take {z : List Item} {j : Nat} (h : j < z.length) : lastRow (z.take (j + 1)) = some z[j].row:=by
 unfold lastRow
 rw [show z.take (j + 1) = z.take j ++ [z[j]] by rw [List.take_add_one]; simp [h],List.getLast?_concat]
 rfl
theorem iZOk_r (hp : Okp pr) (z : List Item) (hz : zsm z) : Ret pr 12 [.sl (z.map Item.enc)] (.bool (zOk z)):=by
 obtain ⟨hl,hr⟩:=hz
 refine retg hp rfl rfl ?_
 have S : Sepa [] []:=Sepa.nil []
 conv=>whnf
 refine bsel_intro (fun h0=>?_) (fun h0=>?_)
 ·conv=>whnf
  exact g_bool (by have : ¬ z.length ≤ 100 := by simp at h0; omega
                   simp [zOk,this])
 have hz : zOk z = zGo none z:=by
  have : z.length ≤ 100:=by simp at h0; omega
  simp [zOk,this]
 rw [hz]
 clear hz h0
 conv=>whnf
 refine loopG (fun m tm hp=>∃ (j : Nat),j + m = z.length ∧ tm 10 = i64 (j : Nat) ∧ (zGo none z = zGo (lastRow (z.take j)) (z.drop j))) (fun m tm hq hfr hI=>?_) (z.length) ⟨0,by simp,(by first | rfl | kernel_rfl | simp),(by simp [lastRow])⟩
 obtain ⟨j,hj,e10,hall⟩:=hI
 have k0:=hfr 0 (by kernel_rfl)
 conv at k0=>rhs; whnf
 rw [← upd_id k0]
 have k8:=hfr 8 (by kernel_rfl)
 conv at k8=>rhs; whnf
 rw [← upd_id k8]
 have k9:=hfr 9 (by kernel_rfl)
 conv at k9=>rhs; whnf
 rw [← upd_id k9]
 rw [← upd_id e10]
 clear hfr k0 k8 k9 e10
 have S : Sepa hq []:=Sepa.nil hq
 conv=>whnf
 refine bsel_intro (fun h1=>?_) (fun h1=>?_)
 ·have hjl : j < z.length:=by simpa using h1
  have hnext:=lastRow_take hjl
  have hge : (z.map Item.enc)[((j : Nat) : Int).toNat]? = some (Item.enc z[j]):=by rw [Int.toNat_natCast]; simp [hjl]
  have hrow:=hr z[j] (List.getElem_mem hjl)
  rw [List.drop_eq_getElem_cons hjl] at hall
  simp only [zGo] at hall
  cases j with
  | zero=>
   have hprev : lastRow (z.take 0) = none:=by simp [lastRow]
   rw [hprev] at hall
   generalize z[0] = x at hge hrow hall hnext
   obtain ⟨row,w⟩:=x
   have h2:=iRowOk_r hp row hrow
   simp only [wOk] at hall
   conv=>whnf
   refine ⟨_,hge,by omega,rfl,?_⟩
   iterate 14
    all_goals (try (conv=>whnf))
    all_goals (first | (intro ka_ ha_ hk_ hh_; replace S:=S.alloc hk_ hh_) | (refine .inl ⟨_,S.row 0 rfl,rfl,?_⟩) | (refine .inl ⟨_,S.row 1 rfl,rfl,?_⟩) | (refine .inl ⟨_,S.row 2 rfl,rfl,?_⟩) | (refine .inl ⟨_,S.row 3 rfl,rfl,?_⟩) | (refine .inl ⟨_,S.row 4 rfl,rfl,?_⟩) | (refine ⟨_,rfl,rfl,rfl,.inl ⟨_,S.row 0 rfl,rfl,?_⟩⟩; (conv=>whnf); intro ha_ hh_; replace S:=S.set 0 rfl hh_; dsimp only [List.set] at S) | (refine ⟨_,rfl,rfl,rfl,.inl ⟨_,S.row 1 rfl,rfl,?_⟩⟩; (conv=>whnf); intro ha_ hh_; replace S:=S.set 1 rfl hh_; dsimp only [List.set] at S) | (refine ⟨_,rfl,rfl,rfl,.inl ⟨_,S.row 2 rfl,rfl,?_⟩⟩; (conv=>whnf); intro ha_ hh_; replace S:=S.set 2 rfl hh_; dsimp only [List.set] at S) | (refine ⟨_,rfl,rfl,rfl,.inl ⟨_,S.row 3 rfl,rfl,?_⟩⟩; (conv=>whnf); intro ha_ hh_; replace S:=S.set 3 rfl hh_; dsimp only [List.set] at S) | (refine ⟨_,rfl,rfl,rfl,.inl ⟨_,S.row 4 rfl,rfl,?_⟩⟩; (conv=>whnf); intro ha_ hh_; replace S:=S.set 4 rfl hh_; dsimp only [List.set] at S) | (refine bsel_intro (fun hb=>?_) (fun hb=>?_)) | (refine ⟨_,h2 _,?_⟩) | skip)
   all_goals first
    | exact g_bool (by clear hge hnext h2 hr hrow; simp_all)
    | exact ⟨m - 1,by omega,1,by omega,nat_step 0 (by omega),by rw [hnext,hall]; clear hge hnext h2 hr hrow hall; simp_all⟩
  | succ i=>
   have hprev:=lastRow_take (z:=z) (j:=i) (by omega)
   rw [hprev] at hall
   have hw : IntKind.i64.wrap (((i + 1 : Nat) : Int) - 1) = (i : Nat):=by rw [IntKind.wrap_i64]; simp [big] at hl; omega
   have hge2 : (z.map Item.enc)[(IntKind.i64.wrap (((i + 1 : Nat) : Int) - 1)).toNat]? = some (Item.enc z[i]):=by rw [hw,Int.toNat_natCast]; simp [show i < z.length by omega]
   have hrow2:=hr z[i] (List.getElem_mem (by omega))
   generalize z[i + 1] = x at hge hrow hall hnext
   generalize z[i] = y at hge2 hrow2 hall hprev
   obtain ⟨row,w⟩:=x
   obtain ⟨row2,w2⟩:=y
   have h2:=iRowOk_r hp row hrow
   have h3:=iRowLess_r hp row2 row hrow2 hrow
   simp only [wOk] at hall
   conv=>whnf
   refine ⟨_,hge,by omega,rfl,?_⟩
   iterate 18
    all_goals (try (conv=>whnf))
    all_goals (first | (refine ⟨_,hge2,by omega,rfl,?_⟩) | (intro ka_ ha_ hk_ hh_; replace S:=S.alloc hk_ hh_) | (refine .inl ⟨_,S.row 0 rfl,rfl,?_⟩) | (refine .inl ⟨_,S.row 1 rfl,rfl,?_⟩) | (refine .inl ⟨_,S.row 2 rfl,rfl,?_⟩) | (refine .inl ⟨_,S.row 3 rfl,rfl,?_⟩) | (refine .inl ⟨_,S.row 4 rfl,rfl,?_⟩) | (refine ⟨_,rfl,rfl,rfl,.inl ⟨_,S.row 0 rfl,rfl,?_⟩⟩; (conv=>whnf); intro ha_ hh_; replace S:=S.set 0 rfl hh_; dsimp only [List.set] at S) | (refine ⟨_,rfl,rfl,rfl,.inl ⟨_,S.row 1 rfl,rfl,?_⟩⟩; (conv=>whnf); intro ha_ hh_; replace S:=S.set 1 rfl hh_; dsimp only [List.set] at S) | (refine ⟨_,rfl,rfl,rfl,.inl ⟨_,S.row 2 rfl,rfl,?_⟩⟩; (conv=>whnf); intro ha_ hh_; replace S:=S.set 2 rfl hh_; dsimp only [List.set] at S) | (refine ⟨_,rfl,rfl,rfl,.inl ⟨_,S.row 3 rfl,rfl,?_⟩⟩; (conv=>whnf); intro ha_ hh_; replace S:=S.set 3 rfl hh_; dsimp only [List.set] at S) | (refine ⟨_,rfl,rfl,rfl,.inl ⟨_,S.row 4 rfl,rfl,?_⟩⟩; (conv=>whnf); intro ha_ hh_; replace S:=S.set 4 rfl hh_; dsimp only [List.set] at S) | (refine bsel_intro (fun hb=>?_) (fun hb=>?_)) | (refine ⟨_,h2 _,?_⟩) | (refine ⟨_,h3 _,?_⟩) | skip)
   all_goals first
    | exact g_bool (by clear hge hge2 hnext h2 h3 hr hrow hrow2 hw hprev; simp_all)
    | exact ⟨m - 1,by omega,i + 1 + 1,by omega,nat_step (i + 1) (by simp [big] at hl; omega),by rw [hnext,hall]; clear hge hge2 hnext h2 h3 hr hrow hrow2 hall hw hprev; simp_all⟩
 ·have hjl : j = z.length := by have : ¬ j < z.length := by simpa using h1
                                omega
  subst hjl
  rw [List.drop_length] at hall
  conv=>whnf
  exact g_bool (by rw [hall]; rfl)
end Go.Proofs.YtncgofhhnhebjaaGreat
/- The law's own functions: copies of lists. -/
set_option maxHeartbeats 4000000
namespace Go.Proofs.YtncgofhhnhebjaaGreat
open Go Go.Am
variable {pr : Prims} (hp : Okp pr)
set_option maxRecDepth 100000
theorem retL_of (hp : Okp pr) {α : Type} {g : α → AVal} {sz : Nat} {f : FuncId} {args : List AVal} {xs : List α} (hn : plain f = true) (hw : wpF (cfp pr) f args [] (fun r=>∃ v h F,r = .ret v h ∧ OwnL g sz h xs v F ∧ F.Nodup)) : RetL g sz pr f args xs:=by
 obtain ⟨r,hr,v,h,F,rfl,h1,h2⟩:=wpF_sound (hp.out f hn) hw
 exact ⟨v,h,F,hr,h1,h2⟩
theorem retN_of (hp : Okp pr) {f : FuncId} {args : List AVal} {p : Plan} (hn : plain f = true) (hw : wpFq (cfp pr) f args [] (fun r=>∃ v h F,r = .ret v h ∧ OwnP h p v F ∧ F.Nodup)) : RetN pr f args p:=by
 obtain ⟨r,hr,v,h,F,rfl,h1,h2⟩:=wpFq_sound (hp.out f hn) hw
 exact ⟨v,h,F,hr,h1,h2⟩
theorem retS_of (hp : Okp pr) {f : FuncId} {args : List AVal} {ps : List Plan} (hn : plain f = true) (hw : wpFq (cfp pr) f args [] (fun r=>∃ v h F,r = .ret v h ∧ OwnK h ps v F ∧ F.Nodup)) : RetS pr f args ps:=by
 obtain ⟨r,hr,v,h,F,rfl,h1,h2⟩:=wpFq_sound (hp.out f hn) hw
 exact ⟨v,h,F,hr,h1,h2⟩
theorem toCell_r (hp : Okp pr) (c : Cell) : Ret pr 211 [c.enc] c.enc:=by
 refine ret_of hp rfl rfl ?_
 conv=>whnf
 exact ⟨_,_,rfl,rfl⟩
theorem toTest_r (hp : Okp pr) (t : Test) : Ret pr 196 [t.enc] t.enc:=by
 obtain ⟨k,no,l,r⟩:=t
 refine ret_of hp rfl rfl ?_
 cases no
 iterate 2
  ·conv=>whnf
   refine ⟨_,toCell_r hp l _,?_⟩
   conv=>whnf
   refine ⟨_,toCell_r hp r _,?_⟩
   conv=>whnf
   refine ⟨_,_,rfl,?_⟩
   kernel_rfl
def zCell : AVal:=.agg [i64 0,i64 0,i64 0,i64 0]
theorem toCellS_n (hp : Okp pr) (xs : List Cell) (hl : xs.length ≤ 1048576) : RetL Cell.enc 4 pr 197 [.sl (xs.map Cell.enc)] xs:=by
 have hlen : (((xs.map Cell.enc).length : Nat) : Int).toNat = xs.length:=by simp
 refine retL_of hp rfl ?_
 conv=>whnf
 refine ⟨?_,?_⟩
 ·simp [sizeLim]; omega
 conv=>whnf
 refine loop_rule (fun m st=>∃ j : Nat,j + m = xs.length ∧ st.tm 0 = .sl (xs.map Cell.enc) ∧ st.tm 3 = .own 0 0 (((xs.map Cell.enc).length : Nat) : Int).toNat ∧ st.tm 4 = i64 (j : Nat) ∧ st.hp = [.arr 4 ((xs.take j).map Cell.enc ++ List.replicate ((((xs.map Cell.enc).length : Nat) : Int).toNat - j) zCell)]) (fun m st hI=>?_) (xs.length) _ ⟨0,by simp,(by first | kernel_rfl | rfl | simp),(by first | kernel_rfl | rfl | simp),(by first | kernel_rfl | rfl | simp),(by first | kernel_rfl | rfl | simp)⟩
 obtain ⟨j,hj,e0,e3,e4,hh⟩:=hI
 obtain ⟨tm,hq⟩:=st
 simp only at e0 e3 e4 hh
 subst hh
 rw [show tm = upd (upd (upd tm 0 (.sl (xs.map Cell.enc))) 3 (.own 0 0 (((xs.map Cell.enc).length : Nat) : Int).toNat)) 4 (i64 (j : Nat)) by rw [upd_id e0,upd_id e3,upd_id e4]]
 clear e0 e3 e4
 conv=>whnf
 ·refine bsel_intro (fun h1=>?_) (fun h1=>?_)
  ·have hjl : j < xs.length:=by simpa using h1
   obtain ⟨m',rfl⟩ : ∃ m',m = m' + 1:=⟨m - 1,by omega⟩
   have hm1 : ((((xs.map Cell.enc).length : Nat) : Int).toNat - j) = m' + 1:=by rw [hlen]; omega
   have hm2 : ((((xs.map Cell.enc).length : Nat) : Int).toNat - (j + 1)) = m':=by rw [hlen]; omega
   have hge : (xs.map Cell.enc)[((j : Nat) : Int).toNat]? = some (Cell.enc xs[j]):=by rw [Int.toNat_natCast]; simp [hjl]
   have hfill:=fill_step Cell.enc zCell xs j m' hjl
   have hfg:=fill_get Cell.enc zCell xs j m' hjl
   conv=>whnf
   refine ⟨(xs[j]).enc,hge,by omega,rfl,?_⟩
   conv=>whnf
   refine ⟨_,toCell_r hp xs[j] _,?_⟩
   conv=>whnf
   refine ⟨⟨by omega,by rw [hlen]; omega⟩,rfl,?_⟩
   conv=>whnf
   refine ⟨zCell,?_,?_⟩
   ·refine Eq.trans (b:=((xs.take j).map Cell.enc ++ List.replicate ((((xs.map Cell.enc).length : Nat) : Int).toNat - j) zCell)[0 + (j : Int).toNat]?) ?_ ?_
    ·kernel_rfl
    ·rw [hm1,Int.toNat_natCast,Nat.zero_add]
     exact hfg
   conv=>whnf
   refine ⟨m',by omega,j + 1,by omega,rfl,rfl,nat_step j (by omega),?_⟩
   refine Eq.trans (b:=[AObj.arr 4 (((xs.take j).map Cell.enc ++ List.replicate ((((xs.map Cell.enc).length : Nat) : Int).toNat - j) zCell).set (0 + (j : Int).toNat) ((xs[j]).enc))]) ?_ ?_
   ·kernel_rfl
   ·rw [hm1,hm2,Int.toNat_natCast,Nat.zero_add,hfill]
  ·have hje : j = xs.length:=by
    have : ¬ j < xs.length:=by simpa using h1
    omega
   subst hje
   conv=>whnf
   refine ⟨_,_,[0],rfl,.inr ⟨0,?_,?_,rfl⟩,by simp⟩
   ·refine Eq.trans (b:=AVal.own 0 0 (((xs.map Cell.enc).length : Nat) : Int).toNat) (by kernel_rfl) (by rw [hlen])
   ·refine Eq.trans (b:=some (AObj.arr 4 ((xs.take xs.length).map Cell.enc ++ List.replicate ((((xs.map Cell.enc).length : Nat) : Int).toNat - xs.length) (zCell)))) (by kernel_rfl) (by rw [hlen,Nat.sub_self,List.take_length]; simp)
theorem toIntS_n (hp : Okp pr) (xs : List Int) (hl : xs.length ≤ 1048576) : RetL i64 1 pr 46 [.sl (xs.map i64)] xs:=by
 have hlen : (((xs.map i64).length : Nat) : Int).toNat = xs.length:=by simp
 refine retL_of hp rfl ?_
 conv=>whnf
 refine ⟨?_,?_⟩
 ·simp [sizeLim]; omega
 conv=>whnf
 refine loop_rule (fun m st=>∃ j : Nat,j + m = xs.length ∧ st.tm 0 = .sl (xs.map i64) ∧ st.tm 3 = .own 0 0 (((xs.map i64).length : Nat) : Int).toNat ∧ st.tm 4 = i64 (j : Nat) ∧ st.hp = [.arr 1 ((xs.take j).map i64 ++ List.replicate ((((xs.map i64).length : Nat) : Int).toNat - j) (i64 0))]) (fun m st hI=>?_) (xs.length) _ ⟨0,by simp,(by first | kernel_rfl | rfl | simp),(by first | kernel_rfl | rfl | simp),(by first | kernel_rfl | rfl | simp),(by first | kernel_rfl | rfl | simp)⟩
 obtain ⟨j,hj,e0,e3,e4,hh⟩:=hI
 obtain ⟨tm,hq⟩:=st
 simp only at e0 e3 e4 hh
 subst hh
 rw [show tm = upd (upd (upd tm 0 (.sl (xs.map i64))) 3 (.own 0 0 (((xs.map i64).length : Nat) : Int).toNat)) 4 (i64 (j : Nat)) by rw [upd_id e0,upd_id e3,upd_id e4]]
 clear e0 e3 e4
 conv=>whnf
 ·refine bsel_intro (fun h1=>?_) (fun h1=>?_)
  ·have hjl : j < xs.length:=by simpa using h1
   obtain ⟨m',rfl⟩ : ∃ m',m = m' + 1:=⟨m - 1,by omega⟩
   have hm1 : ((((xs.map i64).length : Nat) : Int).toNat - j) = m' + 1:=by rw [hlen]; omega
   have hm2 : ((((xs.map i64).length : Nat) : Int).toNat - (j + 1)) = m':=by rw [hlen]; omega
   have hge : (xs.map i64)[((j : Nat) : Int).toNat]? = some (i64 xs[j]):=by rw [Int.toNat_natCast]; simp [hjl]
   have hfill:=fill_step i64 (i64 0) xs j m' hjl
   have hfg:=fill_get i64 (i64 0) xs j m' hjl
   conv=>whnf
   refine ⟨i64 xs[j],hge,by omega,rfl,?_⟩
   conv=>whnf
   refine ⟨⟨by omega,by rw [hlen]; omega⟩,rfl,?_⟩
   conv=>whnf
   refine ⟨(i64 0),?_,?_⟩
   ·refine Eq.trans (b:=((xs.take j).map i64 ++ List.replicate ((((xs.map i64).length : Nat) : Int).toNat - j) (i64 0))[0 + (j : Int).toNat]?) ?_ ?_
    ·kernel_rfl
    ·rw [hm1,Int.toNat_natCast,Nat.zero_add]
     exact hfg
   conv=>whnf
   refine ⟨m',by omega,j + 1,by omega,rfl,rfl,nat_step j (by omega),?_⟩
   refine Eq.trans (b:=[AObj.arr 1 (((xs.take j).map i64 ++ List.replicate ((((xs.map i64).length : Nat) : Int).toNat - j) (i64 0)).set (0 + (j : Int).toNat) (i64 xs[j]))]) ?_ ?_
   ·kernel_rfl
   ·rw [hm1,hm2,Int.toNat_natCast,Nat.zero_add,hfill]
  ·have hje : j = xs.length:=by
    have : ¬ j < xs.length:=by simpa using h1
    omega
   subst hje
   conv=>whnf
   refine ⟨_,_,[0],rfl,.inr ⟨0,?_,?_,rfl⟩,by simp⟩
   ·refine Eq.trans (b:=AVal.own 0 0 (((xs.map i64).length : Nat) : Int).toNat) (by kernel_rfl) (by rw [hlen])
   ·refine Eq.trans (b:=some (AObj.arr 1 ((xs.take xs.length).map i64 ++ List.replicate ((((xs.map i64).length : Nat) : Int).toNat - xs.length) (i64 0)))) (by kernel_rfl) (by rw [hlen,Nat.sub_self,List.take_length]; simp)
end Go.Proofs.YtncgofhhnhebjaaGreat
/- The law's own functions: copies of plans, the caller's own. -/
set_option maxHeartbeats 4000000
namespace Go.Am
open Go
theorem Sepa.merge {h : Heap} {L : List Chunk} {c d e : Chunk} (s : Sepa h (c :: d :: L)) (he : e.P h) (hF : ∀ id ∈ e.F,id ∈ c.F ∨ id ∈ d.F) (hn : e.F.Nodup) : Sepa h (e :: L):=by
 refine ⟨fun i x hi=>?_,fun i j x y hij hi hj id hid=>?_⟩
 ·cases i with
  | zero=>simp at hi; subst hi; exact ⟨he,hn⟩
  | succ i=>exact s.get' (i + 2) x (by simpa using hi)
 ·cases i with
  | zero=>
   simp at hi
   subst hi
   cases j with
   | zero=>exact absurd rfl hij
   | succ j=>
    rcases hF id hid with h1 | h1
    ·exact s.apart 0 (j + 2) c y (by omega) rfl (by simpa using hj) id h1
    ·exact s.apart 1 (j + 2) d y (by omega) rfl (by simpa using hj) id h1
  | succ i=>
   cases j with
   | zero=>
    simp at hj
    subst hj
    intro hm
    rcases hF id hm with h1 | h1
    ·exact s.apart (i + 2) 0 x c (by omega) (by simpa using hi) rfl id hid h1
    ·exact s.apart (i + 2) 1 x d (by omega) (by simpa using hi) rfl id hid h1
   | succ j=>exact s.apart (i + 2) (j + 2) x y (by omega) (by simpa using hi) (by simpa using hj) id hid
theorem nodup_join {F G : List Nat} (h1 : F.Nodup) (h2 : G.Nodup) (h3 : ∀ id ∈ F,id ∉ G) : (F ++ G).Nodup:=by
 rw [List.nodup_append]
 exact ⟨h1,h2,fun a ha b hb e=>h3 a ha (e ▸ hb)⟩
theorem Sepa.nodup2 {h : Heap} {L : List Chunk} {c d : Chunk} (s : Sepa h (c :: d :: L)) : (d.F ++ c.F).Nodup:=nodup_join (s.get' 1 d rfl).2 (s.get' 0 c rfl).2 (s.apart 1 0 d c (by omega) rfl rfl)
theorem Sepa.swap {h : Heap} {L : List Chunk} {c d : Chunk} (s : Sepa h (c :: d :: L)) : Sepa h (d :: c :: L):=by
 have key : ∀ i x,(d :: c :: L)[i]? = some x → ∃ j,(c :: d :: L)[j]? = some x ∧ (i = 0 → j = 1) ∧ (i = 1 → j = 0) ∧ (2 ≤ i → j = i):=by
  intro i x hi
  match i,hi with
  | 0,hi=>exact ⟨1,by simpa using hi,by simp,by simp,by simp⟩
  | 1,hi=>exact ⟨0,by simpa using hi,by simp,by simp,by simp⟩
  | i + 2,hi=>exact ⟨i + 2,by simpa using hi,by simp,by omega,by simp⟩
 refine ⟨fun i x hi=>?_,fun i j x y hij hi hj=>?_⟩
 ·obtain ⟨k,hk,_⟩:=key i x hi; exact s.get' k x hk
 ·obtain ⟨k,hk,k0,k1,k2⟩:=key i x hi
  obtain ⟨l,hl,l0,l1,l2⟩:=key j y hj
  refine s.apart k l x y ?_ hk hl
  rcases Nat.lt_or_ge i 2 with h1 | h1 <;> rcases Nat.lt_or_ge j 2 with h2 | h2
  ·rcases (by omega : i = 0 ∨ i = 1) with h3 | h3 <;> rcases (by omega : j = 0 ∨ j = 1) with h4 | h4 <;> first | omega | (have:=k0 h3; have:=l1 h4; omega) | (have:=k1 h3; have:=l0 h4; omega)
  ·have:=l2 h2; rcases (by omega : i = 0 ∨ i = 1) with h3 | h3
   ·have:=k0 h3; omega
   ·have:=k1 h3; omega
  ·have:=k2 h1; rcases (by omega : j = 0 ∨ j = 1) with h3 | h3
   ·have:=l0 h3; omega
   ·have:=l1 h3; omega
  ·have:=k2 h1; have:=l2 h2; omega
end Go.Am
namespace Go.Proofs.YtncgofhhnhebjaaGreat
open Go Go.Am
variable {pr : Prims} (hp : Okp pr)
def zPlan : AVal:=.agg [i64 0,i64 0,i64 0,.bool false,i64 0,i64 0,i64 0,i64 0,i64 0,i64 0,i64 0,i64 0,.nil,i64 0,i64 0,.nil,i64 0,i64 0,.nil]
theorem OwnL.cell {α : Type} {f : α → AVal} {sz : Nat} {h : Heap} {xs : List α} {v : AVal} {F : List Nat} (ho : OwnL f sz h xs v F) : v.cells = [v] ∧ v.isCell = true:=by
 rcases ho with ⟨_,_,rfl | rfl⟩ | ⟨id,rfl,_,_⟩ <;> exact ⟨rfl,rfl⟩
theorem OwnK.cell {h : Heap} {ps : List Plan} {D : AVal} {F : List Nat} (ho : OwnK h ps D F) : D.cells = [D] ∧ D.isCell = true:=by
 rcases ho with ⟨_,rfl,_⟩ | ⟨id,vs,Fs,rfl,_⟩ <;> exact ⟨rfl,rfl⟩
theorem all1 {C : AVal} (h : C.isCell = true) : [C].all AVal.isCell = true:=by simp [h]
theorem pval_all {kind n : Int} {test : Test} {C : AVal} {a b : Int} {K : AVal} {agg col : Int} {D : AVal} (h1 : C.isCell = true) (h2 : K.isCell = true) (h3 : D.isCell = true) : (pval kind n test C a b K agg col D).cells.all AVal.isCell = true:=by
 simp only [pval,AVal.cells,List.all_cons,h1,h2,h3,List.all_nil,Bool.and_true]
 rfl
theorem plans_fill {vs : List AVal} {v z : AVal} {n j : Nat} (hv : vs.length = j) (hj : j < n) : (vs ++ List.replicate (n - j) z).set j v = (vs ++ [v]) ++ List.replicate (n - (j + 1)) z:=by
 subst hv
 rw [List.set_append_right _ _ (Nat.le_refl _),Nat.sub_self,show n - vs.length = (n - (vs.length + 1)) + 1 by omega,List.replicate_succ,List.set_cons_zero,List.append_assoc]
 rfl
theorem plans_at {vs : List AVal} {z : AVal} {n j : Nat} (hv : vs.length = j) (hj : j < n) : (vs ++ List.replicate (n - j) z)[j]? = some z:=by
 subst hv
 rw [List.getElem?_append_right (Nat.le_refl _),Nat.sub_self,show n - vs.length = (n - (vs.length + 1)) + 1 by omega]
 rfl
set_option maxRecDepth 100000
theorem toPlanS_n (hp : Okp pr) (xs : List Plan) (hl : xs.length ≤ 1048576) (ih : ∀ p ∈ xs,RetN pr 172 [p.enc] p) : RetS pr 198 [.sl (Plan.encs xs)] xs:=by
 have hlen : (((Plan.encs xs).length : Nat) : Int).toNat = xs.length:=by simp [encs_len]
 refine retS_of hp rfl ?_
 have S : Sepa [] []:=Sepa.nil []
 conv=>whnf
 refine ⟨?_,?_⟩
 ·simp [sizeLim,encs_len]; omega
 conv=>whnf
 intro k1 h1 hk_k1 hh_h1
 replace S:=S.alloc hk_k1 hh_h1
 conv=>whnf
 rw [hlen] at S
 refine loop_ruley true (fun m st=>∃ (j : Nat) (vs : List AVal) (F : List Nat),j + m = xs.length ∧ st.tm 0 = .sl (Plan.encs xs) ∧ st.tm 3 = .own k1 0 (((Plan.encs xs).length : Nat) : Int).toNat ∧ st.tm 4 = i64 (j : Nat) ∧
  Sepa st.hp [.plans (xs.take j) vs F,.row k1 (.arr 19 (vs ++ List.replicate (xs.length - j) zPlan))]) (fun m st hI=>?_) xs.length _ ⟨0,[],[],by simp,rfl,rfl,rfl,?_⟩
 rotate_left
 ·exact S.more (c:=.plans [] [] []) (List.prefix_refl _) (by show OwnPs _ _ _ _; simp [OwnPs]) (by simp [Chunk.plans]) (by simp [Chunk.plans])
 obtain ⟨j,vs,F,hj,e0,e3,e4,S2⟩:=hI
 obtain ⟨tm,hq⟩:=st
 simp only at e0 e3 e4 S2
 rw [show tm = upd (upd (upd tm 0 (.sl (Plan.encs xs))) 3 (.own k1 0 (((Plan.encs xs).length : Nat) : Int).toNat)) 4 (i64 (j : Nat)) by rw [upd_id e0,upd_id e3,upd_id e4]]
 clear e0 e3 e4
 have hvl : vs.length = j:=by
  have : OwnPs hq (xs.take j) vs F:=S2.get 0 rfl
  rw [OwnPs_len this]; simp; omega
 conv=>whnf
 refine bsel_intro (fun h1=>?_) (fun h1=>?_)
 ·have hjl : j < xs.length:=by simpa [encs_len] using h1
  have hge : (Plan.encs xs)[((j : Nat) : Int).toNat]? = some (Plan.enc xs[j]):=by rw [Int.toNat_natCast,encs_get]; simp [hjl]
  have hih:=ih xs[j] (List.getElem_mem hjl)
  have htk : xs.take (j + 1) = xs.take j ++ [xs[j]]:=by rw [List.take_add_one]; simp [hjl]
  generalize xs[j] = q at hge hih htk
  obtain ⟨kind,n,test,cells,a,b,keys,agg,c,kids⟩:=q
  conv=>whnf
  refine ⟨_,hge,by omega,rfl,?_⟩
  conv=>whnf
  obtain ⟨v,hh,F2,hc,hpre,ho,hn,hd⟩:=hih.at (h:=hq) (args:=[(Plan.mk kind n test cells a b keys agg c kids).enc]) rfl rfl
  have S3:=S2.more (c:=.plan (Plan.mk kind n test cells a b keys agg c kids) v F2) hpre ho hn hd
  rw [OwnP_mk] at ho
  obtain ⟨C,K,D,Fc,Fk,Fd,rfl,g1,g2,g3,rfl⟩:=ho
  refine ⟨_,hc,?_⟩
  conv=>whnf
  refine ⟨_,S3.row 2 rfl,⟨by omega,by rw [hlen]; omega⟩,?_⟩
  conv=>whnf
  refine ⟨_,rfl,rfl,pval_all g1.cell.2 g2.cell.2 g3.cell.2,.inr ⟨_,_,zPlan,S3.row 2 rfl,?_,?_⟩⟩
  ·rw [Int.toNat_natCast,Nat.zero_add]; exact plans_at hvl hjl
  conv=>whnf
  intro h5 hh5
  have S5:=S3.set 2 rfl hh5
  dsimp only [List.set] at S5
  conv=>whnf
  refine ⟨m - 1,by omega,j + 1,vs ++ [pval kind n test C a b K agg c D],F ++ (Fc ++ (Fk ++ Fd)),by omega,rfl,rfl,nat_step j (by omega),?_⟩
  have S6:=S5.merge (e:=.plans (xs.take (j + 1)) (vs ++ [pval kind n test C a b K agg c D]) (F ++ (Fc ++ (Fk ++ Fd)))) ?_ ?_ S5.nodup2
  ·have hfill:=plans_fill (v:=pval kind n test C a b K agg c D) (z:=zPlan) hvl hjl
   rw [Int.toNat_natCast,Nat.zero_add] at S6
   rw [← hfill]
   exact S6
  ·have h7 : OwnP h5 _ _ _:=S5.get 0 rfl
   have h8 : OwnPs h5 _ _ _:=S5.get 1 rfl
   show OwnPs h5 _ _ _
   rw [htk]
   exact OwnPs_append h8 (by simp only [OwnPs]; exact ⟨_,_,_,_,rfl,by simp,h7,rfl,rfl⟩)
  ·intro id hid
   rcases List.mem_append.1 hid with h | h
   ·exact .inr h
   ·exact .inl h
 ·have hje : j = xs.length:=by
   have : ¬ j < xs.length:=by simpa [encs_len] using h1
   omega
  subst hje
  conv=>whnf
  have e:=S2.row 1 rfl
  rw [Nat.sub_self,List.replicate_zero,List.append_nil] at e
  have hps : OwnPs hq (xs.take xs.length) vs F:=S2.get 0 rfl
  rw [List.take_length] at hps
  refine ⟨_,rfl,_,_,k1 :: F,rfl,.inr ⟨k1,vs,F,?_,e,hps,rfl⟩,?_⟩
  ·refine Eq.trans (b:=AVal.own k1 0 (((Plan.encs xs).length : Nat) : Int).toNat) (by kernel_rfl) (by rw [hlen])
  ·exact (List.nodup_cons.2 ⟨fun hm=>S2.apart 0 1 _ _ (by omega) rfl rfl k1 hm (by simp [Chunk.row]),(S2.get' 0 _ rfl).2⟩)
end Go.Proofs.YtncgofhhnhebjaaGreat

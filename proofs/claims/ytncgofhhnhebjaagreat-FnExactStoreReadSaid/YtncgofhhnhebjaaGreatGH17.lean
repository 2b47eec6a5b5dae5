/- The reference's PlanSame. -/
import Derived.Test.YtncgofhhnhebjaaGreatGH16
set_option linter.unusedVariables false
set_option linter.unusedSimpArgs false
/- The program's looks at lists. -/
set_option maxHeartbeats 4000000
namespace Go.Am
open Go
theorem snap_scalar {h : Heap} {n : Nat} {v r : AVal} (hs : snapF h n v = some r) (hr : r.isScalar = true) : v = r:=by
 cases n with
 | zero=>cases hs
 | succ n=>
  cases v <;> (try simp only [snapF] at hs)
  case map id=>
   split at hs
   ·split at hs
    ·cases hs; cases hr
    ·cases hs
   ·cases hs
  case own id st len=>
   split at hs
   ·split at hs
    ·simp only [Option.map_eq_some_iff] at hs; obtain ⟨_,_,rfl⟩:=hs; cases hr
    ·cases hs
   ·cases hs
  case ptr id i off=>
   split at hs
   ·split at hs
    ·simp only [Option.map_eq_some_iff] at hs; obtain ⟨_,_,rfl⟩:=hs; cases hr
    ·cases hs
   ·simp only [Option.map_eq_some_iff] at hs; obtain ⟨_,_,rfl⟩:=hs; cases hr
   ·cases hs
  case func fn a b=>
   split at hs
   ·cases hs; cases hr
   ·cases hs
  case agg cs=>simp only [Option.map_eq_some_iff] at hs; obtain ⟨_,_,rfl⟩:=hs; cases hr
  case tup cs=>simp only [Option.map_eq_some_iff] at hs; obtain ⟨_,_,rfl⟩:=hs; cases hr
  case iface t v=>simp only [Option.map_eq_some_iff] at hs; obtain ⟨_,_,rfl⟩:=hs; cases hr
  all_goals (first | (cases hs; done) | (cases hs; rfl) | (cases hs; cases hr))
end Go.Am
namespace Go.Proofs.YtncgofhhnhebjaaGreat
open Go Go.Am
theorem Ret.some {pr : Prims} {f : FuncId} {args : List AVal} {res : AVal} (hr : Ret pr f args res) (hi : snapL [] args = some args) (hM : modes f = Am.Mode.P:=by rfl) : ∃ v h1,call (cfp pr) f args [] = some (.ret v h1) ∧ snap h1 v = some res:=by
 have h0:=hr []
 have hm : (cfp pr).M f = .P:=hM
 unfold callM at h0
 simp only [hm,hi] at h0
 cases hc : call (cfp pr) f args [] with
 | none=>rw [hc] at h0; cases h0
 | some q=>
  rw [hc] at h0
  cases q with
  | ret v h1=>
   simp only [Option.map_eq_some_iff] at h0
   obtain ⟨w,hw,he⟩:=h0
   cases he
   exact ⟨v,h1,rfl,hw⟩
  | pan v h1=>
   simp only [Option.map_eq_some_iff] at h0
   obtain ⟨w,hw,he⟩:=h0
   cases he
theorem Ret.snapped {pr : Prims} {f : FuncId} {args args' : List AVal} {res : AVal} (hr : Ret pr f args' res) (hs : snapL [] args = Option.some args') (hi : snapL [] args' = Option.some args') (hM : modes f = Am.Mode.P:=by rfl) : Ret pr f args res:=by
 obtain ⟨v,h1,hc,hv⟩:=hr.some hi hM
 intro h
 have hm : (cfp pr).M f = .P:=hM
 unfold callM
 simp only [hm,hs,hc,hv,Option.map_some]
theorem Ret.frozen {pr : Prims} {f : FuncId} {args args' : List AVal} {res : AVal} {h : Heap} (hr : Ret pr f args' res) (hn : snapL [] args = Option.none) (hs : snapL h args = Option.some args') (hi : snapL [] args' = Option.some args') (hres : res.isScalar = true) (hM : modes f = Am.Mode.P:=by rfl) :
  callM (cfp pr) (call (cfp pr)) f args h = Option.some (.ret res h):=by
   obtain ⟨v,h1,hc,hv⟩:=hr.some hi hM
   obtain rfl:=snap_scalar hv hres
   have hm : (cfp pr).M f = .P:=hM
   have hsc : v.scal = true:=by cases v <;> first | exact hres | cases hres
   unfold callM
   simp only [hm,hn,hs,hc,hsc,if_true]
variable {pr : Prims} (hp : Okp pr)
set_option maxRecDepth 100000
def idxI (v : Int) (k : Int) : List Int → Int
 | []=>-1
 | x :: xs=>if v == x then k else idxI v (k + 1) xs
theorem idxI_iff (v : Int) : ∀ (xs : List Int) (k : Int),0 ≤ k → (idxI v k xs ≥ 0 ↔ xs.contains v = true)
 | [],k,_=>by simp [idxI]
 | x :: xs,k,hk=>by
  have ih:=idxI_iff v xs (k + 1) (by omega)
  rw [List.contains_cons]
  unfold idxI
  by_cases h : (v == x) = true
  ·rw [if_pos h]; simp [h]; exact hk
  ·rw [if_neg h]; simp only [Bool.eq_false_iff.2 h,Bool.false_or]; exact ih
theorem idxI_ge (v : Int) (xs : List Int) (k : Int) (hk : 0 ≤ k) : decide (idxI v k xs ≥ 0) = xs.contains v:=by
 rw [Bool.eq_iff_iff,decide_eq_true_iff]
 exact idxI_iff v xs k hk
theorem index_r (hp : Okp pr) (xs : List Int) (v : Int) (hl : xs.length ≤ 1048576) : Ret pr 290 [.sl (xs.map i64),i64 v] (i64 (idxI v 0 xs)):=by
 refine ret_of hp rfl rfl ?_
 conv=>whnf
 refine loop_rule (fun m st=>∃ j : Nat,j + m = xs.length ∧ st.tm 0 = .sl (xs.map i64) ∧ st.tm 1 = i64 v ∧ st.tm 7 = i64 ((xs.map i64).length : Nat) ∧ st.tm 8 = i64 (j : Nat) ∧ st.hp = [] ∧ idxI v 0 xs = idxI v (j : Nat) (xs.drop j)) (fun m st hI=>?_) (xs.length) _ ⟨0,by simp,(by first | kernel_rfl | rfl | simp),(by first | kernel_rfl | rfl | simp),(by first | kernel_rfl | rfl | simp),(by first | kernel_rfl | rfl | simp),(by first | kernel_rfl | rfl | simp),(by first | rfl | simp)⟩
 obtain ⟨j,hj,e0,e1,e7,e8,hh,hall⟩:=hI
 obtain ⟨tm,hq⟩:=st
 simp only at e0 e1 e7 e8 hh
 subst hh
 rw [show tm = upd (upd (upd (upd tm 0 (.sl (xs.map i64))) 1 (i64 v)) 7 (i64 ((xs.map i64).length : Nat))) 8 (i64 (j : Nat)) by rw [upd_id e0,upd_id e1,upd_id e7,upd_id e8]]
 clear e0 e1 e7 e8
 conv=>whnf
 refine bsel_intro (fun h1=>?_) (fun h1=>?_)
 ·have hjl : j < xs.length:=by simpa using h1
  rw [List.drop_eq_getElem_cons hjl] at hall
  simp only [idxI] at hall
  conv=>whnf
  refine ⟨i64 xs[j],by simp [hjl],by omega,rfl,?_⟩
  conv=>whnf
  refine bsel_intro (fun h2=>?_) (fun h2=>?_)
  ·conv=>whnf
   exact fin_int (by rw [hall,h2]; rfl)
  ·conv=>whnf
   exact ⟨m - 1,by omega,j + 1,by omega,rfl,rfl,rfl,nat_step j (by omega),rfl,by rw [hall,h2]; rfl⟩
 ·have hjl : j = xs.length := by have : ¬ j < xs.length := by simpa using h1
                                 omega
  subst hjl
  rw [List.drop_length] at hall
  conv=>whnf
  exact fin_int (by rw [hall]; rfl)
theorem contains_r (hp : Okp pr) (xs : List Int) (v : Int) (hl : xs.length ≤ 1048576) : Ret pr 289 [.sl (xs.map i64),i64 v] (.bool (xs.contains v)):=by
 refine ret_of hp rfl rfl ?_
 rw [← idxI_ge v xs 0 (Int.le_refl 0)]
 iterate 3
  all_goals (try (conv=>whnf))
  all_goals (first | (refine bsel_intro (fun hb=>?_) (fun hb=>?_)) | (refine ⟨_,index_r hp xs v hl _,?_⟩) | skip)
 all_goals exact fin_bool hb.symm
theorem iKeysOk_r (hp : Okp pr) (xs : List Int) (wide : Int) (hl : xs.length ≤ 1048576) : Ret pr 288 [.sl (xs.map i64),i64 wide] (.bool (keysOk xs wide)):=by
 refine ret_of hp rfl rfl ?_
 conv=>whnf
 refine bsel_intro (fun h0=>?_) (fun h0=>?_)
 ·have hge : ¬ xs.length < 6:=by
   have : ((xs.map i64).length : Int) ≥ 6:=by simpa using h0
   simp at this
   omega
  conv=>whnf
  exact fin_bool (by simp [keysOk,hge])
 have hlt : xs.length < 6:=by
  have : ¬ ((xs.map i64).length : Int) ≥ 6:=by simpa using h0
  simp at this
  omega
 have hko : keysOk xs wide = keysGo [] wide xs:=by simp [keysOk,hlt]
 rw [hko]
 conv=>whnf
 refine loop_rule (fun m st=>∃ j : Nat,j + m = xs.length ∧ st.tm 0 = .sl (xs.map i64) ∧ st.tm 1 = i64 wide ∧ st.tm 10 = .sl (xs.map i64) ∧ st.tm 11 = i64 ((xs.map i64).length : Nat) ∧ st.tm 12 = i64 (j : Nat) ∧ st.hp = [] ∧ keysGo [] wide xs = keysGo (xs.take j) wide (xs.drop j)) (fun m st hI=>?_) (xs.length) _ ⟨0,by simp,(by first | kernel_rfl | rfl | simp),(by first | kernel_rfl | rfl | simp),(by first | kernel_rfl | rfl | simp),(by first | kernel_rfl | rfl | simp),(by first | kernel_rfl | rfl | simp),(by first | kernel_rfl | rfl | simp),(by first | rfl | simp)⟩
 obtain ⟨j,hj,e0,e1,e10,e11,e12,hh,hall⟩:=hI
 obtain ⟨tm,hq⟩:=st
 simp only at e0 e1 e10 e11 e12 hh
 subst hh
 rw [show tm = upd (upd (upd (upd (upd tm 0 (.sl (xs.map i64))) 1 (i64 wide)) 10 (.sl (xs.map i64))) 11 (i64 ((xs.map i64).length : Nat))) 12 (i64 (j : Nat)) by rw [upd_id e0,upd_id e1,upd_id e10,upd_id e11,upd_id e12]]
 clear e0 e1 e10 e11 e12
 conv=>whnf
 refine bsel_intro (fun h1=>?_) (fun h1=>?_)
 ·have hjl : j < xs.length:=by simpa using h1
  rw [List.drop_eq_getElem_cons hjl] at hall
  simp only [keysGo] at hall
  conv=>whnf
  refine ⟨i64 xs[j],by simp [hjl],by omega,rfl,?_⟩
  conv=>whnf
  refine ⟨_,isPlace_r hp xs[j] wide _,?_⟩
  conv=>whnf
  refine bsel_intro (fun h2=>?_) (fun h2=>?_)
  ·rw [h2,Bool.true_and] at hall
   conv=>whnf
   refine ⟨⟨Int.le_refl 0,by show (0 : Int) ≤ ((j : Nat) : Int); omega,by show ((j : Nat) : Int) ≤ _; simp; omega,List.all_eq_true.2 fun y hy=>?_⟩,?_⟩
   ·obtain ⟨z,_,rfl⟩:=List.mem_map.1 hy
    rfl
   have htk : (AVal.sl (((xs.map i64).drop (0 : Int).toNat).take (((j : Nat) : Int).toNat - (0 : Int).toNat))) = .sl ((xs.take j).map i64):=by
    rw [Int.toNat_natCast]
    show AVal.sl (((xs.map i64).drop 0).take (j - 0)) = _
    rw [List.drop_zero,Nat.sub_zero,List.map_take]
   have hct : Ret pr 289 [AVal.sl (((xs.map i64).drop (0 : Int).toNat).take (((j : Nat) : Int).toNat - (0 : Int).toNat)),i64 xs[j]] (.bool ((xs.take j).contains xs[j])):=by
    rw [htk]
    exact contains_r hp (xs.take j) xs[j] (by simp; omega)
   conv=>whnf
   refine ⟨_,hct _,?_⟩
   conv=>whnf
   refine bsel_intro (fun h3=>?_) (fun h3=>?_)
   ·conv=>whnf
    exact fin_bool (by rw [hall,h3]; rfl)
   ·conv=>whnf
    refine ⟨m - 1,by omega,j + 1,by omega,rfl,rfl,rfl,rfl,nat_step j (by omega),rfl,?_⟩
    have htk2 : xs.take (j + 1) = xs.take j ++ [xs[j]]:=(List.take_append_getElem hjl).symm
    rw [hall,h3,htk2]
    rfl
  ·conv=>whnf
   exact fin_bool (by rw [hall,h2]; rfl)
 ·have hjl : j = xs.length := by have : ¬ j < xs.length := by simpa using h1
                                 omega
  subst hjl
  rw [List.drop_length] at hall
  conv=>whnf
  exact fin_bool (by rw [hall]; rfl)
def cellF (ws : List Int) : AVal:=.func (.func 265) [] [.iptr [.sl (ws.map i64)] 0 0]
theorem cellF_r (hp : Okp pr) (c : Cell) (w : Int) (ws : List Int) : Ret pr 265 [c.enc,.iptr [.sl ((w :: ws).map i64)] 0 0] (.bool (!cellOk c w)):=by
 have h:=iCellOk_r hp c w
 obtain ⟨k,a,b,n⟩:=c
 refine ret_of hp rfl rfl ?_
 conv=>whnf
 refine ⟨i64 w,rfl,by omega,rfl,?_⟩
 iterate 3
  all_goals (try (conv=>whnf))
  all_goals (first | (refine bsel_intro (fun hb=>?_) (fun hb=>?_)) | (refine ⟨_,h _,?_⟩) | skip)
 all_goals exact fin_bool (by rw [hb])
def idxC (w : Int) (k : Int) : List Cell → Int
 | []=>-1
 | c :: cs=>if !cellOk c w then k else idxC w (k + 1) cs
theorem idxC_iff (w : Int) : ∀ (xs : List Cell) (k : Int),0 ≤ k → (idxC w k xs ≥ 0 ↔ (!xs.all (fun c=>cellOk c w)) = true)
 | [],k,_=>by simp [idxC]
 | x :: xs,k,hk=>by
  have ih:=idxC_iff w xs (k + 1) (by omega)
  rw [List.all_cons]
  unfold idxC
  by_cases h : cellOk x w = true
  ·rw [if_neg (by simp [h])]; simp only [h,Bool.true_and]; exact ih
  ·rw [if_pos (by simp [h])]; simp only [Bool.eq_false_iff.2 h,Bool.false_and,Bool.not_false,iff_true]; exact hk
theorem idxC_ge (w : Int) (xs : List Cell) (k : Int) (hk : 0 ≤ k) : decide (idxC w k xs ≥ 0) = !xs.all (fun c=>cellOk c w):=by
 rw [Bool.eq_iff_iff,decide_eq_true_iff]
 exact idxC_iff w xs k hk
theorem indexFunc_r (hp : Okp pr) (xs : List Cell) (w : Int) (ws : List Int) (hl : xs.length ≤ 1048576) : Ret pr 266 [.sl (xs.map Cell.enc),cellF (w :: ws)] (i64 (idxC w 0 xs)):=by
 refine ret_of hp rfl rfl ?_
 conv=>whnf
 refine loop_rule (fun m st=>∃ j : Nat,j + m = xs.length ∧ st.tm 0 = .sl (xs.map Cell.enc) ∧ st.tm 1 = cellF (w :: ws) ∧ st.tm 7 = i64 ((xs.map Cell.enc).length : Nat) ∧ st.tm 8 = i64 (j : Nat) ∧ st.hp = [] ∧ idxC w 0 xs = idxC w (j : Nat) (xs.drop j)) (fun m st hI=>?_) (xs.length) _ ⟨0,by simp,(by first | kernel_rfl | rfl | simp),(by first | kernel_rfl | rfl | simp),(by first | kernel_rfl | rfl | simp),(by first | kernel_rfl | rfl | simp),(by first | kernel_rfl | rfl | simp),(by first | rfl | simp)⟩
 obtain ⟨j,hj,e0,e1,e7,e8,hh,hall⟩:=hI
 obtain ⟨tm,hq⟩:=st
 simp only at e0 e1 e7 e8 hh
 subst hh
 rw [show tm = upd (upd (upd (upd tm 0 (.sl (xs.map Cell.enc))) 1 (cellF (w :: ws))) 7 (i64 ((xs.map Cell.enc).length : Nat))) 8 (i64 (j : Nat)) by rw [upd_id e0,upd_id e1,upd_id e7,upd_id e8]]
 clear e0 e1 e7 e8
 conv=>whnf
 refine bsel_intro (fun h1=>?_) (fun h1=>?_)
 ·have hjl : j < xs.length:=by simpa using h1
  rw [List.drop_eq_getElem_cons hjl] at hall
  simp only [idxC] at hall
  conv=>whnf
  refine ⟨(xs[j]).enc,by simp [hjl],by omega,rfl,?_⟩
  conv=>whnf
  refine ⟨_,cellF_r hp xs[j] w ws _,?_⟩
  conv=>whnf
  refine bsel_intro (fun h2=>?_) (fun h2=>?_)
  ·conv=>whnf
   exact fin_int (by rw [hall,h2]; rfl)
  ·conv=>whnf
   exact ⟨m - 1,by omega,j + 1,by omega,rfl,rfl,rfl,nat_step j (by omega),rfl,by rw [hall,h2]; rfl⟩
 ·have hjl : j = xs.length := by have : ¬ j < xs.length := by simpa using h1
                                 omega
  subst hjl
  rw [List.drop_length] at hall
  conv=>whnf
  exact fin_int (by rw [hall]; rfl)
theorem containsFunc_r (hp : Okp pr) (xs : List Cell) (w : Int) (ws : List Int) (hl : xs.length ≤ 1048576) : Ret pr 264 [.sl (xs.map Cell.enc),cellF (w :: ws)] (.bool (!xs.all (fun c=>cellOk c w))):=by
 refine ret_of hp rfl rfl ?_
 rw [← idxC_ge w xs 0 (Int.le_refl 0)]
 iterate 3
  all_goals (try (conv=>whnf))
  all_goals (first | (refine bsel_intro (fun hb=>?_) (fun hb=>?_)) | (refine ⟨_,indexFunc_r hp xs w ws hl _,?_⟩) | skip)
 all_goals exact fin_bool hb.symm
end Go.Proofs.YtncgofhhnhebjaaGreat
/- Equality of lists and plans. -/
set_option maxHeartbeats 4000000
namespace Go.Proofs.YtncgofhhnhebjaaGreat
open Go Go.Am
def listEq {α β : Type} (f : α → β → Bool) : List α → List β → Bool
 | [],[]=>true
 | a :: us,b :: vs=>f a b && listEq f us vs
 | _,_=>false
theorem listEq_len {α β : Type} {f : α → β → Bool} : ∀ {us : List α} {vs : List β},listEq f us vs = true → us.length = vs.length
 | [],[],_=>rfl
 | a :: us,b :: vs,h=>by
  simp only [listEq,Bool.and_eq_true] at h
  simp [listEq_len h.2]
 | [],_ :: _,h=>by cases h
 | _ :: _,[],h=>by cases h
theorem listEq_ne {α β : Type} {f : α → β → Bool} {us : List α} {vs : List β} (h : us.length ≠ vs.length) : listEq f us vs = false:=by
 cases hq : listEq f us vs with
 | false=>rfl
 | true=>exact absurd (listEq_len hq) h
theorem listEq_step {α β : Type} {f : α → β → Bool} {us : List α} {vs : List β} {j : Nat} (ha : j < us.length) (hb : j < vs.length) : listEq f (us.drop j) (vs.drop j) = (f us[j] vs[j] && listEq f (us.drop (j + 1)) (vs.drop (j + 1))):=by
 rw [List.drop_eq_getElem_cons ha,List.drop_eq_getElem_cons hb]
 rfl
theorem listEq_end {α β : Type} {f : α → β → Bool} {us : List α} {vs : List β} (h : us.length = vs.length) : listEq f (us.drop us.length) (vs.drop us.length) = true:=by
 rw [List.drop_length,h,List.drop_length]
 rfl
variable {pr : Prims} (hp : Okp pr)
set_option maxRecDepth 100000
theorem eqInts_r (hp : Okp pr) (xs ys : List Int) (hl : xs.length ≤ 1048576) : Ret pr 61 [.sl (xs.map i64),.sl (ys.map i64)] (.bool (listEq (· == ·) xs ys)):=by
 refine ret_of hp rfl rfl ?_
 conv=>whnf
 refine bsel_intro (fun h0=>?_) (fun h0=>?_)
 ·conv=>whnf
  exact fin_bool (listEq_ne (by simp at h0; omega)).symm
 have hlen : xs.length = ys.length:=by simp at h0; omega
 conv=>whnf
 refine loop_rule (fun m st=>∃ j : Nat,j + m = xs.length ∧ st.tm 0 = .sl (xs.map i64) ∧ st.tm 1 = .sl (ys.map i64) ∧ st.tm 12 = i64 ((xs.map i64).length : Nat) ∧ st.tm 13 = i64 (j : Nat) ∧ st.hp = [] ∧ listEq (· == ·) xs ys = listEq (· == ·) (xs.drop j) (ys.drop j)) (fun m st hI=>?_) (xs.length) _ ⟨0,by simp,(by first | kernel_rfl | rfl | simp),(by first | kernel_rfl | rfl | simp),(by first | kernel_rfl | rfl | simp),(by first | kernel_rfl | rfl | simp),(by first | kernel_rfl | rfl | simp),(by first | rfl | simp)⟩
 obtain ⟨j,hj,e0,e1,e12,e13,hh,hall⟩:=hI
 obtain ⟨tm,hq⟩:=st
 simp only at e0 e1 e12 e13 hh
 subst hh
 rw [show tm = upd (upd (upd (upd tm 0 (.sl (xs.map i64))) 1 (.sl (ys.map i64))) 12 (i64 ((xs.map i64).length : Nat))) 13 (i64 (j : Nat)) by rw [upd_id e0,upd_id e1,upd_id e12,upd_id e13]]
 clear e0 e1 e12 e13
 conv=>whnf
 refine bsel_intro (fun h1=>?_) (fun h1=>?_)
 ·have hjl : j < xs.length:=by simpa using h1
  rw [listEq_step hjl (by omega)] at hall
  conv=>whnf
  refine ⟨i64 xs[j],by simp [hjl],by omega,rfl,?_⟩
  conv=>whnf
  refine ⟨i64 ys[j],by simp [show j < ys.length by omega],by omega,rfl,?_⟩
  conv=>whnf
  refine bsel_intro (fun h2=>?_) (fun h2=>?_)
  ·have h3 : (xs[j] == ys[j]) = false:=by simpa using h2
   conv=>whnf
   exact fin_bool (by rw [hall,h3]; rfl)
  ·have h3 : (xs[j] == ys[j]) = true:=by simpa using h2
   conv=>whnf
   exact ⟨m - 1,by omega,j + 1,by omega,rfl,rfl,rfl,nat_step j (by omega),rfl,by rw [hall,h3]; rfl⟩
 ·have hjl : j = xs.length := by have : ¬ j < xs.length := by simpa using h1
                                 omega
  subst hjl
  rw [listEq_end hlen] at hall
  conv=>whnf
  exact fin_bool hall.symm
def cellEq (c d : Cell) : Bool:=c.kind == d.kind && (c.a == d.a && (c.b == d.b && (c.n == d.n && true)))
theorem eqCells_r (hp : Okp pr) (xs ys : List Cell) (hl : xs.length ≤ 1048576) : Ret pr 142 [.sl (xs.map Cell.enc),.sl (ys.map Cell.enc)] (.bool (listEq cellEq xs ys)):=by
 refine ret_of hp rfl rfl ?_
 conv=>whnf
 refine bsel_intro (fun h0=>?_) (fun h0=>?_)
 ·conv=>whnf
  exact fin_bool (listEq_ne (by simp at h0; omega)).symm
 have hlen : xs.length = ys.length:=by simp at h0; omega
 conv=>whnf
 refine loop_rule (fun m st=>∃ j : Nat,j + m = xs.length ∧ st.tm 0 = .sl (xs.map Cell.enc) ∧ st.tm 1 = .sl (ys.map Cell.enc) ∧ st.tm 12 = i64 ((xs.map Cell.enc).length : Nat) ∧ st.tm 13 = i64 (j : Nat) ∧ st.hp = [] ∧ listEq cellEq xs ys = listEq cellEq (xs.drop j) (ys.drop j)) (fun m st hI=>?_) (xs.length) _ ⟨0,by simp,(by first | kernel_rfl | rfl | simp),(by first | kernel_rfl | rfl | simp),(by first | kernel_rfl | rfl | simp),(by first | kernel_rfl | rfl | simp),(by first | kernel_rfl | rfl | simp),(by first | rfl | simp)⟩
 obtain ⟨j,hj,e0,e1,e12,e13,hh,hall⟩:=hI
 obtain ⟨tm,hq⟩:=st
 simp only at e0 e1 e12 e13 hh
 subst hh
 rw [show tm = upd (upd (upd (upd tm 0 (.sl (xs.map Cell.enc))) 1 (.sl (ys.map Cell.enc))) 12 (i64 ((xs.map Cell.enc).length : Nat))) 13 (i64 (j : Nat)) by rw [upd_id e0,upd_id e1,upd_id e12,upd_id e13]]
 clear e0 e1 e12 e13
 conv=>whnf
 refine bsel_intro (fun h1=>?_) (fun h1=>?_)
 ·have hjl : j < xs.length:=by simpa using h1
  rw [listEq_step hjl (by omega)] at hall
  conv=>whnf
  refine ⟨(xs[j]).enc,by simp [hjl],by omega,rfl,?_⟩
  conv=>whnf
  refine ⟨(ys[j]).enc,by simp [show j < ys.length by omega],by omega,rfl,?_⟩
  conv=>whnf
  refine ⟨_,cellEq xs[j] ys[j],eqS_cell,rfl,?_⟩
  refine bsel_intro (fun h2=>?_) (fun h2=>?_)
  ·conv=>whnf
   exact ⟨m - 1,by omega,j + 1,by omega,rfl,rfl,rfl,nat_step j (by omega),rfl,by rw [hall,h2]; rfl⟩
  ·conv=>whnf
   exact fin_bool (by rw [hall,h2]; rfl)
 ·have hjl : j = xs.length := by have : ¬ j < xs.length := by simpa using h1
                                 omega
  subst hjl
  rw [listEq_end hlen] at hall
  conv=>whnf
  exact fin_bool hall.symm
def testEq (s t : Test) : Bool:=s.kind == t.kind && (s.no == t.no && (s.l.kind == t.l.kind && (s.l.a == t.l.a && (s.l.b == t.l.b && (s.l.n == t.l.n && (s.r.kind == t.r.kind && (s.r.a == t.r.a && (s.r.b == t.r.b && (s.r.n == t.r.n && true)))))))))
mutual
def planEq : Plan → Plan → Bool
 | .mk kind n test cells a b keys agg c kids,q=>(kind == q.kind && (n == q.n && (testEq test q.test && (a == q.a && (b == q.b && (agg == q.agg && c == q.col)))))) && (listEq cellEq cells q.cells && (listEq (· == ·) keys q.keys && planEqs kids q.kids))
def planEqs : List Plan → List Plan → Bool
 | [],[]=>true
 | p :: ps,q :: qs=>planEq p q && planEqs ps qs
 | _,_=>false
end
theorem planEqs_eq : ∀ (ps qs : List Plan),planEqs ps qs = listEq planEq ps qs
 | [],[]=>rfl
 | p :: ps,q :: qs=>by simp only [planEqs,listEq,planEqs_eq ps qs]
 | [],_ :: _=>rfl
 | _ :: _,[]=>rfl
def sameF : AVal:=.func (.func 102) [] []
theorem equalFunc_r (hp : Okp pr) (xs ys : List Plan) (hl : xs.length ≤ 1048576) (ih : ∀ p ∈ xs,∀ q,Ret pr 102 [p.enc,q.enc] (.bool (planEq p q))) :
  Ret pr 143 [.sl (Plan.encs xs),.sl (Plan.encs ys),sameF] (.bool (planEqs xs ys)):=by
   rw [planEqs_eq]
   have hx:=encs_len xs
   have hy:=encs_len ys
   refine ret_of hp rfl rfl ?_
   conv=>whnf
   refine bsel_intro (fun h0=>?_) (fun h0=>?_)
   ·conv=>whnf
    exact fin_bool (listEq_ne (by simp at h0; omega)).symm
   have hlen : xs.length = ys.length:=by simp at h0; omega
   conv=>whnf
   refine loop_ruley true (fun m st=>∃ j : Nat,j + m = xs.length ∧ st.tm 0 = .sl (Plan.encs xs) ∧ st.tm 1 = .sl (Plan.encs ys) ∧ st.tm 2 = sameF ∧ st.tm 15 = .sl (Plan.encs xs) ∧ st.tm 16 = i64 ((Plan.encs xs).length : Nat) ∧ st.tm 17 = i64 (j : Nat) ∧ listEq planEq xs ys = listEq planEq (xs.drop j) (ys.drop j)) (fun m st hI=>?_) xs.length _ ⟨0,by simp,rfl,rfl,rfl,rfl,rfl,rfl,rfl⟩
   obtain ⟨j,hj,e0,e1,e2,e15,e16,e17,hall⟩:=hI
   obtain ⟨tm,hq⟩:=st
   simp only at e0 e1 e2 e15 e16 e17
   rw [show tm = upd (upd (upd (upd (upd (upd tm 0 (.sl (Plan.encs xs))) 1 (.sl (Plan.encs ys))) 2 sameF) 15 (.sl (Plan.encs xs))) 16 (i64 ((Plan.encs xs).length : Nat))) 17 (i64 (j : Nat)) by rw [upd_id e0,upd_id e1,upd_id e2,upd_id e15,upd_id e16,upd_id e17]]
   clear e0 e1 e2 e15 e16 e17
   conv=>whnf
   refine bsel_intro (fun h1=>?_) (fun h1=>?_)
   ·have hjl : j < xs.length := by have : j < (Plan.encs xs).length := by simpa using h1
                                   omega
    have hjm : j < ys.length:=by omega
    rw [listEq_step hjl hjm] at hall
    have hih:=ih xs[j] (List.getElem_mem hjl) ys[j]
    have g1 : (Plan.encs xs)[((j : Nat) : Int).toNat]? = some xs[j].enc:=by rw [Int.toNat_natCast,encs_get,List.getElem?_eq_getElem hjl]; rfl
    have g2 : (Plan.encs ys)[((j : Nat) : Int).toNat]? = some ys[j].enc:=by rw [Int.toNat_natCast,encs_get,List.getElem?_eq_getElem hjm]; rfl
    generalize xs[j] = p at hih hall g1
    generalize ys[j] = q at hih hall g2
    obtain ⟨kind,n,test,cells,a,b,keys,agg,c,kids⟩:=p
    obtain ⟨kind',n',test',cells',a',b',keys',agg',c',kids'⟩:=q
    conv=>whnf
    refine ⟨_,g1,by omega,rfl,?_⟩
    conv=>whnf
    intro k1 q1 hk1 hq1
    conv=>whnf
    refine ⟨_,rfl,rfl,rfl,.inl ⟨_,get_new hk1 hq1,rfl,?_⟩⟩
    conv=>whnf
    intro q2 hq2
    conv=>whnf
    refine ⟨_,g2,by omega,rfl,?_⟩
    conv=>whnf
    intro k3 q3 hk3 hq3
    conv=>whnf
    refine ⟨_,rfl,rfl,rfl,.inl ⟨_,get_new hk3 hq3,rfl,?_⟩⟩
    conv=>whnf
    intro q4 hq4
    have n13 : k3 ≠ k1:=by
     have a1:=get_lt (get_same hq2 (get_new hk1 hq1))
     omega
    conv=>whnf
    refine .inl ⟨_,get_ne hq4 (get_old hq3 (get_same hq2 (get_new hk1 hq1))) n13,rfl,?_⟩
    conv=>whnf
    refine .inl ⟨_,get_same hq4 (get_new hk3 hq3),rfl,?_⟩
    conv=>whnf
    refine ⟨_,hih _,?_⟩
    conv=>whnf
    refine bsel_intro (fun h2=>?_) (fun h2=>?_)
    ·conv=>whnf
     exact ⟨m - 1,by omega,j + 1,by omega,rfl,rfl,rfl,rfl,rfl,nat_step j (by omega),by rw [hall,h2]; rfl⟩
    ·conv=>whnf
     exact fin_bool (by rw [hall,h2]; rfl)
   ·have hjl : j = xs.length := by have : ¬ j < (Plan.encs xs).length := by simpa using h1
                                   omega
    subst hjl
    rw [listEq_end hlen] at hall
    conv=>whnf
    exact fin_bool hall.symm
theorem planSame_r' (hp : Okp pr) : ∀ (N : Nat) (p : Plan),SizeOf.sizeOf p ≤ N → p.small → ∀ q,Ret pr 102 [p.enc,q.enc] (.bool (planEq p q)):=by
 intro N
 induction N with
 | zero=>intro p h; exfalso; cases p; simp at h
 | succ N ih=>
  intro p hs hsm q
  obtain ⟨kind,n,test,cells,a,b,keys,agg,c,kids⟩:=p
  obtain ⟨kind',n',test',cells',a',b',keys',agg',c',kids'⟩:=q
  obtain ⟨hsc,hsk,hskids,hsks⟩:=small_split hsm
  have hc:=eqCells_r hp cells cells' hsc
  have hk:=eqInts_r hp keys keys' hsk
  have hf:=equalFunc_r hp kids kids' hskids fun p hpm q=>ih p (by have:=List.sizeOf_lt_of_mem hpm; simp at hs; omega) (hsks p hpm) q
  refine ret_of hp rfl rfl ?_
  iterate 22
   all_goals (try (conv=>whnf))
   all_goals (first | (refine bsel_intro (fun hb=>?_) (fun hb=>?_)) | (refine ⟨_,testEq test test',eqS_test,rfl,?_⟩) | (refine ⟨_,hc _,?_⟩) | (refine ⟨_,hk _,?_⟩) | (refine ⟨_,hf _,?_⟩) | skip)
  all_goals exact fin_bool (by clear hc hk hf ih hs hsm hsks hsc hsk hskids; simp_all [planEq,Plan.kind,Plan.n,Plan.test,Plan.cells,Plan.a,Plan.b,Plan.keys,Plan.agg,Plan.col,Plan.kids])
theorem planSame_r (hp : Okp pr) (p q : Plan) (hsm : p.small) : Ret pr 102 [p.enc,q.enc] (.bool (planEq p q)):=planSame_r' hp _ p (Nat.le_refl _) hsm q
end Go.Proofs.YtncgofhhnhebjaaGreat
/- The reference's PlanSame. -/
set_option maxHeartbeats 4000000
namespace Go.Proofs.YtncgofhhnhebjaaGreat
open Go Go.Am
variable {pr : Prims} (hp : Okp pr)
set_option maxRecDepth 100000
def ordL : List Int → List Int → Int
 | x :: xs,y :: ys=>if x < y then -1 else if y < x then 1 else ordL xs ys
 | xs,ys=>(xs.length : Int) - (ys.length : Int)
theorem ordL_zero : ∀ (xs ys : List Int),(ordL xs ys == 0) = listEq (· == ·) xs ys
 | [],[]=>rfl
 | [],y :: ys=>by
  have h : (ordL [] (y :: ys) == 0) = false:=by simp [ordL]; omega
  rw [h]; rfl
 | x :: xs,[]=>by
  have h : (ordL (x :: xs) [] == 0) = false:=by simp [ordL]; omega
  rw [h]; rfl
 | x :: xs,y :: ys=>by
  simp only [ordL,listEq]
  rw [← ordL_zero xs ys]
  rcases Int.lt_trichotomy x y with h | h | h
  ·rw [if_pos h]; simp; omega
  ·subst h; simp
  ·rw [if_neg (by omega),if_pos h]; simp; omega
theorem ordL_end {xs ys : List Int} (h : xs = [] ∨ ys = []) : ordL xs ys = (xs.length : Int) - (ys.length : Int):=by
 rcases h with rfl | rfl
 ·cases ys <;> rfl
 ·cases xs <;> rfl
theorem l1Order_r (hp : Okp pr) (xs ys : List Int) (hx : xs.length ≤ 9223372036854775807) (hy : ys.length ≤ 9223372036854775807) (hl : xs.length ≤ 1000000000) : Ret pr 104 [.sl (xs.map i64),.sl (ys.map i64)] (i64 (ordL xs ys)):=by
 refine ret_of hp rfl rfl ?_
 conv=>whnf
 refine loop_rule (fun m st=>∃ j : Nat,j + m = xs.length ∧ j ≤ ys.length ∧ st.tm 0 = .sl (xs.map i64) ∧ st.tm 1 = .sl (ys.map i64) ∧ st.tm 5 = i64 (j : Nat) ∧ st.hp = [] ∧ ordL xs ys = ordL (xs.drop j) (ys.drop j)) (fun m st hI=>?_) xs.length _ ⟨0,by simp,by simp,rfl,rfl,rfl,rfl,rfl⟩
 obtain ⟨j,hj,hjy,e0,e1,e5,hh,hall⟩:=hI
 obtain ⟨tm,hq⟩:=st
 simp only at e0 e1 e5 hh
 subst hh
 rw [show tm = upd (upd (upd tm 0 (.sl (xs.map i64))) 1 (.sl (ys.map i64))) 5 (i64 (j : Nat)) by rw [upd_id e0,upd_id e1,upd_id e5]]
 clear e0 e1 e5
 have hfin : xs.drop j = [] ∨ ys.drop j = [] → IntKind.i64.wrap (((xs.map i64).length : Int) - ((ys.map i64).length : Int)) = ordL xs ys:=fun h=>by
  rw [hall,ordL_end h,IntKind.wrap_i64]
  simp
  omega
 conv=>whnf
 refine bsel_intro (fun h1=>?_) (fun h1=>?_)
 ·have hjl : j < xs.length:=by simpa using h1
  conv=>whnf
  refine bsel_intro (fun h2=>?_) (fun h2=>?_)
  ·have hjm : j < ys.length:=by simpa using h2
   have g1 : (xs.map i64)[((j : Nat) : Int).toNat]? = some (i64 xs[j]):=by rw [Int.toNat_natCast]; simp [hjl]
   have g2 : (ys.map i64)[((j : Nat) : Int).toNat]? = some (i64 ys[j]):=by rw [Int.toNat_natCast]; simp [hjm]
   rw [List.drop_eq_getElem_cons hjl,List.drop_eq_getElem_cons hjm] at hall
   generalize xs[j] = x at g1 hall
   generalize ys[j] = y at g2 hall
   conv=>whnf
   refine ⟨_,g1,by omega,rfl,?_⟩
   conv=>whnf
   refine ⟨_,g2,by omega,rfl,?_⟩
   conv=>whnf
   refine bsel_intro (fun h3=>?_) (fun h3=>?_)
   ·have h3' : x < y:=by simpa using h3
    conv=>whnf
    exact fin_int (by rw [hall]; simp [ordL,h3'])
   ·have h3' : ¬ x < y:=by simpa using h3
    conv=>whnf
    refine ⟨_,g1,by omega,rfl,?_⟩
    conv=>whnf
    refine ⟨_,g2,by omega,rfl,?_⟩
    conv=>whnf
    refine bsel_intro (fun h4=>?_) (fun h4=>?_)
    ·have h4' : y < x:=by simpa using h4
     conv=>whnf
     exact fin_int (by rw [hall]; simp [ordL,h3',h4'])
    ·have h4' : ¬ y < x:=by simpa using h4
     conv=>whnf
     exact ⟨m - 1,by omega,j + 1,by omega,by omega,rfl,rfl,nat_step j (by omega),rfl,by rw [hall]; simp [ordL,h3',h4']⟩
  ·have hjm : ys.length ≤ j:=by simpa using h2
   conv=>whnf
   exact fin_int (hfin (.inr (List.drop_eq_nil_of_le hjm)))
 ·have hjl : xs.length ≤ j:=by simpa using h1
  conv=>whnf
  exact fin_int (hfin (.inl (List.drop_eq_nil_of_le hjl)))
theorem l4Ints_r (hp : Okp pr) (xs ys : List Int) (hx : xs.length ≤ 1000000000) (hy : ys.length ≤ 1000000000) : Ret pr 64 [.sl (xs.map i64),.sl (ys.map i64)] (.bool (listEq (· == ·) xs ys)):=by
 have h1:=l1Order_r hp xs ys (by omega) (by omega) hx
 refine ret_of hp rfl rfl ?_
 conv=>whnf
 refine ⟨_,h1 _,?_⟩
 conv=>whnf
 refine bsel_intro (fun h2=>?_) (fun h2=>?_)
 ·conv=>whnf
  exact fin_bool (by rw [← ordL_zero]; exact h2.symm)
 ·conv=>whnf
  exact fin_bool (by rw [← ordL_zero]; exact h2.symm)
end Go.Proofs.YtncgofhhnhebjaaGreat

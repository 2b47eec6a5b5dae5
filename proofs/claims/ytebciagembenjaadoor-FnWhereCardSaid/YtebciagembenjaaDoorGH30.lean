/- Copies of items. -/
import Derived.Test.YtebciagembenjaaDoorGH29
import Derived.Test.YtebciagembenjaaDoorGH24
set_option linter.unusedVariables false
set_option linter.unusedSimpArgs false
/- Two lists of items together: the program's. -/
set_option maxHeartbeats 4000000
namespace Go.Am
open Go
theorem appAccs {α : Type} {f : α → AVal} {sz : Nat} {h : Heap} {B : List Chunk} {xs ys : List α} {v : AVal} {K : AVal → Heap → Prop} (S : Sepa h (.acc f sz xs v :: B)) (hl : xs.length + ys.length ≤ sizeLim)
  (hK : ∀ v' h',(v' = .nil ∨ ∃ k,v' = .own k 0 (xs ++ ys).length) → Sepa h' (.acc f sz (xs ++ ys) v' :: B) → K v' h') : AppR h sz v (ys.map f) K:=by
   have h0 : AccP f sz h xs v:=S.get 0 rfl
   by_cases hy : ys = []
   ·subst hy
    rcases h0 with ⟨rfl,rfl⟩ | ⟨id,rfl,h1⟩
    ·exact .inl ⟨rfl,hK .nil h (.inl rfl) (by simpa using S)⟩
    ·refine ⟨_,h1,rfl,by simp,.inl ⟨rfl,fun h' e=>?_⟩⟩
     rw [show (xs.map f).take xs.length = xs.map f by rw [List.take_of_length_le (by simp)],set_same h1] at e
     subst e
     exact hK (.own id 0 xs.length) _ (.inr ⟨id,by simp⟩) (by simpa using S)
   ·have hyn : ys.map f ≠ []:=by simpa using hy
    rcases h0 with ⟨rfl,rfl⟩ | ⟨id,rfl,h1⟩
    ·refine .inr ⟨hyn,by simp at hl ⊢; exact hl,fun k h' e1 e2=>?_⟩
     have S1:=(S.drop 0).alloc e1 e2
     dsimp only [List.eraseIdx] at S1
     have S2:=S1.turn 0 (c:=.row k (.arr sz (ys.map f))) (c':=.acc f sz ys (.own k 0 ys.length)) (h':=h') rfl (fun _ _ _=>rfl) (.inr ⟨k,rfl,S1.row 0 rfl⟩) (by simp [Chunk.acc,accF]) (fun id hid=>.inl hid)
     have:=hK (.own k 0 ys.length) h' (.inr ⟨k,by simp⟩) S2
     rw [List.length_map]
     exact this
    ·refine ⟨_,h1,rfl,by simp,.inr ⟨hyn,by simpa using hl,fun k h' e1 e2=>?_⟩⟩
     rw [show (xs.map f).take xs.length = xs.map f by rw [List.take_of_length_le (by simp)]] at e2 ⊢
     rw [← List.map_append] at e2 ⊢
     have S1:=S.turn 0 (c':=.row id .dead) (h':=h.set id .dead) rfl (fun j hj hne=>List.getElem?_set_ne (fun e=>hne (by simp [Chunk.acc,accF,e]))) (get_same rfl h1) (by simp [Chunk.row]) (fun j hj=>.inl hj)
     dsimp only [List.set] at S1
     have S2:=(S1.drop 0).alloc (by simpa using e1) e2
     dsimp only [List.eraseIdx] at S2
     have S3:=S2.turn 0 (c:=.row k (.arr sz ((xs ++ ys).map f))) (c':=.acc f sz (xs ++ ys) (.own k 0 (xs ++ ys).length)) (h':=h') rfl (fun _ _ _=>rfl) (.inr ⟨k,rfl,S2.row 0 rfl⟩) (by simp [Chunk.acc,accF]) (fun id hid=>.inl hid)
     rw [List.length_map]
     exact hK _ h' (.inr ⟨k,rfl⟩) S3
end Go.Am
namespace Go.Proofs.YtebciagembenjaaDoor
open Go Go.Am
variable {pr : Prims} (hp : Okp pr)
set_option maxRecDepth 100000
theorem cmpItem_r (hp : Okp pr) (x y : Item) (hx : x.row.length ≤ big) (hy : y.row.length ≤ big) : Ret pr 47 [x.enc,y.enc] (i64 (cmpL x.row y.row)):=by
 have h:=compare_r hp x.row y.row hx hy
 obtain ⟨r,w⟩:=x
 obtain ⟨r2,w2⟩:=y
 refine retg hp rfl rfl ?_
 have S : Sepa [] []:=Sepa.nil []
 iterate 9
  all_goals (try (conv=>whnf))
  all_goals (first | (intro ka_ ha_ hk_ hh_; replace S:=S.alloc hk_ hh_) | (refine .inl ⟨_,S.row 0 rfl,rfl,?_⟩) | (refine .inl ⟨_,S.row 1 rfl,rfl,?_⟩) | (refine .inl ⟨_,S.row 2 rfl,rfl,?_⟩) | (refine .inl ⟨_,S.row 3 rfl,rfl,?_⟩) | (refine .inl ⟨_,S.row 4 rfl,rfl,?_⟩) | (refine ⟨_,rfl,rfl,rfl,.inl ⟨_,S.row 0 rfl,rfl,?_⟩⟩; (conv=>whnf); intro ha_ hh_; replace S:=S.set 0 rfl hh_; dsimp only [List.set] at S) | (refine ⟨_,rfl,rfl,rfl,.inl ⟨_,S.row 1 rfl,rfl,?_⟩⟩; (conv=>whnf); intro ha_ hh_; replace S:=S.set 1 rfl hh_; dsimp only [List.set] at S) | (refine ⟨_,rfl,rfl,rfl,.inl ⟨_,S.row 2 rfl,rfl,?_⟩⟩; (conv=>whnf); intro ha_ hh_; replace S:=S.set 2 rfl hh_; dsimp only [List.set] at S) | (refine ⟨_,rfl,rfl,rfl,.inl ⟨_,S.row 3 rfl,rfl,?_⟩⟩; (conv=>whnf); intro ha_ hh_; replace S:=S.set 3 rfl hh_; dsimp only [List.set] at S) | (refine ⟨_,rfl,rfl,rfl,.inl ⟨_,S.row 4 rfl,rfl,?_⟩⟩; (conv=>whnf); intro ha_ hh_; replace S:=S.set 4 rfl hh_; dsimp only [List.set] at S) | (refine bsel_intro (fun hb=>?_) (fun hb=>?_)) | (refine ⟨_,h _,?_⟩) | skip)
 exact g_int rfl
def addW (a b : Int) : Int:=IntKind.i64.wrap (a + b)
def mixI (x y : Item) : Item:=⟨x.row,addW x.w y.w⟩
theorem mix_r (hp : Okp pr) (x y : Item) : Ret pr 48 [x.enc,y.enc] (.tup [(mixI x y).enc,.bool (addW x.w y.w != 0)]):=by
 obtain ⟨r,w⟩:=x
 obtain ⟨r2,w2⟩:=y
 refine retg hp rfl rfl ?_
 have S : Sepa [] []:=Sepa.nil []
 iterate 12
  all_goals (try (conv=>whnf))
  all_goals (first | (intro ka_ ha_ hk_ hh_; replace S:=S.alloc hk_ hh_) | (refine .inl ⟨_,S.row 0 rfl,rfl,?_⟩) | (refine .inl ⟨_,S.row 1 rfl,rfl,?_⟩) | (refine .inl ⟨_,S.row 2 rfl,rfl,?_⟩) | (refine .inl ⟨_,S.row 3 rfl,rfl,?_⟩) | (refine .inl ⟨_,S.row 4 rfl,rfl,?_⟩) | (refine ⟨_,rfl,rfl,rfl,.inl ⟨_,S.row 0 rfl,rfl,?_⟩⟩; (conv=>whnf); intro ha_ hh_; replace S:=S.set 0 rfl hh_; dsimp only [List.set] at S) | (refine ⟨_,rfl,rfl,rfl,.inl ⟨_,S.row 1 rfl,rfl,?_⟩⟩; (conv=>whnf); intro ha_ hh_; replace S:=S.set 1 rfl hh_; dsimp only [List.set] at S) | (refine ⟨_,rfl,rfl,rfl,.inl ⟨_,S.row 2 rfl,rfl,?_⟩⟩; (conv=>whnf); intro ha_ hh_; replace S:=S.set 2 rfl hh_; dsimp only [List.set] at S) | (refine ⟨_,rfl,rfl,rfl,.inl ⟨_,S.row 3 rfl,rfl,?_⟩⟩; (conv=>whnf); intro ha_ hh_; replace S:=S.set 3 rfl hh_; dsimp only [List.set] at S) | (refine ⟨_,rfl,rfl,rfl,.inl ⟨_,S.row 4 rfl,rfl,?_⟩⟩; (conv=>whnf); intro ha_ hh_; replace S:=S.set 4 rfl hh_; dsimp only [List.set] at S) | (refine bsel_intro (fun hb=>?_) (fun hb=>?_)) | skip)
 iterate 2
  ·refine ⟨?_,?_⟩
   ·repeat ((try (conv=>whnf)); first | trivial | (refine ⟨reload_box rfl (S.row 0 rfl) rfl rfl,?_⟩) | (refine ⟨reload_box rfl (S.row 1 rfl) rfl rfl,?_⟩) | (refine ⟨reload_box rfl (S.row 2 rfl) rfl rfl,?_⟩) | (refine ⟨reload_box rfl (S.row 3 rfl) rfl rfl,?_⟩) | (refine ⟨reload_box rfl (S.row 4 rfl) rfl rfl,?_⟩) | (refine ⟨reload_box rfl (S.row 5 rfl) rfl rfl,?_⟩) | (refine ⟨reload_box rfl (S.row 6 rfl) rfl rfl,?_⟩) | (refine ⟨reload_box rfl (S.row 7 rfl) rfl rfl,?_⟩) | (refine ⟨reload_box rfl (S.row 8 rfl) rfl rfl,?_⟩))
   iterate 3
    all_goals (try (conv=>whnf))
    all_goals (first | (intro ka_ ha_ hk_ hh_; replace S:=S.alloc hk_ hh_) | (refine .inl ⟨_,S.row 0 rfl,rfl,?_⟩) | (refine .inl ⟨_,S.row 1 rfl,rfl,?_⟩) | (refine .inl ⟨_,S.row 2 rfl,rfl,?_⟩) | (refine .inl ⟨_,S.row 3 rfl,rfl,?_⟩) | (refine .inl ⟨_,S.row 4 rfl,rfl,?_⟩) | (refine ⟨_,rfl,rfl,rfl,.inl ⟨_,S.row 0 rfl,rfl,?_⟩⟩; (conv=>whnf); intro ha_ hh_; replace S:=S.set 0 rfl hh_; dsimp only [List.set] at S) | (refine ⟨_,rfl,rfl,rfl,.inl ⟨_,S.row 1 rfl,rfl,?_⟩⟩; (conv=>whnf); intro ha_ hh_; replace S:=S.set 1 rfl hh_; dsimp only [List.set] at S) | (refine ⟨_,rfl,rfl,rfl,.inl ⟨_,S.row 2 rfl,rfl,?_⟩⟩; (conv=>whnf); intro ha_ hh_; replace S:=S.set 2 rfl hh_; dsimp only [List.set] at S) | (refine ⟨_,rfl,rfl,rfl,.inl ⟨_,S.row 3 rfl,rfl,?_⟩⟩; (conv=>whnf); intro ha_ hh_; replace S:=S.set 3 rfl hh_; dsimp only [List.set] at S) | (refine ⟨_,rfl,rfl,rfl,.inl ⟨_,S.row 4 rfl,rfl,?_⟩⟩; (conv=>whnf); intro ha_ hh_; replace S:=S.set 4 rfl hh_; dsimp only [List.set] at S) | (refine bsel_intro (fun hb=>?_) (fun hb=>?_)) | skip)
   refine ⟨_,fin_cell_tmp rfl rfl (S.row 0 rfl) rfl rfl,_,_,rfl,?_⟩
   have hb' : (addW w w2 != 0) = _:=hb
   rw [hb']
   rfl
def mergeZ : List Item → List Item → List Item
 | [],b=>b
 | a,[]=>a
 | x :: xs,y :: ys=>
  if cmpL x.row y.row < 0 then x :: mergeZ xs (y :: ys)
  else if cmpL x.row y.row > 0 then y :: mergeZ (x :: xs) ys
  else bif addW x.w y.w != 0 then mixI x y :: mergeZ xs ys else mergeZ xs ys
termination_by a b=>a.length + b.length
theorem mergeZ_nil (b : List Item) : mergeZ [] b = b:=by simp [mergeZ]
theorem mergeZ_nil2 (a : List Item) : mergeZ a [] = a:=by cases a <;> simp [mergeZ]
theorem mergeZ_len : ∀ (n : Nat) (a b : List Item),a.length + b.length ≤ n → (mergeZ a b).length ≤ a.length + b.length:=by
 intro n
 induction n with
 | zero=>intro a b h; have ha : a = []:=List.length_eq_zero_iff.1 (by omega); have hb : b = []:=List.length_eq_zero_iff.1 (by omega); subst ha; subst hb; simp [mergeZ]
 | succ n ih=>
  intro a b h
  cases a with
  | nil=>simp [mergeZ]
  | cons x xs=>
   cases b with
   | nil=>simp [mergeZ]
   | cons y ys=>
    simp only [List.length_cons] at h
    rw [mergeZ]
    have h1:=ih xs (y :: ys) (by simp; omega)
    have h2:=ih (x :: xs) ys (by simp; omega)
    have h3:=ih xs ys (by omega)
    simp only [List.length_cons] at h1 h2 ⊢
    split
    ·simp only [List.length_cons]; omega
    ·split
     ·simp only [List.length_cons]; omega
     ·cases (addW x.w y.w != 0)
      ·simp only [cond_false]; omega
      ·simp only [cond_true,List.length_cons]; omega
theorem mergeZ_mem : ∀ (n : Nat) (a b : List Item),a.length + b.length ≤ n → ∀ z ∈ mergeZ a b,∃ y,(y ∈ a ∨ y ∈ b) ∧ z.row = y.row:=by
 intro n
 induction n with
 | zero=>intro a b h; have ha : a = []:=List.length_eq_zero_iff.1 (by omega); have hb : b = []:=List.length_eq_zero_iff.1 (by omega); subst ha; subst hb; simp [mergeZ]
 | succ n ih=>
  intro a b h z hz
  cases a with
  | nil=>rw [mergeZ_nil] at hz; exact ⟨z,.inr hz,rfl⟩
  | cons x xs=>
   cases b with
   | nil=>rw [mergeZ_nil2] at hz; exact ⟨z,.inl hz,rfl⟩
   | cons y ys=>
    simp only [List.length_cons] at h
    rw [mergeZ] at hz
    have h1:=ih xs (y :: ys) (by simp; omega) z
    have h2:=ih (x :: xs) ys (by simp; omega) z
    have h3:=ih xs ys (by omega) z
    have up : ∀ {p q : List Item},(∃ w,(w ∈ p ∨ w ∈ q) ∧ z.row = w.row) → (∀ w ∈ p,w ∈ x :: xs) → (∀ w ∈ q,w ∈ y :: ys) → ∃ w,(w ∈ x :: xs ∨ w ∈ y :: ys) ∧ z.row = w.row:=fun ⟨w,h,e⟩ hp hq=>⟨w,h.imp (hp w) (hq w),e⟩
    split at hz
    ·rcases List.mem_cons.1 hz with rfl | hz
     ·exact ⟨z,.inl (by simp),rfl⟩
     ·exact up (h1 hz) (fun w hw=>by simp [hw]) (fun w hw=>hw)
    ·split at hz
     ·rcases List.mem_cons.1 hz with rfl | hz
      ·exact ⟨z,.inr (by simp),rfl⟩
      ·exact up (h2 hz) (fun w hw=>hw) (fun w hw=>by simp [hw])
     ·cases hc : (addW x.w y.w != 0)
      ·rw [hc] at hz
       exact up (h3 hz) (fun w hw=>by simp [hw]) (fun w hw=>by simp [hw])
      ·rw [hc] at hz
       rcases List.mem_cons.1 hz with rfl | hz
       ·exact ⟨x,.inl (by simp),rfl⟩
       ·exact up (h3 hz) (fun w hw=>by simp [hw]) (fun w hw=>by simp [hw])
theorem itemsOk (z : List Item) : (z.map Item.enc).all (elemOk 2) = true:=by
 rw [List.all_eq_true]; intro y hy; obtain ⟨q,_,rfl⟩:=List.mem_map.1 hy; rfl
theorem itemsOk2 (z : List Item) : (z.map Item.enc).all (fun y=>y.cells.length == 2) = true:=by
 rw [List.all_eq_true]; intro y hy; obtain ⟨q,_,rfl⟩:=List.mem_map.1 hy; rfl
def cmpF : AVal:=.func (.func 47) [] []
def mixF : AVal:=.func (.func 48) [] []
theorem item_snap {h : Heap} (x : Item) : snapF h 4194303 x.enc = some x.enc:=rfl
theorem slT (x : Item) (xs : List Item) : AVal.sl ((((x :: xs).map Item.enc).drop 1).take (((x :: xs).map Item.enc).length - 1)) = .sl (xs.map Item.enc):=by
 simp only [List.map_cons,List.drop_succ_cons,List.drop_zero,List.length_cons,List.length_map,Nat.add_sub_cancel]
 rw [List.take_of_length_le (by simp)]
theorem merged_r (hp : Okp pr) (a b : List Item) (ha : zsm a) (hb : zsm b) : Ret pr 46 [.sl (a.map Item.enc),.sl (b.map Item.enc),cmpF,mixF] (.sl ((mergeZ a b).map Item.enc)):=by
 obtain ⟨hla,hra⟩:=ha
 obtain ⟨hlb,hrb⟩:=hb
 refine retg hp rfl rfl ?_
 have S : Sepa [] []:=Sepa.nil []
 conv=>whnf
 refine loopG (fun m tm hp=>∃ (a' b' z : List Item) (D : AVal),a'.length + b'.length = m ∧ tm 0 = .sl (a'.map Item.enc) ∧ tm 1 = .sl (b'.map Item.enc) ∧ tm 9 = D ∧ Sepa hp [.acc Item.enc 2 z D] ∧ mergeZ a b = z ++ mergeZ a' b' ∧ z.length + a'.length + b'.length ≤ a.length + b.length ∧ (∀ x ∈ a',x ∈ a) ∧ (∀ x ∈ b',x ∈ b)) (fun m tm hq hfr hI=>?_) (a.length + b.length) ⟨a,b,[],.nil,rfl,rfl,rfl,rfl,S.accNil _ _,rfl,by simp,fun _ h=>h,fun _ h=>h⟩
 obtain ⟨a',b',z,D,hm,e0,e1,e9,S2,hall,hz,hma,hmb⟩:=hI
 have k2:=hfr 2 (by kernel_rfl)
 conv at k2=>rhs; whnf
 rw [← upd_id k2]
 have k3:=hfr 3 (by kernel_rfl)
 conv at k3=>rhs; whnf
 rw [← upd_id k3,← upd_id e0,← upd_id e1,← upd_id e9]
 clear hfr k2 k3 e0 e1 e9 S
 have S:=S2
 clear S2
 have hzl : z.length + 1 ≤ sizeLim:=by simp [sizeLim,big] at hla hlb ⊢; omega
 cases a' with
 | nil=>
  conv=>whnf
  refine ⟨trivial,?_⟩
  conv=>whnf
  refine ⟨_,rfl,itemsOk [],?_⟩
  refine appAccs (ys:=[]) S (by simp only [sizeLim,big] at *; simp only [List.length_append,List.length_cons,List.length_nil] at *; omega) fun D1 w1 hD1 S1=>?_
  conv=>whnf
  refine ⟨trivial,?_⟩
  conv=>whnf
  refine ⟨_,rfl,itemsOk b',?_⟩
  refine appAccs (ys:=b') S1 (by simp only [sizeLim,big] at *; simp only [List.length_append,List.length_cons,List.length_nil] at *; omega) fun D2 w2 hD2 S2=>?_
  conv=>whnf
  refine ⟨_,rfl,_,_,rfl,?_⟩
  have hfz:=(show AccP Item.enc 2 w2 _ D2 from S2.get 0 rfl).frozen fun x _=>item_snap x
  refine Eq.trans hfz ?_
  rw [hall]
  rw [mergeZ_nil,List.append_nil]
 | cons x xs=>
  cases b' with
  | nil=>
   conv=>whnf
   refine bsel_true (by simp; try omega) ?_
   conv=>whnf
   refine ⟨trivial,?_⟩
   conv=>whnf
   refine ⟨_,rfl,itemsOk (x :: xs),?_⟩
   refine appAccs (ys:=(x :: xs)) S (by simp only [sizeLim,big] at *; simp only [List.length_append,List.length_cons,List.length_nil] at *; omega) fun D1 w1 hD1 S1=>?_
   conv=>whnf
   refine ⟨trivial,?_⟩
   conv=>whnf
   refine ⟨_,rfl,itemsOk [],?_⟩
   refine appAccs (ys:=[]) S1 (by simp only [sizeLim,big] at *; simp only [List.length_append,List.length_cons,List.length_nil] at *; omega) fun D2 w2 hD2 S2=>?_
   conv=>whnf
   refine ⟨_,rfl,_,_,rfl,?_⟩
   have hfz:=(show AccP Item.enc 2 w2 _ D2 from S2.get 0 rfl).frozen fun x _=>item_snap x
   refine Eq.trans hfz ?_
   rw [hall]
   rw [mergeZ_nil2,List.append_nil]
  | cons y ys=>
   have hxr:=hra x (hma x (by simp))
   have hyr:=hrb y (hmb y (by simp))
   have h1:=cmpItem_r hp x y hxr hyr
   have h2:=mix_r hp x y
   rw [mergeZ] at hall
   have hm1 : mixI x y = ⟨x.row,addW x.w y.w⟩:=rfl
   generalize mixI x y = mx at h2 hall hm1
   obtain ⟨r,w⟩:=x
   obtain ⟨r2,w2⟩:=y
   obtain ⟨r3,w3⟩:=mx
   simp only at h1 h2 hall
   generalize cmpL r r2 = c at h1 hall
   generalize hb3 : (addW w w2 != 0) = b3 at h2 hall
   conv=>whnf
   refine bsel_true (by simp; try omega) ?_
   conv=>whnf
   refine bsel_true (by simp; try omega) ?_
   conv=>whnf
   refine ⟨_,rfl,by decide,rfl,?_⟩
   conv=>whnf
   refine ⟨_,rfl,by decide,rfl,?_⟩
   conv=>whnf
   refine ⟨_,h1 _,?_⟩
   conv=>whnf
   refine bsel_intro (fun g1=>?_) (fun g1=>?_)
   ·rw [if_pos (by simpa using g1)] at hall
    conv=>whnf
    refine ⟨_,rfl,by decide,rfl,?_⟩
    conv=>whnf
    intro k1 q1 hk1 hq1
    replace S:=S.alloc hk1 hq1
    conv=>whnf
    refine ⟨⟨by decide,by simp <;> omega,by simp <;> omega,itemsOk2 _⟩,?_⟩
    conv=>whnf
    refine ⟨trivial,?_⟩
    conv=>whnf
    refine ⟨[(Item.mk r w).enc],elems_row1 (S.row 0 rfl),rfl,?_⟩
    replace S:=S.drop 0
    dsimp only [List.eraseIdx] at S
    refine appAcc (sz:=2) S hzl fun k2 q2 S3 _=>?_
    conv=>whnf
    refine ⟨?_,?_⟩
    ·conv=>whnf
     refine ⟨reload_sl rfl rfl rfl rfl ⟨by decide,by simp <;> omega,by simp <;> omega,itemsOk2 _⟩ rfl,?_⟩
     conv=>whnf
     trivial
    conv=>whnf
    exact ⟨m - 1,by simp at hm; omega,xs,⟨r2,w2⟩ :: ys,z ++ [⟨r,w⟩],_,by simp at hm ⊢; omega,slT _ _,rfl,rfl,S3,by rw [hall,List.append_assoc]; rfl,by simp at hz ⊢; omega,fun x hx=>hma x (List.mem_cons_of_mem _ hx),hmb⟩
   ·rw [if_neg (by simpa using g1)] at hall
    conv=>whnf
    refine bsel_intro (fun g2=>?_) (fun g2=>?_)
    ·rw [if_pos (by simpa using g2)] at hall
     conv=>whnf
     refine ⟨_,rfl,by decide,rfl,?_⟩
     conv=>whnf
     intro k1 q1 hk1 hq1
     replace S:=S.alloc hk1 hq1
     conv=>whnf
     refine ⟨⟨by decide,by simp <;> omega,by simp <;> omega,itemsOk2 _⟩,?_⟩
     conv=>whnf
     refine ⟨trivial,?_⟩
     conv=>whnf
     refine ⟨[(Item.mk r2 w2).enc],elems_row1 (S.row 0 rfl),rfl,?_⟩
     replace S:=S.drop 0
     dsimp only [List.eraseIdx] at S
     refine appAcc (sz:=2) S hzl fun k2 q2 S3 _=>?_
     conv=>whnf
     refine ⟨?_,?_⟩
     ·conv=>whnf
      refine ⟨reload_sl rfl rfl rfl rfl ⟨by decide,by simp <;> omega,by simp <;> omega,itemsOk2 _⟩ rfl,?_⟩
      conv=>whnf
      trivial
     conv=>whnf
     exact ⟨m - 1,by simp at hm; omega,⟨r,w⟩ :: xs,ys,z ++ [⟨r2,w2⟩],_,by simp at hm ⊢; omega,rfl,slT _ _,rfl,S3,by rw [hall,List.append_assoc]; rfl,by simp at hz ⊢; omega,hma,fun x hx=>hmb x (List.mem_cons_of_mem _ hx)⟩
    ·rw [if_neg (by simpa using g2)] at hall
     cases b3 with
     | false=>
      rw [cond_false] at hall
      conv=>whnf
      refine ⟨_,rfl,by decide,rfl,?_⟩
      conv=>whnf
      refine ⟨_,rfl,by decide,rfl,?_⟩
      conv=>whnf
      refine ⟨_,h2 _,?_⟩
      conv=>whnf
      intro k1 q1 hk1 hq1
      replace S:=S.alloc hk1 hq1
      conv=>whnf
      refine ⟨_,rfl,rfl,rfl,.inl ⟨_,S.row 0 rfl,rfl,?_⟩⟩
      conv=>whnf
      intro q2 hh2
      replace S:=S.set 0 rfl hh2
      dsimp only [List.set] at S
      conv=>whnf
      refine ⟨⟨by decide,by simp <;> omega,by simp <;> omega,itemsOk2 _⟩,?_⟩
      conv=>whnf
      refine ⟨⟨by decide,by simp <;> omega,by simp <;> omega,itemsOk2 _⟩,?_⟩
      conv=>whnf
      replace S:=S.drop 0
      dsimp only [List.eraseIdx] at S
      exact ⟨m - 2,by simp at hm; omega,xs,ys,z,_,by simp at hm ⊢; omega,slT _ _,slT _ _,rfl,S,hall,by simp at hz ⊢; omega,fun x hx=>hma x (List.mem_cons_of_mem _ hx),fun x hx=>hmb x (List.mem_cons_of_mem _ hx)⟩
     | true=>
      rw [cond_true] at hall
      conv=>whnf
      refine ⟨_,rfl,by decide,rfl,?_⟩
      conv=>whnf
      refine ⟨_,rfl,by decide,rfl,?_⟩
      conv=>whnf
      refine ⟨_,h2 _,?_⟩
      conv=>whnf
      intro k1 q1 hk1 hq1
      replace S:=S.alloc hk1 hq1
      conv=>whnf
      refine ⟨_,rfl,rfl,rfl,.inl ⟨_,S.row 0 rfl,rfl,?_⟩⟩
      conv=>whnf
      intro q2 hh2
      replace S:=S.set 0 rfl hh2
      dsimp only [List.set] at S
      conv=>whnf
      refine .inl ⟨_,S.row 0 rfl,rfl,?_⟩
      conv=>whnf
      intro k3 q3 hk3 hq3
      replace S:=S.alloc hk3 hq3
      conv=>whnf
      refine ⟨trivial,?_⟩
      conv=>whnf
      refine ⟨[(Item.mk r3 w3).enc],elems_row1 (S.row 0 rfl),rfl,?_⟩
      replace S:=S.pick [2] (by decide)
      simp only [pickL,List.getElem?_cons_zero,List.getElem?_cons_succ] at S
      refine appAcc (sz:=2) S hzl fun k4 q4 S3 _=>?_
      conv=>whnf
      refine ⟨⟨by decide,by simp <;> omega,by simp <;> omega,itemsOk2 _⟩,?_⟩
      conv=>whnf
      refine ⟨⟨by decide,by simp <;> omega,by simp <;> omega,itemsOk2 _⟩,?_⟩
      conv=>whnf
      exact ⟨m - 2,by simp at hm; omega,xs,ys,z ++ [⟨r3,w3⟩],_,by simp at hm ⊢; omega,slT _ _,slT _ _,rfl,S3,by rw [hall,List.append_assoc]; rfl,by simp at hz ⊢; omega,fun x hx=>hma x (List.mem_cons_of_mem _ hx),fun x hx=>hmb x (List.mem_cons_of_mem _ hx)⟩
end Go.Proofs.YtebciagembenjaaDoor
/- Copies of items. -/
set_option maxHeartbeats 4000000
namespace Go.Proofs.YtebciagembenjaaDoor
open Go Go.Am
variable {pr : Prims} (hp : Okp pr)
set_option maxRecDepth 100000
theorem item_of {h : Heap} {L : List Chunk} {row : List Int} {w : Int} {A : AVal} {F : List Nat} (S : Sepa h (.dat (Ints.d row) A F :: L)) : Sepa h (.dat (Item.d ⟨row,w⟩) (.agg [A,i64 w]) (F ++ []) :: L):=
 S.is (c':=.dat (Item.d ⟨row,w⟩) (.agg [A,i64 w]) (F ++ [])) (Own_g.2 ⟨_,rfl,OwnC_one (S.get 0 rfl) (OwnC_int OwnC_no)⟩) (by simp [Chunk.dat])
theorem iCopyItems_n (hp : Okc pr) (z : List Item) (hz : z.length ≤ big ∧ ∀ x ∈ z,x.row.length ≤ 1048576) : RetD pr 15 [.sl (z.map Item.enc)] (Items.d z):=by
 obtain ⟨hl,hr⟩:=hz
 refine retD_of hp.toOkp rfl ?_
 have S : Sepa [] []:=Sepa.nil []
 conv=>whnf
 replace S:=Sepa.acd0 2 S
 refine loopG (fun m tm hp=>∃ (j : Nat) (D : AVal) (F : List Nat),j + m = z.length ∧ tm 8 = i64 (j : Nat) ∧ tm 3 = D ∧ Sepa hp [.acd 2 ((z.take j).map Item.d) D F]) (fun m tm hq hfr hI=>?_) (z.length) ⟨0,.nil,[],by simp,(by first | rfl | kernel_rfl | simp),(by first | rfl | kernel_rfl | simp),S⟩
 obtain ⟨j,D,F,hj,e8,e3,S2⟩:=hI
 have k6:=hfr 6 (by kernel_rfl)
 conv at k6=>rhs; whnf
 rw [← upd_id k6]
 have k7:=hfr 7 (by kernel_rfl)
 conv at k7=>rhs; whnf
 rw [← upd_id k7]
 rw [← upd_id e8]
 rw [← upd_id e3]
 clear hfr k6 k7 e8 e3
 clear S
 have S:=S2
 clear S2
 conv=>whnf
 have hjb : j < 4611686018427387904:=by simp [big] at hl; omega
 refine bsel_intro (fun h1=>?_) (fun h1=>?_)
 ·have hjl : j < z.length:=by simpa using h1
  have hge : (z.map Item.enc)[((j : Nat) : Int).toNat]? = some (Item.enc z[j]):=by rw [Int.toNat_natCast]; simp [hjl]
  have hih:=RetL.toD (hp.cloneI z[j].row (hr _ (List.getElem_mem hjl))).toL
  have htk:=congrArg (List.map Item.d) (take_snoc hjl)
  rw [List.map_append] at htk
  generalize z[j] = x at hge hih htk
  obtain ⟨row,w⟩:=x
  conv=>whnf
  refine ⟨_,hge,by omega,rfl,?_⟩
  iterate 4
   all_goals (try (conv=>whnf))
   all_goals (first | (intro ka_ ha_ hk_ hh_; replace S:=S.alloc hk_ hh_) | (refine .inl ⟨_,S.row 0 rfl,rfl,?_⟩) | (refine .inl ⟨_,S.row 1 rfl,rfl,?_⟩) | (refine .inl ⟨_,S.row 2 rfl,rfl,?_⟩) | (refine .inl ⟨_,S.row 3 rfl,rfl,?_⟩) | (refine .inl ⟨_,S.row 4 rfl,rfl,?_⟩) | (refine ⟨_,rfl,rfl,rfl,.inl ⟨_,S.row 0 rfl,rfl,?_⟩⟩; (conv=>whnf); intro ha_ hh_; replace S:=S.set 0 rfl hh_; dsimp only [List.set] at S) | (refine ⟨_,rfl,rfl,rfl,.inl ⟨_,S.row 1 rfl,rfl,?_⟩⟩; (conv=>whnf); intro ha_ hh_; replace S:=S.set 1 rfl hh_; dsimp only [List.set] at S) | (refine ⟨_,rfl,rfl,rfl,.inl ⟨_,S.row 2 rfl,rfl,?_⟩⟩; (conv=>whnf); intro ha_ hh_; replace S:=S.set 2 rfl hh_; dsimp only [List.set] at S) | (refine ⟨_,rfl,rfl,rfl,.inl ⟨_,S.row 3 rfl,rfl,?_⟩⟩; (conv=>whnf); intro ha_ hh_; replace S:=S.set 3 rfl hh_; dsimp only [List.set] at S) | (refine ⟨_,rfl,rfl,rfl,.inl ⟨_,S.row 4 rfl,rfl,?_⟩⟩; (conv=>whnf); intro ha_ hh_; replace S:=S.set 4 rfl hh_; dsimp only [List.set] at S) | (refine bsel_intro (fun hb=>?_) (fun hb=>?_)) | skip)
  refine callD S hih rfl rfl fun A q1 F1 o1 S1=>?_
  replace S:=S1
  clear S1
  iterate 2
   all_goals (try (conv=>whnf))
   all_goals (first | (refine cellsG_intro o1.cell.1 ?_) | (intro ka_ ha_ hk_ hh_; replace S:=S.alloc hk_ hh_) | (refine .inl ⟨_,S.row 0 rfl,rfl,?_⟩) | (refine .inl ⟨_,S.row 1 rfl,rfl,?_⟩) | (refine .inl ⟨_,S.row 2 rfl,rfl,?_⟩) | (refine .inl ⟨_,S.row 3 rfl,rfl,?_⟩) | (refine .inl ⟨_,S.row 4 rfl,rfl,?_⟩) | (refine ⟨_,rfl,rfl,rfl,.inl ⟨_,S.row 0 rfl,rfl,?_⟩⟩; (conv=>whnf); intro ha_ hh_; replace S:=S.set 0 rfl hh_; dsimp only [List.set] at S) | (refine ⟨_,rfl,rfl,rfl,.inl ⟨_,S.row 1 rfl,rfl,?_⟩⟩; (conv=>whnf); intro ha_ hh_; replace S:=S.set 1 rfl hh_; dsimp only [List.set] at S) | (refine ⟨_,rfl,rfl,rfl,.inl ⟨_,S.row 2 rfl,rfl,?_⟩⟩; (conv=>whnf); intro ha_ hh_; replace S:=S.set 2 rfl hh_; dsimp only [List.set] at S) | (refine ⟨_,rfl,rfl,rfl,.inl ⟨_,S.row 3 rfl,rfl,?_⟩⟩; (conv=>whnf); intro ha_ hh_; replace S:=S.set 3 rfl hh_; dsimp only [List.set] at S) | (refine ⟨_,rfl,rfl,rfl,.inl ⟨_,S.row 4 rfl,rfl,?_⟩⟩; (conv=>whnf); intro ha_ hh_; replace S:=S.set 4 rfl hh_; dsimp only [List.set] at S) | (refine bsel_intro (fun hb=>?_) (fun hb=>?_)) | skip)
  conv=>whnf
  intro kv hv hkv hhv
  replace S:=S.alloc hkv hhv
  conv=>whnf
  refine ⟨trivial,?_⟩
  conv=>whnf
  refine ⟨[_],elems_row1 (S.row 0 rfl),elem_agg rfl (allc o1.cell.2 rfl),?_⟩
  replace S:=S.pick [3,1] (by decide)
  simp only [pickL,List.getElem?_cons_zero,List.getElem?_cons_succ] at S
  replace S:=(item_of (w:=w) S.swap).swap
  refine appD S (by simp [sizeLim,big] at *; omega) fun k h2 F2 S2=>?_
  conv=>whnf
  exact ⟨m - 1,by omega,j + 1,_,_,by omega,nat_step j hjb,rfl,by rw [htk]; exact S2⟩
 ·have hjl : j = z.length := by have : ¬ j < z.length := by simpa using h1
                                omega
  subst hjl
  conv=>whnf
  rw [List.take_length] at S
  exact ⟨_,rfl,_,_,_,rfl,(Sepa.acdDat S).get 0 rfl,(S.get' 0 _ rfl).2⟩
theorem Sepa.accInts {h : Heap} {L : List Chunk} {xs : List Int} {v : AVal} (s : Sepa h (.acc i64 1 xs v :: L)) : Sepa h (.dat (Ints.d xs) v (accF v) :: L):=
 s.is (c':=.dat (Ints.d xs) v (accF v)) (by
  show Own h (.s 1 (xs.map Dat.i)) v (accF v)
  refine OwnL_i.1 ?_
  have h0 : AccP i64 1 h xs v:=s.get 0 rfl
  rcases h0 with ⟨rfl,rfl⟩ | ⟨id,rfl,h1⟩
  ·exact .inl ⟨rfl,rfl,.inl rfl⟩
  ·exact .inr ⟨id,rfl,h1,rfl⟩) rfl
theorem intsOk (xs : List Int) : (xs.map i64).all (elemOk 1) = true:=by
 rw [List.all_eq_true]; intro y hy; obtain ⟨q,_,rfl⟩:=List.mem_map.1 hy; rfl
theorem l1Copy_n (hp : Okp pr) (xs : List Int) (hl : xs.length ≤ big) : RetD pr 44 [.sl (xs.map i64)] (Ints.d xs):=by
 refine retD_of hp rfl ?_
 have S : Sepa [] []:=Sepa.nil []
 conv=>whnf
 refine ⟨trivial,?_⟩
 conv=>whnf
 refine ⟨_,rfl,intsOk xs,?_⟩
 refine appAccs (ys:=xs) (Sepa.accNil i64 1 S) (by simp [sizeLim,big] at *; omega) fun D1 w1 hD1 S1=>?_
 conv=>whnf
 exact ⟨_,rfl,_,_,_,rfl,(Sepa.accInts S1).get 0 rfl,((Sepa.accInts S1).get' 0 _ rfl).2⟩
end Go.Proofs.YtebciagembenjaaDoor

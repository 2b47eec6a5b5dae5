/- Items put into items of one's own: the reference's. -/
import Derived.Test.YtebciagembenjaaDoorGH30
set_option linter.unusedVariables false
set_option linter.unusedSimpArgs false
/- The program's told, together, at. -/
set_option maxHeartbeats 4000000
namespace Go.Am
open Go
end Go.Am
namespace Go.Proofs.YtebciagembenjaaDoor
open Go Go.Am
variable {pr : Prims} (hp : Okp pr)
set_option maxRecDepth 100000
theorem Items.ofDat {h : Heap} {z : List Item} {v : AVal} {F : List Nat} (ho : Own h (Items.d z) v F) : snap h v = some (Items.enc z):=by
 have:=ho.snap (by
  have : ∀ ds : List Item,Dat.deps (ds.map Item.d) ≤ 3:=fun ds=>by
   induction ds with
   | nil=>simp [Dat.deps]
   | cons x xs ih=>
    have hi : ∀ ys : List Int,Dat.deps (ys.map Dat.i) ≤ 1:=fun ys=>by induction ys with | nil=>simp [Dat.deps] | cons y ys ih=>simp only [List.map_cons,Dat.deps,Dat.dep]; omega
    have:=hi x.row
    simp only [List.map_cons,Dat.deps,Item.d,Dat.dep,Ints.d]
    omega
  have:=this z
  simp only [Items.d,Dat.dep]
  omega)
 rw [this,Items.d_enc]
def toldZ (z : List Item) : List Item × Bool:=if zOk z then (z,true) else ([],false)
theorem zOk_row {z : List Item} (h : zOk z = true) : z.length ≤ 100 ∧ ∀ x ∈ z,x.row.length ≤ 6:=by
 simp only [zOk,Bool.and_eq_true,decide_eq_true_iff] at h
 refine ⟨h.1,?_⟩
 have key : ∀ (z : List Item) (q : Option (List Int)),zGo q z = true → ∀ x ∈ z,x.row.length ≤ 6:=by
  intro z
  induction z with
  | nil=>intro q _ x hx; simp at hx
  | cons y ys ih=>
   intro q hq x hx
   simp only [zGo,Bool.and_eq_true] at hq
   rcases List.mem_cons.1 hx with rfl | hx
   ·have:=hq.1.1
    simp only [rowOk,Bool.and_eq_true,decide_eq_true_iff] at this
    exact this.2.1
   ·exact ih _ hq.2 x hx
 exact key z none h.2
theorem Owns2 {h : Heap} {d1 d2 : Dat} {v1 v2 : AVal} {F1 F2 : List Nat} (h1 : Own h d1 v1 F1) (h2 : Own h d2 v2 F2) : Owns h [d1,d2] [v1,v2] (F1 ++ F2):=by
 simp only [Owns]
 exact ⟨v1,[v2],F1,F2,rfl,rfl,h1,v2,[],F2,[],rfl,by simp,h2,rfl,rfl⟩
theorem OwnB {h : Heap} (b : Bool) : Own h (.b b) (.bool b) []:=by unfold Own; exact ⟨rfl,rfl⟩
theorem OwnNil {h : Heap} (sz : Nat) : Own h (.s sz []) .nil []:=by unfold Own; exact .inl ⟨rfl,rfl,.inl rfl⟩
theorem told_n (hp : Okc pr) (z : List Item) (hz : zsm z) : RetT pr 22 [.sl (z.map Item.enc)] [Items.d (toldZ z).1,.b (toldZ z).2]:=by
 have h1:=iZOk_r hp.toOkp z hz
 have h2 : zOk z = true → RetD pr 15 [.sl (z.map Item.enc)] (Items.d z):=fun h=>by
  obtain ⟨g1,g2⟩:=zOk_row h
  exact iCopyItems_n hp z ⟨hz.1,fun x hx=>by have:=g2 x hx; omega⟩
 unfold toldZ
 refine retT_of hp.toOkp rfl ?_
 have S : Sepa [] []:=Sepa.nil []
 conv=>whnf
 refine ⟨_,h1 _,?_⟩
 conv=>whnf
 refine bsel_intro (fun g1=>?_) (fun g1=>?_)
 ·rw [if_pos g1]
  conv=>whnf
  refine callD S (h2 g1) rfl rfl fun A q1 F1 o1 S1=>?_
  conv=>whnf
  exact ⟨_,rfl,_,_,_,rfl,Owns2 o1 (OwnB true),by rw [List.append_nil]; exact (S1.get' 0 _ rfl).2⟩
 ·rw [g1]
  conv=>whnf
  exact ⟨_,rfl,_,_,_,rfl,Owns2 (OwnNil 2) (OwnB false),by simp⟩
theorem together_r (hp : Okp pr) (a b : List Item) (ha : zsm a) (hb : zsm b) : Ret pr 23 [.sl (a.map Item.enc),.sl (b.map Item.enc)] (.sl ((mergeZ a b).map Item.enc)):=by
 have h:=merged_r hp a b ha hb
 refine retg hp rfl rfl ?_
 have S : Sepa [] []:=Sepa.nil []
 conv=>whnf
 refine ⟨_,h _,?_⟩
 conv=>whnf
 exact ⟨_,rfl,_,_,rfl,rfl⟩
theorem mergeZ_zsm {a b : List Item} (ha : zsm a) (hb : zsm b) (hl : a.length + b.length ≤ big) : zsm (mergeZ a b):=by
 refine ⟨Nat.le_trans (mergeZ_len _ a b (Nat.le_refl _)) hl,fun x hx=>?_⟩
 obtain ⟨y,hy,e⟩:=mergeZ_mem _ a b (Nat.le_refl _) x hx
 rw [e]
 rcases hy with hy | hy
 ·exact ha.2 y hy
 ·exact hb.2 y hy
end Go.Proofs.YtebciagembenjaaDoor
/- The reference's rows and items; items put into items of one's own. -/
set_option maxHeartbeats 4000000
namespace Go.Proofs.YtebciagembenjaaDoor
open Go Go.Am
variable {pr : Prims} (hp : Okp pr)
set_option maxRecDepth 100000
theorem sRowOk_r (hp : Okp pr) (xs : List Int) (hl : xs.length ≤ big) : Ret pr 38 [.sl (xs.map i64)] (.bool (rowOk xs)):=by
 refine retg hp rfl rfl ?_
 have S : Sepa [] []:=Sepa.nil []
 conv=>whnf
 refine loopG (fun m tm hp=>∃ (j : Nat),j + m = xs.length ∧ tm 3 = i64 (j : Nat) ∧ (xs.all isCell = (xs.drop j).all isCell)) (fun m tm hq hfr hI=>?_) (xs.length) ⟨0,by simp,(by first | rfl | kernel_rfl | simp),(rfl)⟩
 obtain ⟨j,hj,e3,hall⟩:=hI
 have k0:=hfr 0 (by kernel_rfl)
 conv at k0=>rhs; whnf
 rw [← upd_id k0]
 rw [← upd_id e3]
 clear hfr k0 e3
 have S : Sepa hq []:=Sepa.nil hq
 conv=>whnf
 refine bsel_intro (fun h1=>?_) (fun h1=>?_)
 ·have hjl : j < xs.length:=by simpa using h1
  have hge : (xs.map i64)[((j : Nat) : Int).toNat]? = some (i64 xs[j]):=by rw [Int.toNat_natCast]; simp [hjl]
  have h2:=l1Cell_r hp xs[j]
  rw [List.drop_eq_getElem_cons hjl,List.all_cons] at hall
  generalize xs[j] = x at hge h2 hall
  conv=>whnf
  refine ⟨_,hge,by omega,rfl,?_⟩
  iterate 3
   all_goals (try (conv=>whnf))
   all_goals (first | (intro ka_ ha_ hk_ hh_; replace S:=S.alloc hk_ hh_) | (refine .inl ⟨_,S.row 0 rfl,rfl,?_⟩) | (refine .inl ⟨_,S.row 1 rfl,rfl,?_⟩) | (refine .inl ⟨_,S.row 2 rfl,rfl,?_⟩) | (refine .inl ⟨_,S.row 3 rfl,rfl,?_⟩) | (refine .inl ⟨_,S.row 4 rfl,rfl,?_⟩) | (refine ⟨_,rfl,rfl,rfl,.inl ⟨_,S.row 0 rfl,rfl,?_⟩⟩; (conv=>whnf); intro ha_ hh_; replace S:=S.set 0 rfl hh_; dsimp only [List.set] at S) | (refine ⟨_,rfl,rfl,rfl,.inl ⟨_,S.row 1 rfl,rfl,?_⟩⟩; (conv=>whnf); intro ha_ hh_; replace S:=S.set 1 rfl hh_; dsimp only [List.set] at S) | (refine ⟨_,rfl,rfl,rfl,.inl ⟨_,S.row 2 rfl,rfl,?_⟩⟩; (conv=>whnf); intro ha_ hh_; replace S:=S.set 2 rfl hh_; dsimp only [List.set] at S) | (refine ⟨_,rfl,rfl,rfl,.inl ⟨_,S.row 3 rfl,rfl,?_⟩⟩; (conv=>whnf); intro ha_ hh_; replace S:=S.set 3 rfl hh_; dsimp only [List.set] at S) | (refine ⟨_,rfl,rfl,rfl,.inl ⟨_,S.row 4 rfl,rfl,?_⟩⟩; (conv=>whnf); intro ha_ hh_; replace S:=S.set 4 rfl hh_; dsimp only [List.set] at S) | (refine bsel_intro (fun hb=>?_) (fun hb=>?_)) | (refine ⟨_,h2 _,?_⟩) | skip)
  all_goals (try (conv=>whnf))
  all_goals first
   | exact g_bool (by simp [rowOk,hall,hb])
   | exact ⟨m - 1,by omega,j + 1,by omega,nat_step j (by simp [big] at hl; omega),by simp [hall,hb]⟩
 ·have hjl : j = xs.length:=by
   have : ¬ j < xs.length:=by simpa using h1
   omega
  subst hjl
  have hall : xs.all isCell = true:=by rw [hall]; simp
  iterate 6
   all_goals (try (conv=>whnf))
   all_goals (first | (intro ka_ ha_ hk_ hh_; replace S:=S.alloc hk_ hh_) | (refine .inl ⟨_,S.row 0 rfl,rfl,?_⟩) | (refine .inl ⟨_,S.row 1 rfl,rfl,?_⟩) | (refine .inl ⟨_,S.row 2 rfl,rfl,?_⟩) | (refine .inl ⟨_,S.row 3 rfl,rfl,?_⟩) | (refine .inl ⟨_,S.row 4 rfl,rfl,?_⟩) | (refine ⟨_,rfl,rfl,rfl,.inl ⟨_,S.row 0 rfl,rfl,?_⟩⟩; (conv=>whnf); intro ha_ hh_; replace S:=S.set 0 rfl hh_; dsimp only [List.set] at S) | (refine ⟨_,rfl,rfl,rfl,.inl ⟨_,S.row 1 rfl,rfl,?_⟩⟩; (conv=>whnf); intro ha_ hh_; replace S:=S.set 1 rfl hh_; dsimp only [List.set] at S) | (refine ⟨_,rfl,rfl,rfl,.inl ⟨_,S.row 2 rfl,rfl,?_⟩⟩; (conv=>whnf); intro ha_ hh_; replace S:=S.set 2 rfl hh_; dsimp only [List.set] at S) | (refine ⟨_,rfl,rfl,rfl,.inl ⟨_,S.row 3 rfl,rfl,?_⟩⟩; (conv=>whnf); intro ha_ hh_; replace S:=S.set 3 rfl hh_; dsimp only [List.set] at S) | (refine ⟨_,rfl,rfl,rfl,.inl ⟨_,S.row 4 rfl,rfl,?_⟩⟩; (conv=>whnf); intro ha_ hh_; replace S:=S.set 4 rfl hh_; dsimp only [List.set] at S) | (refine bsel_intro (fun hb=>?_) (fun hb=>?_)) | skip)
  all_goals exact g_bool (by first | (simp_all [rowOk]; done) | (simp_all [rowOk]; omega))
theorem l2W_r (hp : Okp pr) (w : Int) : Ret pr 39 [i64 w] (.bool (wOk w)):=by
 refine retg hp rfl rfl ?_
 have S : Sepa [] []:=Sepa.nil []
 iterate 8
  all_goals (try (conv=>whnf))
  all_goals (first | (intro ka_ ha_ hk_ hh_; replace S:=S.alloc hk_ hh_) | (refine .inl ⟨_,S.row 0 rfl,rfl,?_⟩) | (refine .inl ⟨_,S.row 1 rfl,rfl,?_⟩) | (refine .inl ⟨_,S.row 2 rfl,rfl,?_⟩) | (refine .inl ⟨_,S.row 3 rfl,rfl,?_⟩) | (refine .inl ⟨_,S.row 4 rfl,rfl,?_⟩) | (refine ⟨_,rfl,rfl,rfl,.inl ⟨_,S.row 0 rfl,rfl,?_⟩⟩; (conv=>whnf); intro ha_ hh_; replace S:=S.set 0 rfl hh_; dsimp only [List.set] at S) | (refine ⟨_,rfl,rfl,rfl,.inl ⟨_,S.row 1 rfl,rfl,?_⟩⟩; (conv=>whnf); intro ha_ hh_; replace S:=S.set 1 rfl hh_; dsimp only [List.set] at S) | (refine ⟨_,rfl,rfl,rfl,.inl ⟨_,S.row 2 rfl,rfl,?_⟩⟩; (conv=>whnf); intro ha_ hh_; replace S:=S.set 2 rfl hh_; dsimp only [List.set] at S) | (refine ⟨_,rfl,rfl,rfl,.inl ⟨_,S.row 3 rfl,rfl,?_⟩⟩; (conv=>whnf); intro ha_ hh_; replace S:=S.set 3 rfl hh_; dsimp only [List.set] at S) | (refine ⟨_,rfl,rfl,rfl,.inl ⟨_,S.row 4 rfl,rfl,?_⟩⟩; (conv=>whnf); intro ha_ hh_; replace S:=S.set 4 rfl hh_; dsimp only [List.set] at S) | (refine bsel_intro (fun hb=>?_) (fun hb=>?_)) | skip)
 all_goals exact g_bool (by first | (simp_all [wOk]; done) | (simp_all [wOk]; omega))
theorem sRowLess_r (hp : Okp pr) (xs ys : List Int) (hx : xs.length ≤ big) (hy : ys.length ≤ big) : Ret pr 40 [.sl (xs.map i64),.sl (ys.map i64)] (.bool (rowLess xs ys)):=by
 have h:=l1Order_r hp xs ys (by simp [big] at hx; omega) (by simp [big] at hy; omega) hx
 refine retg hp rfl rfl ?_
 have S : Sepa [] []:=Sepa.nil []
 iterate 4
  all_goals (try (conv=>whnf))
  all_goals (first | (intro ka_ ha_ hk_ hh_; replace S:=S.alloc hk_ hh_) | (refine .inl ⟨_,S.row 0 rfl,rfl,?_⟩) | (refine .inl ⟨_,S.row 1 rfl,rfl,?_⟩) | (refine .inl ⟨_,S.row 2 rfl,rfl,?_⟩) | (refine .inl ⟨_,S.row 3 rfl,rfl,?_⟩) | (refine .inl ⟨_,S.row 4 rfl,rfl,?_⟩) | (refine ⟨_,rfl,rfl,rfl,.inl ⟨_,S.row 0 rfl,rfl,?_⟩⟩; (conv=>whnf); intro ha_ hh_; replace S:=S.set 0 rfl hh_; dsimp only [List.set] at S) | (refine ⟨_,rfl,rfl,rfl,.inl ⟨_,S.row 1 rfl,rfl,?_⟩⟩; (conv=>whnf); intro ha_ hh_; replace S:=S.set 1 rfl hh_; dsimp only [List.set] at S) | (refine ⟨_,rfl,rfl,rfl,.inl ⟨_,S.row 2 rfl,rfl,?_⟩⟩; (conv=>whnf); intro ha_ hh_; replace S:=S.set 2 rfl hh_; dsimp only [List.set] at S) | (refine ⟨_,rfl,rfl,rfl,.inl ⟨_,S.row 3 rfl,rfl,?_⟩⟩; (conv=>whnf); intro ha_ hh_; replace S:=S.set 3 rfl hh_; dsimp only [List.set] at S) | (refine ⟨_,rfl,rfl,rfl,.inl ⟨_,S.row 4 rfl,rfl,?_⟩⟩; (conv=>whnf); intro ha_ hh_; replace S:=S.set 4 rfl hh_; dsimp only [List.set] at S) | (refine bsel_intro (fun hb=>?_) (fun hb=>?_)) | (refine ⟨_,h _,?_⟩) | skip)
 all_goals exact g_bool (by simp_all [rowLess])
theorem sRowSame_r (hp : Okp pr) (xs ys : List Int) (hx : xs.length ≤ big) (hy : ys.length ≤ big) : Ret pr 43 [.sl (xs.map i64),.sl (ys.map i64)] (.bool (rowSame xs ys)):=by
 have h:=l1Order_r hp xs ys (by simp [big] at hx; omega) (by simp [big] at hy; omega) hx
 rw [rowSame,← ordL_zero]
 refine retg hp rfl rfl ?_
 have S : Sepa [] []:=Sepa.nil []
 iterate 4
  all_goals (try (conv=>whnf))
  all_goals (first | (intro ka_ ha_ hk_ hh_; replace S:=S.alloc hk_ hh_) | (refine .inl ⟨_,S.row 0 rfl,rfl,?_⟩) | (refine .inl ⟨_,S.row 1 rfl,rfl,?_⟩) | (refine .inl ⟨_,S.row 2 rfl,rfl,?_⟩) | (refine .inl ⟨_,S.row 3 rfl,rfl,?_⟩) | (refine .inl ⟨_,S.row 4 rfl,rfl,?_⟩) | (refine ⟨_,rfl,rfl,rfl,.inl ⟨_,S.row 0 rfl,rfl,?_⟩⟩; (conv=>whnf); intro ha_ hh_; replace S:=S.set 0 rfl hh_; dsimp only [List.set] at S) | (refine ⟨_,rfl,rfl,rfl,.inl ⟨_,S.row 1 rfl,rfl,?_⟩⟩; (conv=>whnf); intro ha_ hh_; replace S:=S.set 1 rfl hh_; dsimp only [List.set] at S) | (refine ⟨_,rfl,rfl,rfl,.inl ⟨_,S.row 2 rfl,rfl,?_⟩⟩; (conv=>whnf); intro ha_ hh_; replace S:=S.set 2 rfl hh_; dsimp only [List.set] at S) | (refine ⟨_,rfl,rfl,rfl,.inl ⟨_,S.row 3 rfl,rfl,?_⟩⟩; (conv=>whnf); intro ha_ hh_; replace S:=S.set 3 rfl hh_; dsimp only [List.set] at S) | (refine ⟨_,rfl,rfl,rfl,.inl ⟨_,S.row 4 rfl,rfl,?_⟩⟩; (conv=>whnf); intro ha_ hh_; replace S:=S.set 4 rfl hh_; dsimp only [List.set] at S) | (refine bsel_intro (fun hb=>?_) (fun hb=>?_)) | (refine ⟨_,h _,?_⟩) | skip)
 all_goals exact g_bool hb.symm
theorem sZOk_r (hp : Okp pr) (z : List Item) (hz : zsm z) : Ret pr 16 [.sl (z.map Item.enc)] (.bool (zOk z)):=by
 obtain ⟨hl,hr⟩:=hz
 refine retg hp rfl rfl ?_
 have S : Sepa [] []:=Sepa.nil []
 conv=>whnf
 refine bsel_intro (fun h0=>?_) (fun h0=>?_)
 ·conv=>whnf
  exact g_bool (by have : ¬ z.length ≤ 100 := by simp at h0; omega
                   simp [zOk,this])
 have hz : zOk z = zGo none z:=by
  have : z.length ≤ 100:=by simp at h0; omega
  simp [zOk,this]
 rw [hz]
 clear hz h0
 conv=>whnf
 refine loopG (fun m tm hp=>∃ (j : Nat),j + m = z.length ∧ tm 3 = i64 (j : Nat) ∧ (zGo none z = zGo (lastRow (z.take j)) (z.drop j))) (fun m tm hq hfr hI=>?_) (z.length) ⟨0,by simp,(by first | rfl | kernel_rfl | simp),(by simp [lastRow])⟩
 obtain ⟨j,hj,e3,hall⟩:=hI
 have k0:=hfr 0 (by kernel_rfl)
 conv at k0=>rhs; whnf
 rw [← upd_id k0]
 rw [← upd_id e3]
 clear hfr k0 e3
 have S : Sepa hq []:=Sepa.nil hq
 conv=>whnf
 refine bsel_intro (fun h1=>?_) (fun h1=>?_)
 ·have hjl : j < z.length:=by simpa using h1
  have hge : (z.map Item.enc)[((j : Nat) : Int).toNat]? = some (Item.enc z[j]):=by rw [Int.toNat_natCast]; simp [hjl]
  have hnext:=lastRow_take hjl
  have hrow:=hr z[j] (List.getElem_mem hjl)
  rw [List.drop_eq_getElem_cons hjl] at hall
  simp only [zGo] at hall
  have h4:=l2W_r hp z[j].w
  cases j with
  | zero=>
   have hprev : lastRow (z.take 0) = none:=by simp [lastRow]
   rw [hprev] at hall
   generalize z[0] = x at hge hrow hall hnext h4
   obtain ⟨row,w⟩:=x
   have h2:=sRowOk_r hp row hrow
   iterate 20
    all_goals (try (conv=>whnf))
    all_goals (first | (refine ⟨_,hge,by omega,rfl,?_⟩) | (intro ka_ ha_ hk_ hh_; replace S:=S.alloc hk_ hh_) | (refine .inl ⟨_,S.row 0 rfl,rfl,?_⟩) | (refine .inl ⟨_,S.row 1 rfl,rfl,?_⟩) | (refine .inl ⟨_,S.row 2 rfl,rfl,?_⟩) | (refine .inl ⟨_,S.row 3 rfl,rfl,?_⟩) | (refine .inl ⟨_,S.row 4 rfl,rfl,?_⟩) | (refine ⟨_,rfl,rfl,rfl,.inl ⟨_,S.row 0 rfl,rfl,?_⟩⟩; (conv=>whnf); intro ha_ hh_; replace S:=S.set 0 rfl hh_; dsimp only [List.set] at S) | (refine ⟨_,rfl,rfl,rfl,.inl ⟨_,S.row 1 rfl,rfl,?_⟩⟩; (conv=>whnf); intro ha_ hh_; replace S:=S.set 1 rfl hh_; dsimp only [List.set] at S) | (refine ⟨_,rfl,rfl,rfl,.inl ⟨_,S.row 2 rfl,rfl,?_⟩⟩; (conv=>whnf); intro ha_ hh_; replace S:=S.set 2 rfl hh_; dsimp only [List.set] at S) | (refine ⟨_,rfl,rfl,rfl,.inl ⟨_,S.row 3 rfl,rfl,?_⟩⟩; (conv=>whnf); intro ha_ hh_; replace S:=S.set 3 rfl hh_; dsimp only [List.set] at S) | (refine ⟨_,rfl,rfl,rfl,.inl ⟨_,S.row 4 rfl,rfl,?_⟩⟩; (conv=>whnf); intro ha_ hh_; replace S:=S.set 4 rfl hh_; dsimp only [List.set] at S) | (refine bsel_intro (fun hb=>?_) (fun hb=>?_)) | (refine ⟨_,h2 _,?_⟩) | (refine ⟨_,h4 _,?_⟩) | skip)
   all_goals (try (conv=>whnf))
   all_goals first
    | exact g_bool (by clear hge hnext h2 h4 hr hrow; simp_all)
    | exact ⟨m - 1,by omega,1,by omega,nat_step 0 (by omega),by rw [hnext,hall]; clear hge hnext h2 h4 hr hrow hall; simp_all⟩
  | succ i=>
   have hprev:=lastRow_take (z:=z) (j:=i) (by omega)
   rw [hprev] at hall
   have hw : IntKind.i64.wrap (((i + 1 : Nat) : Int) - 1) = (i : Nat):=by rw [IntKind.wrap_i64]; simp [big] at hl; omega
   have hge2 : (z.map Item.enc)[(IntKind.i64.wrap (((i + 1 : Nat) : Int) - 1)).toNat]? = some (Item.enc z[i]):=by rw [hw,Int.toNat_natCast]; simp [show i < z.length by omega]
   have hrow2:=hr z[i] (List.getElem_mem (by omega))
   generalize z[i + 1] = x at hge hrow hall hnext h4
   generalize z[i] = y at hge2 hrow2 hall hprev
   obtain ⟨row,w⟩:=x
   obtain ⟨row2,w2⟩:=y
   have h2:=sRowOk_r hp row hrow
   have h3:=sRowLess_r hp row2 row hrow2 hrow
   iterate 26
    all_goals (try (conv=>whnf))
    all_goals (first | (refine ⟨_,hge2,by omega,rfl,?_⟩) | (refine ⟨_,hge,by omega,rfl,?_⟩) | (intro ka_ ha_ hk_ hh_; replace S:=S.alloc hk_ hh_) | (refine .inl ⟨_,S.row 0 rfl,rfl,?_⟩) | (refine .inl ⟨_,S.row 1 rfl,rfl,?_⟩) | (refine .inl ⟨_,S.row 2 rfl,rfl,?_⟩) | (refine .inl ⟨_,S.row 3 rfl,rfl,?_⟩) | (refine .inl ⟨_,S.row 4 rfl,rfl,?_⟩) | (refine ⟨_,rfl,rfl,rfl,.inl ⟨_,S.row 0 rfl,rfl,?_⟩⟩; (conv=>whnf); intro ha_ hh_; replace S:=S.set 0 rfl hh_; dsimp only [List.set] at S) | (refine ⟨_,rfl,rfl,rfl,.inl ⟨_,S.row 1 rfl,rfl,?_⟩⟩; (conv=>whnf); intro ha_ hh_; replace S:=S.set 1 rfl hh_; dsimp only [List.set] at S) | (refine ⟨_,rfl,rfl,rfl,.inl ⟨_,S.row 2 rfl,rfl,?_⟩⟩; (conv=>whnf); intro ha_ hh_; replace S:=S.set 2 rfl hh_; dsimp only [List.set] at S) | (refine ⟨_,rfl,rfl,rfl,.inl ⟨_,S.row 3 rfl,rfl,?_⟩⟩; (conv=>whnf); intro ha_ hh_; replace S:=S.set 3 rfl hh_; dsimp only [List.set] at S) | (refine ⟨_,rfl,rfl,rfl,.inl ⟨_,S.row 4 rfl,rfl,?_⟩⟩; (conv=>whnf); intro ha_ hh_; replace S:=S.set 4 rfl hh_; dsimp only [List.set] at S) | (refine bsel_intro (fun hb=>?_) (fun hb=>?_)) | (refine ⟨_,h2 _,?_⟩) | (refine ⟨_,h3 _,?_⟩) | (refine ⟨_,h4 _,?_⟩) | skip)
   all_goals (try (conv=>whnf))
   all_goals first
    | exact g_bool (by clear hge hge2 hnext h2 h3 h4 hr hrow hrow2 hw hprev; simp_all)
    | exact ⟨m - 1,by omega,i + 1 + 1,by omega,nat_step (i + 1) (by simp [big] at hl; omega),by rw [hnext,hall]; clear hge hge2 hnext h2 h3 h4 hr hrow hrow2 hall hw hprev; simp_all⟩
 ·have hjl : j = z.length:=by
   have : ¬ j < z.length:=by simpa using h1
   omega
  subst hjl
  rw [List.drop_length] at hall
  conv=>whnf
  exact g_bool (by rw [hall]; rfl)
end Go.Proofs.YtebciagembenjaaDoor
/- Items put into items of one's own: the reference's. -/
set_option maxHeartbeats 4000000
namespace Go.Proofs.YtebciagembenjaaDoor
open Go Go.Am
variable {pr : Prims} (hp : Okp pr)
set_option maxRecDepth 100000
def putZ : List Item → List Int → Int → List Item
 | [],r,w=>if w == 0 then [] else [⟨r,w⟩]
 | x :: xs,r,w=>if rowLess x.row r then x :: putZ xs r w
  else if rowSame x.row r then (if addW x.w w == 0 then xs else ⟨x.row,addW x.w w⟩ :: xs)
  else if w == 0 then x :: xs else ⟨r,w⟩ :: x :: xs
def addZ (a b : List Item) : List Item:=b.foldl (fun z x=>putZ z x.row x.w) a
theorem putZ_less {A B : List Item} {r : List Int} {w : Int} (h : ∀ x ∈ A,rowLess x.row r = true) : putZ (A ++ B) r w = A ++ putZ B r w:=by
 induction A with
 | nil=>rfl
 | cons x xs ih=>
  simp only [List.cons_append,putZ]
  rw [if_pos (h x (by simp)),ih fun y hy=>h y (by simp [hy])]
theorem putZ_len (z : List Item) (r : List Int) (w : Int) : (putZ z r w).length ≤ z.length + 1:=by
 induction z with
 | nil=>unfold putZ; split <;> simp
 | cons x xs ih=>
  unfold putZ
  repeat' split
  all_goals simp only [List.length_cons] at *
  all_goals omega
theorem putZ_mem {z : List Item} {r : List Int} {w : Int} : ∀ x ∈ putZ z r w,x.row = r ∨ ∃ y ∈ z,x.row = y.row:=by
 induction z with
 | nil=>intro x hx; unfold putZ at hx; split at hx <;> simp at hx; subst hx; exact .inl rfl
 | cons y ys ih=>
  intro x hx
  unfold putZ at hx
  split at hx
  ·rcases List.mem_cons.1 hx with rfl | hx
   ·exact .inr ⟨x,by simp,rfl⟩
   ·rcases ih x hx with h | ⟨u,hu,e⟩
    ·exact .inl h
    ·exact .inr ⟨u,by simp [hu],e⟩
  ·split at hx
   ·split at hx
    ·exact .inr ⟨x,by simp [hx],rfl⟩
    ·rcases List.mem_cons.1 hx with rfl | hx
     ·exact .inr ⟨y,by simp,rfl⟩
     ·exact .inr ⟨x,by simp [hx],rfl⟩
   ·split at hx
    ·exact .inr ⟨x,hx,rfl⟩
    ·rcases List.mem_cons.1 hx with rfl | hx
     ·exact .inl rfl
     ·exact .inr ⟨x,hx,rfl⟩
theorem putZ_zsm {z : List Item} {r : List Int} {w : Int} (hz : ∀ x ∈ z,x.row.length ≤ big) (hr : r.length ≤ big) : ∀ x ∈ putZ z r w,x.row.length ≤ big:=fun x hx=>by
 rcases putZ_mem x hx with e | ⟨y,hy,e⟩
 ·rw [e]; exact hr
 ·rw [e]; exact hz y hy
theorem addZ_zsm {a b : List Item} (ha : ∀ x ∈ a,x.row.length ≤ big) (hb : ∀ x ∈ b,x.row.length ≤ big) : (addZ a b).length ≤ a.length + b.length ∧ ∀ x ∈ addZ a b,x.row.length ≤ big:=by
 unfold addZ
 induction b generalizing a with
 | nil=>exact ⟨by simp,ha⟩
 | cons y ys ih=>
  have h1:=putZ_len a y.row y.w
  obtain ⟨h2,h3⟩:=ih (a:=putZ a y.row y.w) (putZ_zsm ha (hb y (by simp))) fun x hx=>hb x (by simp [hx])
  simp only [List.foldl_cons,List.length_cons]
  exact ⟨by omega,h3⟩
theorem Owns.at {h : Heap} {A B : List Dat} {d : Dat} {vs : List AVal} {F : List Nat} (ho : Owns h (A ++ d :: B) vs F) : ∃ v F1,vs[A.length]? = some v ∧ Own h d v F1:=by
 obtain ⟨v1,v2,F1,F2,rfl,rfl,h1,h2⟩:=Owns_split ho
 simp only [Owns] at h2
 obtain ⟨v,vs',G1,G2,rfl,rfl,h3,h4⟩:=h2
 exact ⟨v,G1,by rw [← Owns_len h1]; simp,h3⟩
theorem Item.open {h : Heap} {x : Item} {v : AVal} {F : List Nat} (ho : Own h x.d v F) : ∃ P,v = .agg [P,i64 x.w] ∧ Own h (Ints.d x.row) P F:=by
 obtain ⟨r,w⟩:=x
 obtain ⟨vv,rfl,hu⟩:=Own_g.1 ho
 obtain ⟨P,w1,G1,G2,rfl,rfl,gP,ho2⟩:=OwnC_s.1 hu
 obtain ⟨w2,rfl,ho3⟩:=OwnC_i.1 ho2
 obtain ⟨rfl,rfl⟩:=OwnC_nil.1 ho3
 exact ⟨P,rfl,by rw [List.append_nil]; exact gP⟩
theorem Ints.snap {h : Heap} {r : List Int} {v : AVal} {F : List Nat} (ho : Own h (Ints.d r) v F) : Am.snap h v = some (.sl (r.map i64)):=by
 have hi : ∀ ys : List Int,Dat.deps (ys.map Dat.i) ≤ 1:=fun ys=>by induction ys with | nil=>simp [Dat.deps] | cons y ys ih=>simp only [List.map_cons,Dat.deps,Dat.dep]; omega
 have:=ho.snap (by have:=hi r; simp only [Ints.d,Dat.dep]; omega)
 rw [this]
 simp only [Ints.d,Dat.enc,Dat.encs_i]
theorem AppR_cut {h : Heap} {L : List Chunk} {id sz len : Nat} {es ys : List AVal} {K : AVal → Heap → Prop} (S : Sepa h (.row id (.arr sz es) :: L)) (hlen : len ≤ es.length) (hl : len + ys.length ≤ sizeLim)
  (hK : ∀ k h',Sepa h' (.row k (.arr sz (es.take len ++ ys)) :: L) → K (.own k 0 (len + ys.length)) h') : AppR h sz (.own id 0 len) ys K:=by
   refine ⟨es,S.row 0 rfl,rfl,hlen,?_⟩
   by_cases hy : ys = []
   ·subst hy
    refine .inl ⟨rfl,fun h' e=>?_⟩
    have S1:=S.set 0 rfl e
    dsimp only [List.set] at S1
    exact hK id h' (by simpa using S1)
   ·refine .inr ⟨hy,hl,fun k h' e1 e2=>?_⟩
    have S1:=S.move 0 rfl e1 e2
    dsimp only [List.eraseIdx] at S1
    have:=hK k h' S1
    rw [List.length_append,List.length_take,Nat.min_eq_left hlen]
    exact this
theorem elems_cut {h : Heap} {id sz st n : Nat} {es ys : List AVal} (hi : h[id]? = some (.arr sz es)) (hn : st + n ≤ es.length) (hy : (es.drop st).take n = ys) : elemsA h (.own id st n) = some ys:=by
 simp only [elemsA,hi,hn,if_true,hy]
theorem itemsD {h : Heap} {B : List Item} : ∀ {vs : List AVal} {F : List Nat},Owns h (B.map Item.d) vs F → vs.all (elemOk 2) = true:=by
 induction B with
 | nil=>intro vs F ho; simp only [List.map_nil,Owns] at ho; rw [ho.1]; rfl
 | cons b B ih=>
  intro vs F ho
  simp only [List.map_cons,Owns] at ho
  obtain ⟨v,vs',F1,F2,rfl,rfl,h1,h2⟩:=ho
  rw [List.all_cons,ih h2,Bool.and_true]
  obtain ⟨r,w⟩:=b
  obtain ⟨vv,rfl,hu⟩:=Own_g.1 h1
  obtain ⟨P,w1,G3,G4,rfl,rfl,gP,ho2⟩:=OwnC_s.1 hu
  obtain ⟨w2,rfl,ho3⟩:=OwnC_i.1 ho2
  obtain ⟨rfl,rfl⟩:=OwnC_nil.1 ho3
  have:=elem_agg (cs:=[P,i64 w]) (sz:=2) rfl (allc gP.cell.2 rfl)
  rwa [List.all_cons,List.all_nil,Bool.and_true] at this
theorem Sepa.dcons {h : Heap} {L : List Chunk} {d : Dat} {ds : List Dat} {v : AVal} {vs : List AVal} {F1 F2 : List Nat} (s : Sepa h (.dat d v F1 :: .dats ds vs F2 :: L)) : Sepa h (.dats (d :: ds) (v :: vs) (F1 ++ F2) :: L):=
 s.merge (e:=.dats (d :: ds) (v :: vs) (F1 ++ F2)) (by show Owns _ _ _ _; simp only [Owns]; exact ⟨v,vs,F1,F2,rfl,rfl,s.get 0 rfl,s.get 1 rfl⟩) (fun id hid=>List.mem_append.1 hid) (by
  have:=s.swap.nodup2
  exact this)
theorem Sepa.dappend {h : Heap} {L : List Chunk} {ds es : List Dat} {vs us : List AVal} {F1 F2 : List Nat} (s : Sepa h (.dats ds vs F1 :: .dats es us F2 :: L)) : Sepa h (.dats (ds ++ es) (vs ++ us) (F1 ++ F2) :: L):=
 s.merge (e:=.dats (ds ++ es) (vs ++ us) (F1 ++ F2)) (Owns_append (s.get 0 rfl) (s.get 1 rfl)) (fun id hid=>List.mem_append.1 hid) s.swap.nodup2
theorem Sepa.datsAt {h : Heap} {L : List Chunk} {A B : List Item} {b : Item} {vs : List AVal} {F : List Nat} (S : Sepa h (.dats ((A ++ b :: B).map Item.d) vs F :: L)) :
  ∃ VA P VB F0 G F2,vs = VA ++ .agg [P,i64 b.w] :: VB ∧ VA.length = A.length ∧ Sepa h (.dats (A.map Item.d) VA F0 :: .dat (Ints.d b.row) P G :: .dats (B.map Item.d) VB F2 :: L):=by
   have h1 : Owns h ((A ++ b :: B).map Item.d) vs F:=S.get 0 rfl
   rw [List.map_append,List.map_cons] at h1
   obtain ⟨v1,v2,F1,F2,rfl,rfl,h2,h3⟩:=Owns_split h1
   simp only [Owns] at h3
   obtain ⟨v,vs',G1,G2,rfl,rfl,h4,h5⟩:=h3
   obtain ⟨r,w⟩:=b
   obtain ⟨vv,rfl,hu⟩:=Own_g.1 h4
   obtain ⟨P,w1,G3,G4,rfl,rfl,gP,ho2⟩:=OwnC_s.1 hu
   obtain ⟨w2,rfl,ho3⟩:=OwnC_i.1 ho2
   obtain ⟨rfl,rfl⟩:=OwnC_nil.1 ho3
   refine ⟨v1,P,vs',F1,G3,G2,rfl,by simpa using Owns_len h2,S.cuts [.dats (A.map Item.d) v1 F1,.dat (Ints.d r) P G3,.dats (B.map Item.d) vs' G2] (by simp [Chunk.dat,Chunk.dats]) ?_⟩
   intro d hd
   simp only [List.mem_cons,List.not_mem_nil,or_false] at hd
   rcases hd with rfl | rfl | rfl
   ·exact h2
   ·exact gP
   ·exact h5
theorem Sepa.datsOf {h : Heap} {L : List Chunk} {A B : List Item} {row : List Int} {w : Int} {VA VB : List AVal} {P : AVal} {F0 G F2 : List Nat} (S : Sepa h (.dats (A.map Item.d) VA F0 :: .dat (Ints.d row) P G :: .dats (B.map Item.d) VB F2 :: L)) :
  ∃ F,Sepa h (.dats ((A ++ ⟨row,w⟩ :: B).map Item.d) (VA ++ .agg [P,i64 w] :: VB) F :: L):=by
   have S1:=S.front 1 rfl
   dsimp only [List.eraseIdx] at S1
   have S2:=S1.is (c':=.dat (Item.d ⟨row,w⟩) (.agg [P,i64 w]) (G ++ [])) (Own_g.2 ⟨_,rfl,OwnC_one (S1.get 0 rfl) (OwnC_int OwnC_no)⟩) (by simp [Chunk.dat])
   have S3:=(S2.front 2 rfl).swap
   dsimp only [List.eraseIdx] at S3
   have S4:=Sepa.dappend ((Sepa.dcons S3).swap)
   exact ⟨_,by rw [List.map_append,List.map_cons]; exact S4⟩
end Go.Proofs.YtebciagembenjaaDoor

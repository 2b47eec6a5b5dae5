/- The sizes of the law's data. (Printed by gensz.py.) -/
import Derived.Test.YtncgofhhnhebjaaGreatGH38
import Derived.Test.YtncgofhhnhebjaaGreatGSDe
set_option linter.unusedVariables false
set_option linter.unusedSimpArgs false
/- The sizes of plans; the law of SlimOnce. -/
set_option maxHeartbeats 4000000
namespace Go.Proofs.YtncgofhhnhebjaaGreat
open Go Go.Am
variable {pr : Prims} (hp : Okp pr)
set_option maxRecDepth 100000
theorem szR_add {left : Int} {a b : Nat} (h : ¬ left < a) : szR (left - a) b = szR left (a + b):=by
 unfold szR; split <;> split <;> omega
theorem szR_neg {left : Int} {a b : Nat} (h : left < a) : szR left (a + b) = -1:=by
 unfold szR; rw [if_pos (by omega)]
theorem szs_take (ps : List Plan) {j : Nat} (h : j < ps.length) : Plan.szs (ps.take (j + 1)) = Plan.szs (ps.take j) + ps[j].sz:=by
 induction ps generalizing j with
 | nil=>simp at h
 | cons p ps ih=>
  cases j with
  | zero=>simp [Plan.szs]
  | succ j=>
   simp only [List.take_succ_cons,Plan.szs,List.getElem_cons_succ]
   rw [ih (by simpa using h)]
   omega
theorem szs_take_le (ps : List Plan) (j : Nat) : Plan.szs (ps.take j) ≤ Plan.szs ps:=by
 induction ps generalizing j with
 | nil=>simp
 | cons p ps ih=>
  cases j with
  | zero=>simp [Plan.szs]
  | succ j=>simp only [List.take_succ_cons,Plan.szs]; have:=ih j; omega
theorem szPlanS_r (hp : Okp pr) (xs : List Plan) (left : Int) (h0 : 0 ≤ left) (h1 : left ≤ 1048576) (hl : xs.length ≤ 9223372036854775807)
  (ih : ∀ p ∈ xs,∀ left : Int,0 ≤ left → left ≤ 1048576 → Ret pr 168 [p.enc,i64 left] (i64 (szR left p.sz))) : Ret pr 195 [.sl (Plan.encs xs),i64 left] (i64 (szR left (xs.length + Plan.szs xs))):=by
   have hel:=encs_len xs
   have hw:=szR_wrap (k:=(Plan.encs xs).length) h0 h1 (by omega)
   refine ret_of hp rfl rfl ?_
   conv=>whnf
   refine bsel_intro (fun g0=>?_) (fun g0=>?_)
   ·have : left < xs.length:=by rw [hw,hel] at g0; simp at g0; omega
    conv=>whnf
    exact fin_int (szR_neg this).symm
   ·have hge : ¬ left < xs.length:=by rw [hw,hel] at g0; simp at g0; omega
    conv=>whnf
    refine loop_rule (fun m st=>∃ j : Nat,j + m = xs.length ∧ ¬ (left - xs.length) < Plan.szs (xs.take j) ∧ st.tm 0 = .sl (Plan.encs xs) ∧ st.tm 1 = i64 (left - xs.length - Plan.szs (xs.take j)) ∧ st.tm 5 = i64 (j : Nat) ∧ st.hp = []) (fun m st hI=>?_) xs.length _ ⟨0,by simp,by simp [Plan.szs]; omega,rfl,?_,rfl,rfl⟩
    rotate_left
    ·refine Eq.trans (b:=AVal.int .i64 (IntKind.i64.wrap (left - ((Plan.encs xs).length : Nat)))) ?_ ?_
     ·kernel_rfl
     ·rw [hw,hel]; simp [i64,Plan.szs]
    obtain ⟨j,hj,hnn,e0,e1,e5,hh⟩:=hI
    obtain ⟨tm,hq⟩:=st
    simp only at e0 e1 e5 hh
    subst hh
    rw [show tm = upd (upd (upd tm 0 (.sl (Plan.encs xs))) 1 (i64 (left - xs.length - Plan.szs (xs.take j)))) 5 (i64 (j : Nat)) by rw [upd_id e0,upd_id e1,upd_id e5]]
    clear e0 e1 e5
    conv=>whnf
    refine bsel_intro (fun g1=>?_) (fun g1=>?_)
    ·have hjl : j < xs.length := by have : j < (Plan.encs xs).length := by simpa using g1
                                    omega
     have hgt : (Plan.encs xs)[((j : Nat) : Int).toNat]? = some xs[j].enc:=by rw [Int.toNat_natCast,encs_get]; simp [hjl]
     have hih:=ih xs[j] (List.getElem_mem hjl) (left - xs.length - Plan.szs (xs.take j)) (by omega) (by omega)
     have hst:=szs_take xs hjl
     have hle:=szs_take_le xs (j + 1)
     generalize xs[j] = q at hgt hih hst
     have hqs : q.sz = q.sz:=rfl
     generalize hsz : q.sz = z at hih hst
     clear hqs hsz
     obtain ⟨kind,n,test,cells,a,b,keys,agg,c,kids⟩:=q
     conv=>whnf
     refine ⟨_,hgt,by omega,rfl,?_⟩
     conv=>whnf
     refine ⟨_,hih _,?_⟩
     conv=>whnf
     refine bsel_intro (fun g2=>?_) (fun g2=>?_)
     ·conv=>whnf
      refine fin_int ?_
      have : szR (left - xs.length - Plan.szs (xs.take j)) z < 0:=by simpa using g2
      unfold szR at this ⊢
      split at this <;> rw [if_pos (by omega)]
     ·conv=>whnf
      have : ¬ szR (left - xs.length - Plan.szs (xs.take j)) z < 0:=by simpa using g2
      have hz : ¬ (left - xs.length - Plan.szs (xs.take j)) < z:=by
       intro hh; apply this; unfold szR; rw [if_pos hh]; omega
      refine ⟨m - 1,by omega,j + 1,by omega,by omega,rfl,?_,nat_step j (by omega),rfl⟩
      show i64 (szR (left - xs.length - Plan.szs (xs.take j)) z) = _
      unfold szR
      rw [if_neg hz,hst]
      congr 1
      omega
    ·have hjl : j = xs.length := by have : ¬ j < (Plan.encs xs).length := by simpa using g1
                                    omega
     subst hjl
     rw [List.take_length] at *
     conv=>whnf
     exact fin_int (by unfold szR; rw [if_neg (by omega)]; omega)
theorem szPlan_r' (hp : Okp pr) : ∀ (N : Nat) (p : Plan),SizeOf.sizeOf p ≤ N → p.fits → ∀ left : Int,0 ≤ left → left ≤ 1048576 → Ret pr 168 [p.enc,i64 left] (i64 (szR left p.sz)):=by
 intro N
 induction N with
 | zero=>intro p h; exfalso; cases p; simp at h
 | succ N ih=>
  intro p hs hf left h0 h1
  obtain ⟨kind,n,test,cells,a,b,keys,agg,c,kids⟩:=p
  simp only [Plan.fits,fitss_iff] at hf
  obtain ⟨f1,f2,f3,f4⟩:=hf
  have c1:=szCellS_r hp cells left h0 h1 f1
  have c2:=fun l h0 h1=>szIntS_r hp keys l h0 h1 f2
  have c3:=fun l h0 h1=>szPlanS_r hp kids l h0 h1 f3 fun q hq=>ih q (by have:=List.sizeOf_lt_of_mem hq; simp at hs; omega) (f4 q hq)
  have hsz : (Plan.mk kind n test cells a b keys agg c kids).sz = cells.length + (keys.length + (kids.length + Plan.szs kids)):=by simp only [Plan.sz]; omega
  rw [hsz]
  refine ret_of hp rfl rfl ?_
  have neg : ∀ {l : Int} {k : Nat},0 ≤ l → (szR l k < 0 ↔ l < k):=fun h=>by unfold szR; split <;> omega
  have sub : ∀ {l : Int} {k : Nat},¬ l < k → szR l k = l - k:=fun h=>by unfold szR; rw [if_neg h]
  conv=>whnf
  refine ⟨_,c1 _,?_⟩
  conv=>whnf
  refine bsel_intro (fun g1=>?_) (fun g1=>?_)
  ·have : left < cells.length:=(neg h0).1 (by simpa using g1)
   conv=>whnf
   exact fin_int (szR_neg this).symm
  ·have g1' : ¬ left < cells.length:=fun h=>by have:=(neg h0).2 h; simp at g1; omega
   rw [← szR_add g1']
   rw [sub g1'] at *
   generalize hl1 : left - (cells.length : Int) = l1 at *
   have l10 : 0 ≤ l1:=by omega
   conv=>whnf
   refine ⟨_,c2 l1 l10 (by omega) _,?_⟩
   conv=>whnf
   refine bsel_intro (fun g2=>?_) (fun g2=>?_)
   ·have : l1 < keys.length:=(neg l10).1 (by simpa using g2)
    conv=>whnf
    exact fin_int (szR_neg this).symm
   ·have g2' : ¬ l1 < keys.length:=fun h=>by have:=(neg l10).2 h; simp at g2; omega
    rw [← szR_add g2']
    rw [sub g2'] at *
    generalize hl2 : l1 - (keys.length : Int) = l2 at *
    have l20 : 0 ≤ l2:=by omega
    conv=>whnf
    refine ⟨_,c3 l2 l20 (by omega) _,?_⟩
    conv=>whnf
    refine bsel_intro (fun g3=>?_) (fun g3=>?_)
    ·have : l2 < ((kids.length + Plan.szs kids : Nat) : Int):=(neg l20).1 (by simpa using g3)
     conv=>whnf
     exact fin_int (by unfold szR; rw [if_pos this])
    ·conv=>whnf
     exact fin_int rfl
end Go.Proofs.YtncgofhhnhebjaaGreat
/- The sizes of the law's data. (Printed by gensz.py.) -/
set_option maxHeartbeats 4000000
namespace Go.Proofs.YtncgofhhnhebjaaGreat
open Go Go.Am
variable {pr : Prims} (hp : Okp pr)
set_option maxRecDepth 100000
def maxI : Nat:=9223372036854775807
mutual
def Dat.fits : Dat → Prop
 | .i _=>True
 | .b _=>True
 | .p q=>q.fits
 | .s _ xs=>xs.length ≤ maxI ∧ Dat.fitss xs
 | .g ds=>Dat.fitss ds
def Dat.fitss : List Dat → Prop
 | []=>True
 | d :: ds=>d.fits ∧ Dat.fitss ds
end
theorem fitss_map {α : Type} {f : α → Dat} : ∀ {xs : List α},Dat.fitss (xs.map f) → ∀ x ∈ xs,(f x).fits
 | y :: ys,h,x,hx=>by
  simp only [List.map_cons,Dat.fitss] at h
  rcases List.mem_cons.1 hx with rfl | hx
  ·exact h.1
  ·exact fitss_map h.2 x hx
theorem tots_take {α : Type} (f : α → Dat) (xs : List α) {j : Nat} (h : j < xs.length) : Dat.tots ((xs.take (j + 1)).map f) = Dat.tots ((xs.take j).map f) + (f xs[j]).tot:=by
 induction xs generalizing j with
 | nil=>simp at h
 | cons p ps ih=>
  cases j with
  | zero=>simp [Dat.tots]
  | succ j=>
   simp only [List.take_succ_cons,List.map_cons,Dat.tots,List.getElem_cons_succ]
   rw [ih (by simpa using h)]
   omega
theorem tots_take_le {α : Type} (f : α → Dat) (xs : List α) (j : Nat) : Dat.tots ((xs.take j).map f) ≤ Dat.tots (xs.map f):=by
 induction xs generalizing j with
 | nil=>simp
 | cons p ps ih=>
  cases j with
  | zero=>simp [Dat.tots]
  | succ j=>simp only [List.take_succ_cons,List.map_cons,Dat.tots]; have:=ih j; omega
theorem szR_lt {l : Int} {k : Nat} (h : 0 ≤ l) : szR l k < 0 ↔ l < k:=by unfold szR; split <;> omega
theorem szR_ge {l : Int} {k : Nat} (h : ¬ l < k) : szR l k = l - k:=by unfold szR; rw [if_neg h]
theorem szItem_r (hp : Okp pr) (x : Item) (hf : x.d.fits) (left : Int) (h0 : 0 ≤ left) (h1 : left ≤ 1048576) : Ret pr 134 [x.enc,i64 left] (i64 (szR left x.d.tot)):=by
 obtain ⟨row,w⟩:=x
 simp only [Item.d,Ints.d,Dat.fits,Dat.fitss,List.length_map] at hf
 have c1:=fun l h0 h1=>szIntS_r hp row l h0 h1 hf.1.1
 have hz : ∀ ys : List Int,Dat.tots (ys.map Dat.i) = 0:=fun ys=>by induction ys with | nil=>rfl | cons y ys ih=>simp [Dat.tots,Dat.tot,ih]
 have hsz : (Item.mk row w).d.tot = row.length:=by simp [Item.d,Ints.d,Dat.tot,Dat.tots,hz]
 rw [hsz]
 refine ret_of hp rfl rfl ?_
 conv=>whnf
 refine ⟨_,c1 left h0 (by omega) _,?_⟩
 conv=>whnf
 refine bsel_intro (fun g0=>?_) (fun g0=>?_)
 ·have : left < ((row.length : Nat) : Int):=(szR_lt h0).1 (by simpa using g0)
  conv=>whnf
  exact fin_int (by unfold szR; rw [if_pos this])
 ·conv=>whnf
  exact fin_int rfl
theorem szItemS_r1 (hp : Okp pr) (xs : List Item) (left : Int) (h0 : 0 ≤ left) (h1 : left ≤ 1048576) (hl : xs.length ≤ maxI)
  (ih : ∀ x ∈ xs,∀ left : Int,0 ≤ left → left ≤ 1048576 → Ret pr 134 [Item.enc x,i64 left] (i64 (szR left (Item.d x).tot))) : Ret pr 92 [.sl (xs.map Item.enc),i64 left] (i64 (szR left (xs.length + Dat.tots (xs.map Item.d)))):=by
   have hel : (xs.map Item.enc).length = xs.length:=List.length_map _
   have hw:=szR_wrap (k:=(xs.map Item.enc).length) h0 h1 (by rw [hel]; exact hl)
   refine ret_of hp rfl rfl ?_
   conv=>whnf
   refine bsel_intro (fun g0=>?_) (fun g0=>?_)
   ·have : left < xs.length:=by rw [hw,hel] at g0; simp at g0; omega
    conv=>whnf
    exact fin_int (szR_neg this).symm
   ·have hge : ¬ left < xs.length:=by rw [hw,hel] at g0; simp at g0; omega
    conv=>whnf
    refine loop_rule (fun m st=>∃ j : Nat,j + m = xs.length ∧ ¬ (left - xs.length) < Dat.tots ((xs.take j).map Item.d) ∧ st.tm 0 = .sl (xs.map Item.enc) ∧ st.tm 1 = i64 (left - xs.length - Dat.tots ((xs.take j).map Item.d)) ∧ st.tm 5 = i64 (j : Nat) ∧ st.hp = []) (fun m st hI=>?_) xs.length _ ⟨0,by simp,by simp [Dat.tots]; omega,rfl,?_,rfl,rfl⟩
    rotate_left
    ·refine Eq.trans (b:=AVal.int .i64 (IntKind.i64.wrap (left - ((xs.map Item.enc).length : Nat)))) ?_ ?_
     ·kernel_rfl
     ·rw [hw,hel]; simp [i64,Dat.tots]
    obtain ⟨j,hj,hnn,e0,e1,e5,hh⟩:=hI
    obtain ⟨tm,hq⟩:=st
    simp only at e0 e1 e5 hh
    subst hh
    rw [show tm = upd (upd (upd tm 0 (.sl (xs.map Item.enc))) 1 (i64 (left - xs.length - Dat.tots ((xs.take j).map Item.d)))) 5 (i64 (j : Nat)) by rw [upd_id e0,upd_id e1,upd_id e5]]
    clear e0 e1 e5
    conv=>whnf
    refine bsel_intro (fun g1=>?_) (fun g1=>?_)
    ·have hjl : j < xs.length := by have : j < (xs.map Item.enc).length := by simpa using g1
                                    omega
     have hgt : (xs.map Item.enc)[((j : Nat) : Int).toNat]? = some (Item.enc xs[j]):=by rw [Int.toNat_natCast]; simp [hjl]
     have hih:=ih xs[j] (List.getElem_mem hjl) (left - xs.length - Dat.tots ((xs.take j).map Item.d)) (by omega) (by omega)
     have hst:=tots_take Item.d xs hjl
     have hle:=tots_take_le Item.d xs (j + 1)
     generalize xs[j] = q at hgt hih hst
     have hqs : (Item.d q).tot = (Item.d q).tot:=rfl
     generalize hsz : (Item.d q).tot = z at hih hst
     clear hqs hsz
     obtain ⟨row,w⟩:=q
     conv=>whnf
     refine ⟨_,hgt,by omega,rfl,?_⟩
     conv=>whnf
     refine ⟨_,hih _,?_⟩
     conv=>whnf
     refine bsel_intro (fun g2=>?_) (fun g2=>?_)
     ·have g3 : szR (left - xs.length - Dat.tots ((xs.take j).map Item.d)) z < 0:=of_decide_eq_true g2
      have g2' : left - xs.length - Dat.tots ((xs.take j).map Item.d) < z:=by
       unfold szR at g3; split at g3 <;> omega
      conv=>whnf
      exact fin_int (by unfold szR; rw [if_pos (by omega)])
     ·have g2' : ¬ left - xs.length - Dat.tots ((xs.take j).map Item.d) < z:=by
       have g3 : ¬ szR (left - xs.length - Dat.tots ((xs.take j).map Item.d)) z < 0:=of_decide_eq_false g2
       intro hlt; apply g3; unfold szR; rw [if_pos hlt]; omega
      conv=>whnf
      refine ⟨m - 1,by omega,j + 1,by omega,by rw [hst]; omega,rfl,?_,nat_step j (by omega),rfl⟩
      refine Eq.trans (b:=i64 (szR (left - xs.length - Dat.tots ((xs.take j).map Item.d)) z)) (by kernel_rfl) ?_
      congr 1
      unfold szR
      rw [if_neg g2',hst]
      omega
    ·have hje : j = xs.length:=by
      have : ¬ j < (xs.map Item.enc).length:=by simpa using g1
      omega
     subst hje
     rw [List.take_length] at hnn
     conv=>whnf
     exact fin_int (by unfold szR; rw [if_neg (by omega),List.take_length]; omega)
theorem szItemS_r (hp : Okp pr) (xs : List Item) (hf : (Items.d xs).fits) (left : Int) (h0 : 0 ≤ left) (h1 : left ≤ 1048576) : Ret pr 92 [Items.enc xs,i64 left] (i64 (szR left (Items.d xs).tot)):=by
 simp only [Items.d,Dat.fits,List.length_map] at hf
 have:=szItemS_r1 hp xs left h0 h1 hf.1 fun x hx l h0 h1=>szItem_r hp x (fitss_map hf.2 x hx) l h0 h1
 rw [show (Items.d xs).tot = xs.length + Dat.tots (xs.map Item.d) by simp only [Items.d,Dat.tot,List.length_map]]
 exact this
theorem szItemSS_r1 (hp : Okp pr) (xs : List (List Item)) (left : Int) (h0 : 0 ≤ left) (h1 : left ≤ 1048576) (hl : xs.length ≤ maxI)
  (ih : ∀ x ∈ xs,∀ left : Int,0 ≤ left → left ≤ 1048576 → Ret pr 92 [Items.enc x,i64 left] (i64 (szR left (Items.d x).tot))) : Ret pr 44 [.sl (xs.map Items.enc),i64 left] (i64 (szR left (xs.length + Dat.tots (xs.map Items.d)))):=by
   have hel : (xs.map Items.enc).length = xs.length:=List.length_map _
   have hw:=szR_wrap (k:=(xs.map Items.enc).length) h0 h1 (by rw [hel]; exact hl)
   refine ret_of hp rfl rfl ?_
   conv=>whnf
   refine bsel_intro (fun g0=>?_) (fun g0=>?_)
   ·have : left < xs.length:=by rw [hw,hel] at g0; simp at g0; omega
    conv=>whnf
    exact fin_int (szR_neg this).symm
   ·have hge : ¬ left < xs.length:=by rw [hw,hel] at g0; simp at g0; omega
    conv=>whnf
    refine loop_rule (fun m st=>∃ j : Nat,j + m = xs.length ∧ ¬ (left - xs.length) < Dat.tots ((xs.take j).map Items.d) ∧ st.tm 0 = .sl (xs.map Items.enc) ∧ st.tm 1 = i64 (left - xs.length - Dat.tots ((xs.take j).map Items.d)) ∧ st.tm 5 = i64 (j : Nat) ∧ st.hp = []) (fun m st hI=>?_) xs.length _ ⟨0,by simp,by simp [Dat.tots]; omega,rfl,?_,rfl,rfl⟩
    rotate_left
    ·refine Eq.trans (b:=AVal.int .i64 (IntKind.i64.wrap (left - ((xs.map Items.enc).length : Nat)))) ?_ ?_
     ·kernel_rfl
     ·rw [hw,hel]; simp [i64,Dat.tots]
    obtain ⟨j,hj,hnn,e0,e1,e5,hh⟩:=hI
    obtain ⟨tm,hq⟩:=st
    simp only at e0 e1 e5 hh
    subst hh
    rw [show tm = upd (upd (upd tm 0 (.sl (xs.map Items.enc))) 1 (i64 (left - xs.length - Dat.tots ((xs.take j).map Items.d)))) 5 (i64 (j : Nat)) by rw [upd_id e0,upd_id e1,upd_id e5]]
    clear e0 e1 e5
    conv=>whnf
    refine bsel_intro (fun g1=>?_) (fun g1=>?_)
    ·have hjl : j < xs.length := by have : j < (xs.map Items.enc).length := by simpa using g1
                                    omega
     have hgt : (xs.map Items.enc)[((j : Nat) : Int).toNat]? = some (Items.enc xs[j]):=by rw [Int.toNat_natCast]; simp [hjl]
     have hih:=ih xs[j] (List.getElem_mem hjl) (left - xs.length - Dat.tots ((xs.take j).map Items.d)) (by omega) (by omega)
     have hst:=tots_take Items.d xs hjl
     have hle:=tots_take_le Items.d xs (j + 1)
     generalize xs[j] = q at hgt hih hst
     have hqs : (Items.d q).tot = (Items.d q).tot:=rfl
     generalize hsz : (Items.d q).tot = z at hih hst
     clear hqs hsz
     conv=>whnf
     refine ⟨_,hgt,by omega,rfl,?_⟩
     conv=>whnf
     refine ⟨_,hih _,?_⟩
     conv=>whnf
     refine bsel_intro (fun g2=>?_) (fun g2=>?_)
     ·have g3 : szR (left - xs.length - Dat.tots ((xs.take j).map Items.d)) z < 0:=of_decide_eq_true g2
      have g2' : left - xs.length - Dat.tots ((xs.take j).map Items.d) < z:=by
       unfold szR at g3; split at g3 <;> omega
      conv=>whnf
      exact fin_int (by unfold szR; rw [if_pos (by omega)])
     ·have g2' : ¬ left - xs.length - Dat.tots ((xs.take j).map Items.d) < z:=by
       have g3 : ¬ szR (left - xs.length - Dat.tots ((xs.take j).map Items.d)) z < 0:=of_decide_eq_false g2
       intro hlt; apply g3; unfold szR; rw [if_pos hlt]; omega
      conv=>whnf
      refine ⟨m - 1,by omega,j + 1,by omega,by rw [hst]; omega,rfl,?_,nat_step j (by omega),rfl⟩
      refine Eq.trans (b:=i64 (szR (left - xs.length - Dat.tots ((xs.take j).map Items.d)) z)) (by kernel_rfl) ?_
      congr 1
      unfold szR
      rw [if_neg g2',hst]
      omega
    ·have hje : j = xs.length:=by
      have : ¬ j < (xs.map Items.enc).length:=by simpa using g1
      omega
     subst hje
     rw [List.take_length] at hnn
     conv=>whnf
     exact fin_int (by unfold szR; rw [if_neg (by omega),List.take_length]; omega)
theorem szItemSS_r (hp : Okp pr) (xs : List (List Item)) (hf : (Runs.d xs).fits) (left : Int) (h0 : 0 ≤ left) (h1 : left ≤ 1048576) : Ret pr 44 [Runs.enc xs,i64 left] (i64 (szR left (Runs.d xs).tot)):=by
 simp only [Runs.d,Dat.fits,List.length_map] at hf
 have:=szItemSS_r1 hp xs left h0 h1 hf.1 fun x hx l h0 h1=>szItemS_r hp x (fitss_map hf.2 x hx) l h0 h1
 rw [show (Runs.d xs).tot = xs.length + Dat.tots (xs.map Items.d) by simp only [Runs.d,Dat.tot,List.length_map]]
 exact this
theorem szSpine_r (hp : Okp pr) (xs : List (List Item)) (hf : (Runs.d xs).fits) (left : Int) (h0 : 0 ≤ left) (h1 : left ≤ 1048576) : Ret pr 169 [.agg [Runs.enc xs],i64 left] (i64 (szR left (Runs.d xs).tot)):=by
 have c1:=fun l h0 h1=>szItemSS_r hp xs hf l h0 h1
 generalize (Runs.d xs).tot = t at *
 refine ret_of hp rfl rfl ?_
 conv=>whnf
 refine ⟨_,c1 left h0 (by omega) _,?_⟩
 conv=>whnf
 refine bsel_intro (fun g0=>?_) (fun g0=>?_)
 ·have : left < ((t : Nat) : Int):=(szR_lt h0).1 (by simpa using g0)
  conv=>whnf
  exact fin_int (by unfold szR; rw [if_pos this])
 ·conv=>whnf
  exact fin_int rfl
theorem szFlowS_r1 (hp : Okp pr) (xs : List Flow) (left : Int) (h0 : 0 ≤ left) (h1 : left ≤ 1048576) (hl : xs.length ≤ maxI)
  (ih : ∀ x ∈ xs,∀ left : Int,0 ≤ left → left ≤ 1048576 → Ret pr 135 [Flow.enc x,i64 left] (i64 (szR left (Flow.d x).tot))) : Ret pr 170 [.sl (xs.map Flow.enc),i64 left] (i64 (szR left (xs.length + Dat.tots (xs.map Flow.d)))):=by
   have hel : (xs.map Flow.enc).length = xs.length:=List.length_map _
   have hw:=szR_wrap (k:=(xs.map Flow.enc).length) h0 h1 (by rw [hel]; exact hl)
   refine ret_of hp rfl rfl ?_
   conv=>whnf
   refine bsel_intro (fun g0=>?_) (fun g0=>?_)
   ·have : left < xs.length:=by rw [hw,hel] at g0; simp at g0; omega
    conv=>whnf
    exact fin_int (szR_neg this).symm
   ·have hge : ¬ left < xs.length:=by rw [hw,hel] at g0; simp at g0; omega
    conv=>whnf
    refine loop_rule (fun m st=>∃ j : Nat,j + m = xs.length ∧ ¬ (left - xs.length) < Dat.tots ((xs.take j).map Flow.d) ∧ st.tm 0 = .sl (xs.map Flow.enc) ∧ st.tm 1 = i64 (left - xs.length - Dat.tots ((xs.take j).map Flow.d)) ∧ st.tm 5 = i64 (j : Nat) ∧ st.hp = []) (fun m st hI=>?_) xs.length _ ⟨0,by simp,by simp [Dat.tots]; omega,rfl,?_,rfl,rfl⟩
    rotate_left
    ·refine Eq.trans (b:=AVal.int .i64 (IntKind.i64.wrap (left - ((xs.map Flow.enc).length : Nat)))) ?_ ?_
     ·kernel_rfl
     ·rw [hw,hel]; simp [i64,Dat.tots]
    obtain ⟨j,hj,hnn,e0,e1,e5,hh⟩:=hI
    obtain ⟨tm,hq⟩:=st
    simp only at e0 e1 e5 hh
    subst hh
    rw [show tm = upd (upd (upd tm 0 (.sl (xs.map Flow.enc))) 1 (i64 (left - xs.length - Dat.tots ((xs.take j).map Flow.d)))) 5 (i64 (j : Nat)) by rw [upd_id e0,upd_id e1,upd_id e5]]
    clear e0 e1 e5
    conv=>whnf
    refine bsel_intro (fun g1=>?_) (fun g1=>?_)
    ·have hjl : j < xs.length := by have : j < (xs.map Flow.enc).length := by simpa using g1
                                    omega
     have hgt : (xs.map Flow.enc)[((j : Nat) : Int).toNat]? = some (Flow.enc xs[j]):=by rw [Int.toNat_natCast]; simp [hjl]
     have hih:=ih xs[j] (List.getElem_mem hjl) (left - xs.length - Dat.tots ((xs.take j).map Flow.d)) (by omega) (by omega)
     have hst:=tots_take Flow.d xs hjl
     have hle:=tots_take_le Flow.d xs (j + 1)
     generalize xs[j] = q at hgt hih hst
     have hqs : (Flow.d q).tot = (Flow.d q).tot:=rfl
     generalize hsz : (Flow.d q).tot = z at hih hst
     clear hqs hsz
     obtain ⟨⟨kind,n,test,cells,a,b,keys,agg,col,kids⟩,l,r,ks⟩:=q
     conv=>whnf
     refine ⟨_,hgt,by omega,rfl,?_⟩
     conv=>whnf
     refine ⟨_,hih _,?_⟩
     conv=>whnf
     refine bsel_intro (fun g2=>?_) (fun g2=>?_)
     ·have g3 : szR (left - xs.length - Dat.tots ((xs.take j).map Flow.d)) z < 0:=of_decide_eq_true g2
      have g2' : left - xs.length - Dat.tots ((xs.take j).map Flow.d) < z:=by
       unfold szR at g3; split at g3 <;> omega
      conv=>whnf
      exact fin_int (by unfold szR; rw [if_pos (by omega)])
     ·have g2' : ¬ left - xs.length - Dat.tots ((xs.take j).map Flow.d) < z:=by
       have g3 : ¬ szR (left - xs.length - Dat.tots ((xs.take j).map Flow.d)) z < 0:=of_decide_eq_false g2
       intro hlt; apply g3; unfold szR; rw [if_pos hlt]; omega
      conv=>whnf
      refine ⟨m - 1,by omega,j + 1,by omega,by rw [hst]; omega,rfl,?_,nat_step j (by omega),rfl⟩
      refine Eq.trans (b:=i64 (szR (left - xs.length - Dat.tots ((xs.take j).map Flow.d)) z)) (by kernel_rfl) ?_
      congr 1
      unfold szR
      rw [if_neg g2',hst]
      omega
    ·have hje : j = xs.length:=by
      have : ¬ j < (xs.map Flow.enc).length:=by simpa using g1
      omega
     subst hje
     rw [List.take_length] at hnn
     conv=>whnf
     exact fin_int (by unfold szR; rw [if_neg (by omega),List.take_length]; omega)
theorem szFlow_r' (hp : Okp pr) : ∀ (N : Nat) (f : Flow),SizeOf.sizeOf f ≤ N → f.d.fits → ∀ (left : Int) (h0 : 0 ≤ left) (h1 : left ≤ 1048576),Ret pr 135 [f.enc,i64 left] (i64 (szR left f.d.tot)):=by
 intro N
 induction N with
 | zero=>intro f h; exfalso; cases f; simp at h
 | succ N ih=>
  intro f hs hf left h0 h1
  obtain ⟨p,l,r,ks⟩:=f
  simp only [Flow.d,Dat.fits,Dat.fitss,Flow.ds_map,List.length_map] at hf
  obtain ⟨f1,⟨f2,_⟩,⟨f3,_⟩,⟨f4,f5⟩,_⟩:=hf
  have c1:=fun l h0 h1=>szPlan_r' hp _ p (Nat.le_refl _) f1 l h0 h1
  have c2:=fun l' h0 h1=>szSpine_r hp l f2 l' h0 h1
  have c3:=fun l' h0 h1=>szSpine_r hp r f3 l' h0 h1
  have c4:=fun l' h0 h1=>szFlowS_r1 hp ks l' h0 h1 f4 fun x hx=>ih x (by have:=List.sizeOf_lt_of_mem hx; simp at hs; omega) (fitss_map f5 x hx)
  have hsz : (Flow.mk p l r ks).d.tot = p.sz + ((Runs.d l).tot + ((Runs.d r).tot + (ks.length + Dat.tots (ks.map Flow.d)))):=by simp only [Flow.d,Dat.tot,Dat.tots,Flow.ds_map,List.length_map]; omega
  rw [hsz]
  rw [← Flow.encs_map] at c4
  obtain ⟨kind,n,test,cells,a,b,keys,agg,col,kids⟩:=p
  generalize (Plan.mk kind n test cells a b keys agg col kids).sz = t1 at *
  generalize (Runs.d l).tot = t2 at *
  generalize (Runs.d r).tot = t3 at *
  generalize ks.length + Dat.tots (ks.map Flow.d) = t4 at *
  clear hsz ih hs f1 f2 f3 f4 f5
  refine ret_of hp rfl rfl ?_
  conv=>whnf
  refine ⟨_,c1 left h0 (by omega) _,?_⟩
  conv=>whnf
  refine bsel_intro (fun g0=>?_) (fun g0=>?_)
  ·have : left < ((t1 : Nat) : Int):=(szR_lt h0).1 (by simpa using g0)
   conv=>whnf
   exact fin_int (szR_neg this).symm
  ·have g0' : ¬ left < ((t1 : Nat) : Int):=fun h=>by have:=(szR_lt h0).2 h; simp at g0; omega
   rw [← szR_add g0']
   rw [szR_ge g0'] at *
   generalize hl0 : left - ((t1 : Nat) : Int) = l0 at *
   have l00 : 0 ≤ l0:=by omega
   conv=>whnf
   refine ⟨_,c2 l0 l00 (by omega) _,?_⟩
   conv=>whnf
   refine bsel_intro (fun g1=>?_) (fun g1=>?_)
   ·have : l0 < ((t2 : Nat) : Int):=(szR_lt l00).1 (by simpa using g1)
    conv=>whnf
    exact fin_int (szR_neg this).symm
   ·have g1' : ¬ l0 < ((t2 : Nat) : Int):=fun h=>by have:=(szR_lt l00).2 h; simp at g1; omega
    rw [← szR_add g1']
    rw [szR_ge g1'] at *
    generalize hl1 : l0 - ((t2 : Nat) : Int) = l1 at *
    have l10 : 0 ≤ l1:=by omega
    conv=>whnf
    refine ⟨_,c3 l1 l10 (by omega) _,?_⟩
    conv=>whnf
    refine bsel_intro (fun g2=>?_) (fun g2=>?_)
    ·have : l1 < ((t3 : Nat) : Int):=(szR_lt l10).1 (by simpa using g2)
     conv=>whnf
     exact fin_int (szR_neg this).symm
    ·have g2' : ¬ l1 < ((t3 : Nat) : Int):=fun h=>by have:=(szR_lt l10).2 h; simp at g2; omega
     rw [← szR_add g2']
     rw [szR_ge g2'] at *
     generalize hl2 : l1 - ((t3 : Nat) : Int) = l2 at *
     have l20 : 0 ≤ l2:=by omega
     conv=>whnf
     refine ⟨_,c4 l2 l20 (by omega) _,?_⟩
     conv=>whnf
     refine bsel_intro (fun g3=>?_) (fun g3=>?_)
     ·have : l2 < ((t4 : Nat) : Int):=(szR_lt l20).1 (by simpa using g3)
      conv=>whnf
      exact fin_int (by unfold szR; rw [if_pos this])
     ·conv=>whnf
      exact fin_int rfl
theorem szFlow_r (hp : Okp pr) (f : Flow) (hf : f.d.fits) (left : Int) (h0 : 0 ≤ left) (h1 : left ≤ 1048576) : Ret pr 135 [f.enc,i64 left] (i64 (szR left f.d.tot)):=by
 exact szFlow_r' hp _ f (Nat.le_refl _) hf left h0 h1
theorem szPast_r (hp : Okp pr) (x : Past) (hf : x.d.fits) (left : Int) (h0 : 0 ≤ left) (h1 : left ≤ 1048576) : Ret pr 171 [x.enc,i64 left] (i64 (szR left x.d.tot)):=by
 obtain ⟨t,out⟩:=x
 simp only [Past.d,Dat.fits,Dat.fitss] at hf
 have c1:=fun l h0 h1=>szItemS_r hp out hf.2.1 l h0 h1
 have hsz : (Past.mk t out).d.tot = (Items.d out).tot:=by simp [Past.d,Dat.tot,Dat.tots]
 rw [hsz]
 generalize (Items.d out).tot = t1 at *
 refine ret_of hp rfl rfl ?_
 conv=>whnf
 refine ⟨_,c1 left h0 (by omega) _,?_⟩
 conv=>whnf
 refine bsel_intro (fun g0=>?_) (fun g0=>?_)
 ·have : left < ((t1 : Nat) : Int):=(szR_lt h0).1 (by simpa using g0)
  conv=>whnf
  exact fin_int (by unfold szR; rw [if_pos this])
 ·conv=>whnf
  exact fin_int rfl
theorem szPastS_r1 (hp : Okp pr) (xs : List Past) (left : Int) (h0 : 0 ≤ left) (h1 : left ≤ 1048576) (hl : xs.length ≤ maxI)
  (ih : ∀ x ∈ xs,∀ left : Int,0 ≤ left → left ≤ 1048576 → Ret pr 171 [Past.enc x,i64 left] (i64 (szR left (Past.d x).tot))) : Ret pr 136 [.sl (xs.map Past.enc),i64 left] (i64 (szR left (xs.length + Dat.tots (xs.map Past.d)))):=by
   have hel : (xs.map Past.enc).length = xs.length:=List.length_map _
   have hw:=szR_wrap (k:=(xs.map Past.enc).length) h0 h1 (by rw [hel]; exact hl)
   refine ret_of hp rfl rfl ?_
   conv=>whnf
   refine bsel_intro (fun g0=>?_) (fun g0=>?_)
   ·have : left < xs.length:=by rw [hw,hel] at g0; simp at g0; omega
    conv=>whnf
    exact fin_int (szR_neg this).symm
   ·have hge : ¬ left < xs.length:=by rw [hw,hel] at g0; simp at g0; omega
    conv=>whnf
    refine loop_rule (fun m st=>∃ j : Nat,j + m = xs.length ∧ ¬ (left - xs.length) < Dat.tots ((xs.take j).map Past.d) ∧ st.tm 0 = .sl (xs.map Past.enc) ∧ st.tm 1 = i64 (left - xs.length - Dat.tots ((xs.take j).map Past.d)) ∧ st.tm 5 = i64 (j : Nat) ∧ st.hp = []) (fun m st hI=>?_) xs.length _ ⟨0,by simp,by simp [Dat.tots]; omega,rfl,?_,rfl,rfl⟩
    rotate_left
    ·refine Eq.trans (b:=AVal.int .i64 (IntKind.i64.wrap (left - ((xs.map Past.enc).length : Nat)))) ?_ ?_
     ·kernel_rfl
     ·rw [hw,hel]; simp [i64,Dat.tots]
    obtain ⟨j,hj,hnn,e0,e1,e5,hh⟩:=hI
    obtain ⟨tm,hq⟩:=st
    simp only at e0 e1 e5 hh
    subst hh
    rw [show tm = upd (upd (upd tm 0 (.sl (xs.map Past.enc))) 1 (i64 (left - xs.length - Dat.tots ((xs.take j).map Past.d)))) 5 (i64 (j : Nat)) by rw [upd_id e0,upd_id e1,upd_id e5]]
    clear e0 e1 e5
    conv=>whnf
    refine bsel_intro (fun g1=>?_) (fun g1=>?_)
    ·have hjl : j < xs.length := by have : j < (xs.map Past.enc).length := by simpa using g1
                                    omega
     have hgt : (xs.map Past.enc)[((j : Nat) : Int).toNat]? = some (Past.enc xs[j]):=by rw [Int.toNat_natCast]; simp [hjl]
     have hih:=ih xs[j] (List.getElem_mem hjl) (left - xs.length - Dat.tots ((xs.take j).map Past.d)) (by omega) (by omega)
     have hst:=tots_take Past.d xs hjl
     have hle:=tots_take_le Past.d xs (j + 1)
     generalize xs[j] = q at hgt hih hst
     have hqs : (Past.d q).tot = (Past.d q).tot:=rfl
     generalize hsz : (Past.d q).tot = z at hih hst
     clear hqs hsz
     obtain ⟨t,out⟩:=q
     conv=>whnf
     refine ⟨_,hgt,by omega,rfl,?_⟩
     conv=>whnf
     refine ⟨_,hih _,?_⟩
     conv=>whnf
     refine bsel_intro (fun g2=>?_) (fun g2=>?_)
     ·have g3 : szR (left - xs.length - Dat.tots ((xs.take j).map Past.d)) z < 0:=of_decide_eq_true g2
      have g2' : left - xs.length - Dat.tots ((xs.take j).map Past.d) < z:=by
       unfold szR at g3; split at g3 <;> omega
      conv=>whnf
      exact fin_int (by unfold szR; rw [if_pos (by omega)])
     ·have g2' : ¬ left - xs.length - Dat.tots ((xs.take j).map Past.d) < z:=by
       have g3 : ¬ szR (left - xs.length - Dat.tots ((xs.take j).map Past.d)) z < 0:=of_decide_eq_false g2
       intro hlt; apply g3; unfold szR; rw [if_pos hlt]; omega
      conv=>whnf
      refine ⟨m - 1,by omega,j + 1,by omega,by rw [hst]; omega,rfl,?_,nat_step j (by omega),rfl⟩
      refine Eq.trans (b:=i64 (szR (left - xs.length - Dat.tots ((xs.take j).map Past.d)) z)) (by kernel_rfl) ?_
      congr 1
      unfold szR
      rw [if_neg g2',hst]
      omega
    ·have hje : j = xs.length:=by
      have : ¬ j < (xs.map Past.enc).length:=by simpa using g1
      omega
     subst hje
     rw [List.take_length] at hnn
     conv=>whnf
     exact fin_int (by unfold szR; rw [if_neg (by omega),List.take_length]; omega)
theorem szView_r (hp : Okp pr) (x : View) (hf : x.d.fits) (left : Int) (h0 : 0 ≤ left) (h1 : left ≤ 1048576) : Ret pr 93 [x.enc,i64 left] (i64 (szR left x.d.tot)):=by
 obtain ⟨f,since,base,pasts⟩:=x
 simp only [View.d,Dat.fits,Dat.fitss,List.length_map] at hf
 obtain ⟨f1,_,f2,⟨f3,f4⟩,_⟩:=hf
 have c1:=fun l h0 h1=>szFlow_r hp f f1 l h0 h1
 have c2:=fun l h0 h1=>szItemS_r hp base f2 l h0 h1
 have c3:=fun l h0 h1=>szPastS_r1 hp pasts l h0 h1 f3 fun x hx l h0 h1=>szPast_r hp x (fitss_map f4 x hx) l h0 h1
 have hsz : (View.mk f since base pasts).d.tot = f.d.tot + ((Items.d base).tot + (pasts.length + Dat.tots (pasts.map Past.d))):=by simp only [View.d,Dat.tot,Dat.tots,List.length_map]; omega
 rw [hsz]
 generalize f.d.tot = t1 at *
 generalize (Items.d base).tot = t2 at *
 generalize pasts.length + Dat.tots (pasts.map Past.d) = t3 at *
 clear hsz f1 f2 f3 f4
 obtain ⟨⟨kind,n,test,cells,a,b,keys,agg,col,kids⟩,l,r,ks⟩:=f
 refine ret_of hp rfl rfl ?_
 conv=>whnf
 refine ⟨_,c1 left h0 (by omega) _,?_⟩
 conv=>whnf
 refine bsel_intro (fun g0=>?_) (fun g0=>?_)
 ·have : left < ((t1 : Nat) : Int):=(szR_lt h0).1 (by simpa using g0)
  conv=>whnf
  exact fin_int (szR_neg this).symm
 ·have g0' : ¬ left < ((t1 : Nat) : Int):=fun h=>by have:=(szR_lt h0).2 h; simp at g0; omega
  rw [← szR_add g0']
  rw [szR_ge g0'] at *
  generalize hl0 : left - ((t1 : Nat) : Int) = l0 at *
  have l00 : 0 ≤ l0:=by omega
  conv=>whnf
  refine ⟨_,c2 l0 l00 (by omega) _,?_⟩
  conv=>whnf
  refine bsel_intro (fun g1=>?_) (fun g1=>?_)
  ·have : l0 < ((t2 : Nat) : Int):=(szR_lt l00).1 (by simpa using g1)
   conv=>whnf
   exact fin_int (szR_neg this).symm
  ·have g1' : ¬ l0 < ((t2 : Nat) : Int):=fun h=>by have:=(szR_lt l00).2 h; simp at g1; omega
   rw [← szR_add g1']
   rw [szR_ge g1'] at *
   generalize hl1 : l0 - ((t2 : Nat) : Int) = l1 at *
   have l10 : 0 ≤ l1:=by omega
   conv=>whnf
   refine ⟨_,c3 l1 l10 (by omega) _,?_⟩
   conv=>whnf
   refine bsel_intro (fun g2=>?_) (fun g2=>?_)
   ·have : l1 < ((t3 : Nat) : Int):=(szR_lt l10).1 (by simpa using g2)
    conv=>whnf
    exact fin_int (by unfold szR; rw [if_pos this])
   ·conv=>whnf
    exact fin_int rfl
theorem szViewS_r1 (hp : Okp pr) (xs : List View) (left : Int) (h0 : 0 ≤ left) (h1 : left ≤ 1048576) (hl : xs.length ≤ maxI)
  (ih : ∀ x ∈ xs,∀ left : Int,0 ≤ left → left ≤ 1048576 → Ret pr 93 [View.enc x,i64 left] (i64 (szR left (View.d x).tot))) : Ret pr 45 [.sl (xs.map View.enc),i64 left] (i64 (szR left (xs.length + Dat.tots (xs.map View.d)))):=by
   have hel : (xs.map View.enc).length = xs.length:=List.length_map _
   have hw:=szR_wrap (k:=(xs.map View.enc).length) h0 h1 (by rw [hel]; exact hl)
   refine ret_of hp rfl rfl ?_
   conv=>whnf
   refine bsel_intro (fun g0=>?_) (fun g0=>?_)
   ·have : left < xs.length:=by rw [hw,hel] at g0; simp at g0; omega
    conv=>whnf
    exact fin_int (szR_neg this).symm
   ·have hge : ¬ left < xs.length:=by rw [hw,hel] at g0; simp at g0; omega
    conv=>whnf
    refine loop_rule (fun m st=>∃ j : Nat,j + m = xs.length ∧ ¬ (left - xs.length) < Dat.tots ((xs.take j).map View.d) ∧ st.tm 0 = .sl (xs.map View.enc) ∧ st.tm 1 = i64 (left - xs.length - Dat.tots ((xs.take j).map View.d)) ∧ st.tm 5 = i64 (j : Nat) ∧ st.hp = []) (fun m st hI=>?_) xs.length _ ⟨0,by simp,by simp [Dat.tots]; omega,rfl,?_,rfl,rfl⟩
    rotate_left
    ·refine Eq.trans (b:=AVal.int .i64 (IntKind.i64.wrap (left - ((xs.map View.enc).length : Nat)))) ?_ ?_
     ·kernel_rfl
     ·rw [hw,hel]; simp [i64,Dat.tots]
    obtain ⟨j,hj,hnn,e0,e1,e5,hh⟩:=hI
    obtain ⟨tm,hq⟩:=st
    simp only at e0 e1 e5 hh
    subst hh
    rw [show tm = upd (upd (upd tm 0 (.sl (xs.map View.enc))) 1 (i64 (left - xs.length - Dat.tots ((xs.take j).map View.d)))) 5 (i64 (j : Nat)) by rw [upd_id e0,upd_id e1,upd_id e5]]
    clear e0 e1 e5
    conv=>whnf
    refine bsel_intro (fun g1=>?_) (fun g1=>?_)
    ·have hjl : j < xs.length := by have : j < (xs.map View.enc).length := by simpa using g1
                                    omega
     have hgt : (xs.map View.enc)[((j : Nat) : Int).toNat]? = some (View.enc xs[j]):=by rw [Int.toNat_natCast]; simp [hjl]
     have hih:=ih xs[j] (List.getElem_mem hjl) (left - xs.length - Dat.tots ((xs.take j).map View.d)) (by omega) (by omega)
     have hst:=tots_take View.d xs hjl
     have hle:=tots_take_le View.d xs (j + 1)
     generalize xs[j] = q at hgt hih hst
     have hqs : (View.d q).tot = (View.d q).tot:=rfl
     generalize hsz : (View.d q).tot = z at hih hst
     clear hqs hsz
     obtain ⟨⟨⟨kind,n,test,cells,a,b,keys,agg,col,kids⟩,l,r,ks⟩,since,base,pasts⟩:=q
     conv=>whnf
     refine ⟨_,hgt,by omega,rfl,?_⟩
     conv=>whnf
     refine ⟨_,hih _,?_⟩
     conv=>whnf
     refine bsel_intro (fun g2=>?_) (fun g2=>?_)
     ·have g3 : szR (left - xs.length - Dat.tots ((xs.take j).map View.d)) z < 0:=of_decide_eq_true g2
      have g2' : left - xs.length - Dat.tots ((xs.take j).map View.d) < z:=by
       unfold szR at g3; split at g3 <;> omega
      conv=>whnf
      exact fin_int (by unfold szR; rw [if_pos (by omega)])
     ·have g2' : ¬ left - xs.length - Dat.tots ((xs.take j).map View.d) < z:=by
       have g3 : ¬ szR (left - xs.length - Dat.tots ((xs.take j).map View.d)) z < 0:=of_decide_eq_false g2
       intro hlt; apply g3; unfold szR; rw [if_pos hlt]; omega
      conv=>whnf
      refine ⟨m - 1,by omega,j + 1,by omega,by rw [hst]; omega,rfl,?_,nat_step j (by omega),rfl⟩
      refine Eq.trans (b:=i64 (szR (left - xs.length - Dat.tots ((xs.take j).map View.d)) z)) (by kernel_rfl) ?_
      congr 1
      unfold szR
      rw [if_neg g2',hst]
      omega
    ·have hje : j = xs.length:=by
      have : ¬ j < (xs.map View.enc).length:=by simpa using g1
      omega
     subst hje
     rw [List.take_length] at hnn
     conv=>whnf
     exact fin_int (by unfold szR; rw [if_neg (by omega),List.take_length]; omega)
theorem szStore_r (hp : Okp pr) (x : Store) (hf : x.d.fits) (left : Int) (h0 : 0 ≤ left) (h1 : left ≤ 1048576) : Ret pr 13 [x.enc,i64 left] (i64 (szR left x.d.tot)):=by
 obtain ⟨ws,ts,vs,now,keep⟩:=x
 simp only [Store.d,Ints.d,Dat.fits,Dat.fitss,List.length_map] at hf
 obtain ⟨⟨f1,_⟩,f2,⟨f3,f4⟩,_⟩:=hf
 have c1:=fun l h0 h1=>szIntS_r hp ws l h0 h1 f1
 have c2:=fun l h0 h1=>szItemSS_r hp ts f2 l h0 h1
 have c3:=fun l h0 h1=>szViewS_r1 hp vs l h0 h1 f3 fun x hx l h0 h1=>szView_r hp x (fitss_map f4 x hx) l h0 h1
 have hz : ∀ ys : List Int,Dat.tots (ys.map Dat.i) = 0:=fun ys=>by induction ys with | nil=>rfl | cons y ys ih=>simp [Dat.tots,Dat.tot,ih]
 have hsz : (Store.mk ws ts vs now keep).d.tot = ws.length + ((Runs.d ts).tot + (vs.length + Dat.tots (vs.map View.d))):=by simp only [Store.d,Ints.d,Dat.tot,Dat.tots,List.length_map,hz]; omega
 rw [hsz]
 generalize (Runs.d ts).tot = t2 at *
 generalize vs.length + Dat.tots (vs.map View.d) = t3 at *
 clear hsz f1 f2 f3 f4
 refine ret_of hp rfl rfl ?_
 conv=>whnf
 refine ⟨_,c1 left h0 (by omega) _,?_⟩
 conv=>whnf
 refine bsel_intro (fun g0=>?_) (fun g0=>?_)
 ·have : left < ((ws.length : Nat) : Int):=(szR_lt h0).1 (by simpa using g0)
  conv=>whnf
  exact fin_int (szR_neg this).symm
 ·have g0' : ¬ left < ((ws.length : Nat) : Int):=fun h=>by have:=(szR_lt h0).2 h; simp at g0; omega
  rw [← szR_add g0']
  rw [szR_ge g0'] at *
  generalize hl0 : left - ((ws.length : Nat) : Int) = l0 at *
  have l00 : 0 ≤ l0:=by omega
  conv=>whnf
  refine ⟨_,c2 l0 l00 (by omega) _,?_⟩
  conv=>whnf
  refine bsel_intro (fun g1=>?_) (fun g1=>?_)
  ·have : l0 < ((t2 : Nat) : Int):=(szR_lt l00).1 (by simpa using g1)
   conv=>whnf
   exact fin_int (szR_neg this).symm
  ·have g1' : ¬ l0 < ((t2 : Nat) : Int):=fun h=>by have:=(szR_lt l00).2 h; simp at g1; omega
   rw [← szR_add g1']
   rw [szR_ge g1'] at *
   generalize hl1 : l0 - ((t2 : Nat) : Int) = l1 at *
   have l10 : 0 ≤ l1:=by omega
   conv=>whnf
   refine ⟨_,c3 l1 l10 (by omega) _,?_⟩
   conv=>whnf
   refine bsel_intro (fun g2=>?_) (fun g2=>?_)
   ·have : l1 < ((t3 : Nat) : Int):=(szR_lt l10).1 (by simpa using g2)
    conv=>whnf
    exact fin_int (by unfold szR; rw [if_pos this])
   ·conv=>whnf
    exact fin_int rfl
end Go.Proofs.YtncgofhhnhebjaaGreat

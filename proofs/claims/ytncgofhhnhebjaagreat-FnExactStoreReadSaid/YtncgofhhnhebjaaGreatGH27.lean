/- The look at every function of the seat. -/
import Derived.Test.YtncgofhhnhebjaaGreatGH25
import Derived.Test.YtncgofhhnhebjaaGreatGH14
set_option linter.unusedVariables false
set_option linter.unusedSimpArgs false
/- The reference's form of plans; SlimOnce. -/
set_option maxHeartbeats 4000000
namespace Go.Proofs.YtncgofhhnhebjaaGreat
open Go Go.Am
variable {pr : Prims} (hp : Okp pr)
set_option maxRecDepth 100000
def own : Plan → Bool
 | .mk kind n test cells a b keys agg c _=>
  if kind = 1 then decide (0 ≤ n) && decide (n < 3)
  else if kind = 2 then testOk test 6
  else if kind = 3 then cellsOk cells 6
  else if kind = 4 then col a 6 && col b 6
  else if kind = 7 then keysOk keys 6 && (decide (0 ≤ agg) && (decide (agg ≤ 3) && col c 6))
  else true
def form : Nat → Plan → Bool
 | 0,_=>false
 | d + 1,p=>(kidsN p.kind == p.kids.length) && (clean p && (own p && p.kids.all (form d)))
theorem wrap_pred (d : Nat) (h : d < 4611686018427387904) : AVal.int .i64 (IntKind.i64.wrap (((d + 1 : Nat) : Int) - 1)) = i64 (d : Nat):=by
 have : IntKind.i64.wrap (((d + 1 : Nat) : Int) - 1) = (d : Nat):=by rw [IntKind.wrap_i64]; omega
 rw [this]; rfl
set_option maxHeartbeats 4000000 in
theorem l4Form_r (hp : Okp pr) : ∀ (d : Nat) (p : Plan),p.small → d ≤ 6 → Ret pr 165 [p.enc,i64 d] (.bool (form d p)):=by
 intro d
 induction d with
 | zero=>
  intro p hsm _
  obtain ⟨kind,n,test,cells,a,b,keys,agg,c,kids⟩:=p
  refine ret_of hp rfl rfl ?_
  conv=>whnf
  exact fin_bool rfl
 | succ d ih=>
  intro p hsm hd
  obtain ⟨kind,n,test,cells,a,b,keys,agg,c,kids⟩:=p
  obtain ⟨hsc,hsk,hskids,hsks⟩:=small_split hsm
  have hd0 : decide (((d + 1 : Nat) : Int) < 1) = false:=by simp; omega
  have hw:=wrap_pred d (by omega)
  have hihd:=fun (q : Plan) (hq : q ∈ kids)=>hw ▸ ih q (hsks q hq) (by omega)
  have hel:=encs_len kids
  refine ret_of hp rfl rfl ?_
  have hkids:=l4Kids_r hp kind
  have hcl:=l4Clean_r hp (.mk kind n test cells a b keys agg c kids)
  have hto:=sTestOk_r hp test 6
  have hce:=l4Cells_r hp cells 6 hsc
  have hke:=l4Keys_r hp keys 6 hsk
  have hco:=fun n=>l3Col_r hp n 6
  rcases kind_cases kind with rfl | rfl | rfl | rfl | rfl | rfl | rfl | ⟨h1,h2,h3,h4,h5,h6,h7⟩
  ·iterate 16
    all_goals (try (conv=>whnf))
    all_goals (first | (refine bsel_false hd0 ?_) | (refine bsel_false h1 ?_) | (refine bsel_false h2 ?_) | (refine bsel_false h3 ?_) | (refine bsel_false h4 ?_) | (refine bsel_false h7 ?_) | (refine bsel_intro (fun hb=>?_) (fun hb=>?_)) | (refine ⟨_,hkids _,?_⟩) | (refine ⟨_,hcl _,?_⟩) | (refine ⟨_,hto _,?_⟩) | (refine ⟨_,hce _,?_⟩) | (refine ⟨_,hke _,?_⟩) | (refine ⟨_,hco _ _,?_⟩) | skip)
   all_goals (first
    | exact fin_bool (by clear ih hihd hkids hcl hto hce hke hco hw hsks hsm; simp only [form,Plan.kind,Plan.kids]; rw [hel] at *; simp_all; done)
    | skip)
   all_goals
    refine loop_rule (fun m st=>∃ (j : Nat) (ok : Bool),j + m = kids.length ∧ st.tm 1 = i64 ((d + 1 : Nat) : Int) ∧ st.tm 2 = .ptr 0 0 0 ∧ st.tm 5 = .bool ok ∧ st.tm 6 = i64 (j : Nat) ∧ st.hp = [.box (Plan.mk 1 n test cells a b keys agg c kids).enc] ∧ (own (Plan.mk 1 n test cells a b keys agg c kids) && kids.all (form d)) = (ok && (kids.drop j).all (form d))) (fun m st hI=>?_) kids.length _ ⟨0,_,by simp,rfl,rfl,rfl,rfl,rfl,by clear ih hihd hkids hcl hto hce hke hco hw hsks hsm hel hsc hsk hskids hd0; first | (simp_all [own]; done) | (simp_all [own]; intros; omega)⟩
    have hform : form (d + 1) (Plan.mk 1 n test cells a b keys agg c kids) = (own (Plan.mk 1 n test cells a b keys agg c kids) && kids.all (form d)):=by
     clear ih hihd hkids hcl hto hce hke hco hw hsks hsm hI
     simp only [form,Plan.kind,Plan.kids]
     rw [hel] at *
     simp_all
    obtain ⟨j,ok,hj,e1,e2,e5,e6,hh,hall⟩:=hI
    rw [hform]
    obtain ⟨tm,hq⟩:=st
    simp only at e1 e2 e5 e6 hh
    subst hh
    rw [show tm = upd (upd (upd (upd tm 1 (i64 ((d + 1 : Nat) : Int))) 2 (.ptr 0 0 0)) 5 (.bool ok)) 6 (i64 (j : Nat)) by rw [upd_id e1,upd_id e2,upd_id e5,upd_id e6]]
    clear e1 e2 e5 e6
    conv=>whnf
    refine bsel_intro (fun g1=>?_) (fun g1=>?_)
    ·have hjl : j < kids.length := by have : j < (Plan.encs kids).length := by simpa using g1
                                      omega
     conv=>whnf
     refine bsel_intro (fun g2=>?_) (fun g2=>?_)
     ·have hok : ok = true:=g2
      subst hok
      rw [List.drop_eq_getElem_cons hjl,List.all_cons] at hall
      have hih:=hihd kids[j] (List.getElem_mem hjl)
      have hge : (Plan.encs kids)[((j : Nat) : Int).toNat]? = some kids[j].enc:=by rw [Int.toNat_natCast,encs_get,List.getElem?_eq_getElem hjl]; rfl
      generalize kids[j] = q at hih hge hall
      obtain ⟨kind',n',test',cells',a',b',keys',agg',c',kids'⟩:=q
      conv=>whnf
      refine ⟨_,hge,by omega,rfl,?_⟩
      conv=>whnf
      refine ⟨_,hih _,?_⟩
      conv=>whnf
      refine bsel_intro (fun g3=>?_) (fun g3=>?_)
      ·conv=>whnf
       exact ⟨m - 1,by omega,j + 1,true,by omega,rfl,rfl,rfl,nat_step j (by omega),rfl,by rw [hall,g3]; rfl⟩
      ·conv=>whnf
       exact ⟨m - 1,by omega,j + 1,false,by omega,rfl,rfl,rfl,nat_step j (by omega),rfl,by rw [hall,g3]; rfl⟩
     ·have hok : ok = false:=g2
      subst hok
      conv=>whnf
      exact fin_bool (by rw [hall]; rfl)
    ·have hjl : j = kids.length := by have : ¬ j < (Plan.encs kids).length := by simpa using g1
                                      omega
     subst hjl
     rw [List.drop_length] at hall
     conv=>whnf
     exact fin_bool (by rw [hall]; simp)
  ·iterate 16
    all_goals (try (conv=>whnf))
    all_goals (first | (refine bsel_false hd0 ?_) | (refine bsel_false h1 ?_) | (refine bsel_false h2 ?_) | (refine bsel_false h3 ?_) | (refine bsel_false h4 ?_) | (refine bsel_false h7 ?_) | (refine bsel_intro (fun hb=>?_) (fun hb=>?_)) | (refine ⟨_,hkids _,?_⟩) | (refine ⟨_,hcl _,?_⟩) | (refine ⟨_,hto _,?_⟩) | (refine ⟨_,hce _,?_⟩) | (refine ⟨_,hke _,?_⟩) | (refine ⟨_,hco _ _,?_⟩) | skip)
   all_goals (first
    | exact fin_bool (by clear ih hihd hkids hcl hto hce hke hco hw hsks hsm; simp only [form,Plan.kind,Plan.kids]; rw [hel] at *; simp_all; done)
    | skip)
   all_goals
    refine loop_rule (fun m st=>∃ (j : Nat) (ok : Bool),j + m = kids.length ∧ st.tm 1 = i64 ((d + 1 : Nat) : Int) ∧ st.tm 2 = .ptr 0 0 0 ∧ st.tm 5 = .bool ok ∧ st.tm 6 = i64 (j : Nat) ∧ st.hp = [.box (Plan.mk 2 n test cells a b keys agg c kids).enc] ∧ (own (Plan.mk 2 n test cells a b keys agg c kids) && kids.all (form d)) = (ok && (kids.drop j).all (form d))) (fun m st hI=>?_) kids.length _ ⟨0,_,by simp,rfl,rfl,rfl,rfl,rfl,by clear ih hihd hkids hcl hto hce hke hco hw hsks hsm hel hsc hsk hskids hd0; first | (simp_all [own]; done) | (simp_all [own]; intros; omega)⟩
    have hform : form (d + 1) (Plan.mk 2 n test cells a b keys agg c kids) = (own (Plan.mk 2 n test cells a b keys agg c kids) && kids.all (form d)):=by
     clear ih hihd hkids hcl hto hce hke hco hw hsks hsm hI
     simp only [form,Plan.kind,Plan.kids]
     rw [hel] at *
     simp_all
    obtain ⟨j,ok,hj,e1,e2,e5,e6,hh,hall⟩:=hI
    rw [hform]
    obtain ⟨tm,hq⟩:=st
    simp only at e1 e2 e5 e6 hh
    subst hh
    rw [show tm = upd (upd (upd (upd tm 1 (i64 ((d + 1 : Nat) : Int))) 2 (.ptr 0 0 0)) 5 (.bool ok)) 6 (i64 (j : Nat)) by rw [upd_id e1,upd_id e2,upd_id e5,upd_id e6]]
    clear e1 e2 e5 e6
    conv=>whnf
    refine bsel_intro (fun g1=>?_) (fun g1=>?_)
    ·have hjl : j < kids.length := by have : j < (Plan.encs kids).length := by simpa using g1
                                      omega
     conv=>whnf
     refine bsel_intro (fun g2=>?_) (fun g2=>?_)
     ·have hok : ok = true:=g2
      subst hok
      rw [List.drop_eq_getElem_cons hjl,List.all_cons] at hall
      have hih:=hihd kids[j] (List.getElem_mem hjl)
      have hge : (Plan.encs kids)[((j : Nat) : Int).toNat]? = some kids[j].enc:=by rw [Int.toNat_natCast,encs_get,List.getElem?_eq_getElem hjl]; rfl
      generalize kids[j] = q at hih hge hall
      obtain ⟨kind',n',test',cells',a',b',keys',agg',c',kids'⟩:=q
      conv=>whnf
      refine ⟨_,hge,by omega,rfl,?_⟩
      conv=>whnf
      refine ⟨_,hih _,?_⟩
      conv=>whnf
      refine bsel_intro (fun g3=>?_) (fun g3=>?_)
      ·conv=>whnf
       exact ⟨m - 1,by omega,j + 1,true,by omega,rfl,rfl,rfl,nat_step j (by omega),rfl,by rw [hall,g3]; rfl⟩
      ·conv=>whnf
       exact ⟨m - 1,by omega,j + 1,false,by omega,rfl,rfl,rfl,nat_step j (by omega),rfl,by rw [hall,g3]; rfl⟩
     ·have hok : ok = false:=g2
      subst hok
      conv=>whnf
      exact fin_bool (by rw [hall]; rfl)
    ·have hjl : j = kids.length := by have : ¬ j < (Plan.encs kids).length := by simpa using g1
                                      omega
     subst hjl
     rw [List.drop_length] at hall
     conv=>whnf
     exact fin_bool (by rw [hall]; simp)
  ·iterate 16
    all_goals (try (conv=>whnf))
    all_goals (first | (refine bsel_false hd0 ?_) | (refine bsel_false h1 ?_) | (refine bsel_false h2 ?_) | (refine bsel_false h3 ?_) | (refine bsel_false h4 ?_) | (refine bsel_false h7 ?_) | (refine bsel_intro (fun hb=>?_) (fun hb=>?_)) | (refine ⟨_,hkids _,?_⟩) | (refine ⟨_,hcl _,?_⟩) | (refine ⟨_,hto _,?_⟩) | (refine ⟨_,hce _,?_⟩) | (refine ⟨_,hke _,?_⟩) | (refine ⟨_,hco _ _,?_⟩) | skip)
   all_goals (first
    | exact fin_bool (by clear ih hihd hkids hcl hto hce hke hco hw hsks hsm; simp only [form,Plan.kind,Plan.kids]; rw [hel] at *; simp_all; done)
    | skip)
   all_goals
    refine loop_rule (fun m st=>∃ (j : Nat) (ok : Bool),j + m = kids.length ∧ st.tm 1 = i64 ((d + 1 : Nat) : Int) ∧ st.tm 2 = .ptr 0 0 0 ∧ st.tm 5 = .bool ok ∧ st.tm 6 = i64 (j : Nat) ∧ st.hp = [.box (Plan.mk 3 n test cells a b keys agg c kids).enc] ∧ (own (Plan.mk 3 n test cells a b keys agg c kids) && kids.all (form d)) = (ok && (kids.drop j).all (form d))) (fun m st hI=>?_) kids.length _ ⟨0,_,by simp,rfl,rfl,rfl,rfl,rfl,by clear ih hihd hkids hcl hto hce hke hco hw hsks hsm hel hsc hsk hskids hd0; first | (simp_all [own]; done) | (simp_all [own]; intros; omega)⟩
    have hform : form (d + 1) (Plan.mk 3 n test cells a b keys agg c kids) = (own (Plan.mk 3 n test cells a b keys agg c kids) && kids.all (form d)):=by
     clear ih hihd hkids hcl hto hce hke hco hw hsks hsm hI
     simp only [form,Plan.kind,Plan.kids]
     rw [hel] at *
     simp_all
    obtain ⟨j,ok,hj,e1,e2,e5,e6,hh,hall⟩:=hI
    rw [hform]
    obtain ⟨tm,hq⟩:=st
    simp only at e1 e2 e5 e6 hh
    subst hh
    rw [show tm = upd (upd (upd (upd tm 1 (i64 ((d + 1 : Nat) : Int))) 2 (.ptr 0 0 0)) 5 (.bool ok)) 6 (i64 (j : Nat)) by rw [upd_id e1,upd_id e2,upd_id e5,upd_id e6]]
    clear e1 e2 e5 e6
    conv=>whnf
    refine bsel_intro (fun g1=>?_) (fun g1=>?_)
    ·have hjl : j < kids.length := by have : j < (Plan.encs kids).length := by simpa using g1
                                      omega
     conv=>whnf
     refine bsel_intro (fun g2=>?_) (fun g2=>?_)
     ·have hok : ok = true:=g2
      subst hok
      rw [List.drop_eq_getElem_cons hjl,List.all_cons] at hall
      have hih:=hihd kids[j] (List.getElem_mem hjl)
      have hge : (Plan.encs kids)[((j : Nat) : Int).toNat]? = some kids[j].enc:=by rw [Int.toNat_natCast,encs_get,List.getElem?_eq_getElem hjl]; rfl
      generalize kids[j] = q at hih hge hall
      obtain ⟨kind',n',test',cells',a',b',keys',agg',c',kids'⟩:=q
      conv=>whnf
      refine ⟨_,hge,by omega,rfl,?_⟩
      conv=>whnf
      refine ⟨_,hih _,?_⟩
      conv=>whnf
      refine bsel_intro (fun g3=>?_) (fun g3=>?_)
      ·conv=>whnf
       exact ⟨m - 1,by omega,j + 1,true,by omega,rfl,rfl,rfl,nat_step j (by omega),rfl,by rw [hall,g3]; rfl⟩
      ·conv=>whnf
       exact ⟨m - 1,by omega,j + 1,false,by omega,rfl,rfl,rfl,nat_step j (by omega),rfl,by rw [hall,g3]; rfl⟩
     ·have hok : ok = false:=g2
      subst hok
      conv=>whnf
      exact fin_bool (by rw [hall]; rfl)
    ·have hjl : j = kids.length := by have : ¬ j < (Plan.encs kids).length := by simpa using g1
                                      omega
     subst hjl
     rw [List.drop_length] at hall
     conv=>whnf
     exact fin_bool (by rw [hall]; simp)
  ·iterate 16
    all_goals (try (conv=>whnf))
    all_goals (first | (refine bsel_false hd0 ?_) | (refine bsel_false h1 ?_) | (refine bsel_false h2 ?_) | (refine bsel_false h3 ?_) | (refine bsel_false h4 ?_) | (refine bsel_false h7 ?_) | (refine bsel_intro (fun hb=>?_) (fun hb=>?_)) | (refine ⟨_,hkids _,?_⟩) | (refine ⟨_,hcl _,?_⟩) | (refine ⟨_,hto _,?_⟩) | (refine ⟨_,hce _,?_⟩) | (refine ⟨_,hke _,?_⟩) | (refine ⟨_,hco _ _,?_⟩) | skip)
   all_goals (first
    | exact fin_bool (by clear ih hihd hkids hcl hto hce hke hco hw hsks hsm; simp only [form,Plan.kind,Plan.kids]; rw [hel] at *; simp_all; done)
    | skip)
   all_goals
    refine loop_rule (fun m st=>∃ (j : Nat) (ok : Bool),j + m = kids.length ∧ st.tm 1 = i64 ((d + 1 : Nat) : Int) ∧ st.tm 2 = .ptr 0 0 0 ∧ st.tm 5 = .bool ok ∧ st.tm 6 = i64 (j : Nat) ∧ st.hp = [.box (Plan.mk 4 n test cells a b keys agg c kids).enc] ∧ (own (Plan.mk 4 n test cells a b keys agg c kids) && kids.all (form d)) = (ok && (kids.drop j).all (form d))) (fun m st hI=>?_) kids.length _ ⟨0,_,by simp,rfl,rfl,rfl,rfl,rfl,by clear ih hihd hkids hcl hto hce hke hco hw hsks hsm hel hsc hsk hskids hd0; first | (simp_all [own]; done) | (simp_all [own]; intros; omega)⟩
    have hform : form (d + 1) (Plan.mk 4 n test cells a b keys agg c kids) = (own (Plan.mk 4 n test cells a b keys agg c kids) && kids.all (form d)):=by
     clear ih hihd hkids hcl hto hce hke hco hw hsks hsm hI
     simp only [form,Plan.kind,Plan.kids]
     rw [hel] at *
     simp_all
    obtain ⟨j,ok,hj,e1,e2,e5,e6,hh,hall⟩:=hI
    rw [hform]
    obtain ⟨tm,hq⟩:=st
    simp only at e1 e2 e5 e6 hh
    subst hh
    rw [show tm = upd (upd (upd (upd tm 1 (i64 ((d + 1 : Nat) : Int))) 2 (.ptr 0 0 0)) 5 (.bool ok)) 6 (i64 (j : Nat)) by rw [upd_id e1,upd_id e2,upd_id e5,upd_id e6]]
    clear e1 e2 e5 e6
    conv=>whnf
    refine bsel_intro (fun g1=>?_) (fun g1=>?_)
    ·have hjl : j < kids.length := by have : j < (Plan.encs kids).length := by simpa using g1
                                      omega
     conv=>whnf
     refine bsel_intro (fun g2=>?_) (fun g2=>?_)
     ·have hok : ok = true:=g2
      subst hok
      rw [List.drop_eq_getElem_cons hjl,List.all_cons] at hall
      have hih:=hihd kids[j] (List.getElem_mem hjl)
      have hge : (Plan.encs kids)[((j : Nat) : Int).toNat]? = some kids[j].enc:=by rw [Int.toNat_natCast,encs_get,List.getElem?_eq_getElem hjl]; rfl
      generalize kids[j] = q at hih hge hall
      obtain ⟨kind',n',test',cells',a',b',keys',agg',c',kids'⟩:=q
      conv=>whnf
      refine ⟨_,hge,by omega,rfl,?_⟩
      conv=>whnf
      refine ⟨_,hih _,?_⟩
      conv=>whnf
      refine bsel_intro (fun g3=>?_) (fun g3=>?_)
      ·conv=>whnf
       exact ⟨m - 1,by omega,j + 1,true,by omega,rfl,rfl,rfl,nat_step j (by omega),rfl,by rw [hall,g3]; rfl⟩
      ·conv=>whnf
       exact ⟨m - 1,by omega,j + 1,false,by omega,rfl,rfl,rfl,nat_step j (by omega),rfl,by rw [hall,g3]; rfl⟩
     ·have hok : ok = false:=g2
      subst hok
      conv=>whnf
      exact fin_bool (by rw [hall]; rfl)
    ·have hjl : j = kids.length := by have : ¬ j < (Plan.encs kids).length := by simpa using g1
                                      omega
     subst hjl
     rw [List.drop_length] at hall
     conv=>whnf
     exact fin_bool (by rw [hall]; simp)
  ·iterate 16
    all_goals (try (conv=>whnf))
    all_goals (first | (refine bsel_false hd0 ?_) | (refine bsel_false h1 ?_) | (refine bsel_false h2 ?_) | (refine bsel_false h3 ?_) | (refine bsel_false h4 ?_) | (refine bsel_false h7 ?_) | (refine bsel_intro (fun hb=>?_) (fun hb=>?_)) | (refine ⟨_,hkids _,?_⟩) | (refine ⟨_,hcl _,?_⟩) | (refine ⟨_,hto _,?_⟩) | (refine ⟨_,hce _,?_⟩) | (refine ⟨_,hke _,?_⟩) | (refine ⟨_,hco _ _,?_⟩) | skip)
   all_goals (first
    | exact fin_bool (by clear ih hihd hkids hcl hto hce hke hco hw hsks hsm; simp only [form,Plan.kind,Plan.kids]; rw [hel] at *; simp_all; done)
    | skip)
   all_goals
    refine loop_rule (fun m st=>∃ (j : Nat) (ok : Bool),j + m = kids.length ∧ st.tm 1 = i64 ((d + 1 : Nat) : Int) ∧ st.tm 2 = .ptr 0 0 0 ∧ st.tm 5 = .bool ok ∧ st.tm 6 = i64 (j : Nat) ∧ st.hp = [.box (Plan.mk 5 n test cells a b keys agg c kids).enc] ∧ (own (Plan.mk 5 n test cells a b keys agg c kids) && kids.all (form d)) = (ok && (kids.drop j).all (form d))) (fun m st hI=>?_) kids.length _ ⟨0,_,by simp,rfl,rfl,rfl,rfl,rfl,by clear ih hihd hkids hcl hto hce hke hco hw hsks hsm hel hsc hsk hskids hd0; first | (simp_all [own]; done) | (simp_all [own]; intros; omega)⟩
    have hform : form (d + 1) (Plan.mk 5 n test cells a b keys agg c kids) = (own (Plan.mk 5 n test cells a b keys agg c kids) && kids.all (form d)):=by
     clear ih hihd hkids hcl hto hce hke hco hw hsks hsm hI
     simp only [form,Plan.kind,Plan.kids]
     rw [hel] at *
     simp_all
    obtain ⟨j,ok,hj,e1,e2,e5,e6,hh,hall⟩:=hI
    rw [hform]
    obtain ⟨tm,hq⟩:=st
    simp only at e1 e2 e5 e6 hh
    subst hh
    rw [show tm = upd (upd (upd (upd tm 1 (i64 ((d + 1 : Nat) : Int))) 2 (.ptr 0 0 0)) 5 (.bool ok)) 6 (i64 (j : Nat)) by rw [upd_id e1,upd_id e2,upd_id e5,upd_id e6]]
    clear e1 e2 e5 e6
    conv=>whnf
    refine bsel_intro (fun g1=>?_) (fun g1=>?_)
    ·have hjl : j < kids.length := by have : j < (Plan.encs kids).length := by simpa using g1
                                      omega
     conv=>whnf
     refine bsel_intro (fun g2=>?_) (fun g2=>?_)
     ·have hok : ok = true:=g2
      subst hok
      rw [List.drop_eq_getElem_cons hjl,List.all_cons] at hall
      have hih:=hihd kids[j] (List.getElem_mem hjl)
      have hge : (Plan.encs kids)[((j : Nat) : Int).toNat]? = some kids[j].enc:=by rw [Int.toNat_natCast,encs_get,List.getElem?_eq_getElem hjl]; rfl
      generalize kids[j] = q at hih hge hall
      obtain ⟨kind',n',test',cells',a',b',keys',agg',c',kids'⟩:=q
      conv=>whnf
      refine ⟨_,hge,by omega,rfl,?_⟩
      conv=>whnf
      refine ⟨_,hih _,?_⟩
      conv=>whnf
      refine bsel_intro (fun g3=>?_) (fun g3=>?_)
      ·conv=>whnf
       exact ⟨m - 1,by omega,j + 1,true,by omega,rfl,rfl,rfl,nat_step j (by omega),rfl,by rw [hall,g3]; rfl⟩
      ·conv=>whnf
       exact ⟨m - 1,by omega,j + 1,false,by omega,rfl,rfl,rfl,nat_step j (by omega),rfl,by rw [hall,g3]; rfl⟩
     ·have hok : ok = false:=g2
      subst hok
      conv=>whnf
      exact fin_bool (by rw [hall]; rfl)
    ·have hjl : j = kids.length := by have : ¬ j < (Plan.encs kids).length := by simpa using g1
                                      omega
     subst hjl
     rw [List.drop_length] at hall
     conv=>whnf
     exact fin_bool (by rw [hall]; simp)
  ·iterate 16
    all_goals (try (conv=>whnf))
    all_goals (first | (refine bsel_false hd0 ?_) | (refine bsel_false h1 ?_) | (refine bsel_false h2 ?_) | (refine bsel_false h3 ?_) | (refine bsel_false h4 ?_) | (refine bsel_false h7 ?_) | (refine bsel_intro (fun hb=>?_) (fun hb=>?_)) | (refine ⟨_,hkids _,?_⟩) | (refine ⟨_,hcl _,?_⟩) | (refine ⟨_,hto _,?_⟩) | (refine ⟨_,hce _,?_⟩) | (refine ⟨_,hke _,?_⟩) | (refine ⟨_,hco _ _,?_⟩) | skip)
   all_goals (first
    | exact fin_bool (by clear ih hihd hkids hcl hto hce hke hco hw hsks hsm; simp only [form,Plan.kind,Plan.kids]; rw [hel] at *; simp_all; done)
    | skip)
   all_goals
    refine loop_rule (fun m st=>∃ (j : Nat) (ok : Bool),j + m = kids.length ∧ st.tm 1 = i64 ((d + 1 : Nat) : Int) ∧ st.tm 2 = .ptr 0 0 0 ∧ st.tm 5 = .bool ok ∧ st.tm 6 = i64 (j : Nat) ∧ st.hp = [.box (Plan.mk 6 n test cells a b keys agg c kids).enc] ∧ (own (Plan.mk 6 n test cells a b keys agg c kids) && kids.all (form d)) = (ok && (kids.drop j).all (form d))) (fun m st hI=>?_) kids.length _ ⟨0,_,by simp,rfl,rfl,rfl,rfl,rfl,by clear ih hihd hkids hcl hto hce hke hco hw hsks hsm hel hsc hsk hskids hd0; first | (simp_all [own]; done) | (simp_all [own]; intros; omega)⟩
    have hform : form (d + 1) (Plan.mk 6 n test cells a b keys agg c kids) = (own (Plan.mk 6 n test cells a b keys agg c kids) && kids.all (form d)):=by
     clear ih hihd hkids hcl hto hce hke hco hw hsks hsm hI
     simp only [form,Plan.kind,Plan.kids]
     rw [hel] at *
     simp_all
    obtain ⟨j,ok,hj,e1,e2,e5,e6,hh,hall⟩:=hI
    rw [hform]
    obtain ⟨tm,hq⟩:=st
    simp only at e1 e2 e5 e6 hh
    subst hh
    rw [show tm = upd (upd (upd (upd tm 1 (i64 ((d + 1 : Nat) : Int))) 2 (.ptr 0 0 0)) 5 (.bool ok)) 6 (i64 (j : Nat)) by rw [upd_id e1,upd_id e2,upd_id e5,upd_id e6]]
    clear e1 e2 e5 e6
    conv=>whnf
    refine bsel_intro (fun g1=>?_) (fun g1=>?_)
    ·have hjl : j < kids.length := by have : j < (Plan.encs kids).length := by simpa using g1
                                      omega
     conv=>whnf
     refine bsel_intro (fun g2=>?_) (fun g2=>?_)
     ·have hok : ok = true:=g2
      subst hok
      rw [List.drop_eq_getElem_cons hjl,List.all_cons] at hall
      have hih:=hihd kids[j] (List.getElem_mem hjl)
      have hge : (Plan.encs kids)[((j : Nat) : Int).toNat]? = some kids[j].enc:=by rw [Int.toNat_natCast,encs_get,List.getElem?_eq_getElem hjl]; rfl
      generalize kids[j] = q at hih hge hall
      obtain ⟨kind',n',test',cells',a',b',keys',agg',c',kids'⟩:=q
      conv=>whnf
      refine ⟨_,hge,by omega,rfl,?_⟩
      conv=>whnf
      refine ⟨_,hih _,?_⟩
      conv=>whnf
      refine bsel_intro (fun g3=>?_) (fun g3=>?_)
      ·conv=>whnf
       exact ⟨m - 1,by omega,j + 1,true,by omega,rfl,rfl,rfl,nat_step j (by omega),rfl,by rw [hall,g3]; rfl⟩
      ·conv=>whnf
       exact ⟨m - 1,by omega,j + 1,false,by omega,rfl,rfl,rfl,nat_step j (by omega),rfl,by rw [hall,g3]; rfl⟩
     ·have hok : ok = false:=g2
      subst hok
      conv=>whnf
      exact fin_bool (by rw [hall]; rfl)
    ·have hjl : j = kids.length := by have : ¬ j < (Plan.encs kids).length := by simpa using g1
                                      omega
     subst hjl
     rw [List.drop_length] at hall
     conv=>whnf
     exact fin_bool (by rw [hall]; simp)
  ·iterate 16
    all_goals (try (conv=>whnf))
    all_goals (first | (refine bsel_false hd0 ?_) | (refine bsel_false h1 ?_) | (refine bsel_false h2 ?_) | (refine bsel_false h3 ?_) | (refine bsel_false h4 ?_) | (refine bsel_false h7 ?_) | (refine bsel_intro (fun hb=>?_) (fun hb=>?_)) | (refine ⟨_,hkids _,?_⟩) | (refine ⟨_,hcl _,?_⟩) | (refine ⟨_,hto _,?_⟩) | (refine ⟨_,hce _,?_⟩) | (refine ⟨_,hke _,?_⟩) | (refine ⟨_,hco _ _,?_⟩) | skip)
   all_goals (first
    | exact fin_bool (by clear ih hihd hkids hcl hto hce hke hco hw hsks hsm; simp only [form,Plan.kind,Plan.kids]; rw [hel] at *; simp_all; done)
    | skip)
   all_goals
    refine loop_rule (fun m st=>∃ (j : Nat) (ok : Bool),j + m = kids.length ∧ st.tm 1 = i64 ((d + 1 : Nat) : Int) ∧ st.tm 2 = .ptr 0 0 0 ∧ st.tm 5 = .bool ok ∧ st.tm 6 = i64 (j : Nat) ∧ st.hp = [.box (Plan.mk 7 n test cells a b keys agg c kids).enc] ∧ (own (Plan.mk 7 n test cells a b keys agg c kids) && kids.all (form d)) = (ok && (kids.drop j).all (form d))) (fun m st hI=>?_) kids.length _ ⟨0,_,by simp,rfl,rfl,rfl,rfl,rfl,by clear ih hihd hkids hcl hto hce hke hco hw hsks hsm hel hsc hsk hskids hd0; first | (simp_all [own]; done) | (simp_all [own]; intros; omega)⟩
    have hform : form (d + 1) (Plan.mk 7 n test cells a b keys agg c kids) = (own (Plan.mk 7 n test cells a b keys agg c kids) && kids.all (form d)):=by
     clear ih hihd hkids hcl hto hce hke hco hw hsks hsm hI
     simp only [form,Plan.kind,Plan.kids]
     rw [hel] at *
     simp_all
    obtain ⟨j,ok,hj,e1,e2,e5,e6,hh,hall⟩:=hI
    rw [hform]
    obtain ⟨tm,hq⟩:=st
    simp only at e1 e2 e5 e6 hh
    subst hh
    rw [show tm = upd (upd (upd (upd tm 1 (i64 ((d + 1 : Nat) : Int))) 2 (.ptr 0 0 0)) 5 (.bool ok)) 6 (i64 (j : Nat)) by rw [upd_id e1,upd_id e2,upd_id e5,upd_id e6]]
    clear e1 e2 e5 e6
    conv=>whnf
    refine bsel_intro (fun g1=>?_) (fun g1=>?_)
    ·have hjl : j < kids.length := by have : j < (Plan.encs kids).length := by simpa using g1
                                      omega
     conv=>whnf
     refine bsel_intro (fun g2=>?_) (fun g2=>?_)
     ·have hok : ok = true:=g2
      subst hok
      rw [List.drop_eq_getElem_cons hjl,List.all_cons] at hall
      have hih:=hihd kids[j] (List.getElem_mem hjl)
      have hge : (Plan.encs kids)[((j : Nat) : Int).toNat]? = some kids[j].enc:=by rw [Int.toNat_natCast,encs_get,List.getElem?_eq_getElem hjl]; rfl
      generalize kids[j] = q at hih hge hall
      obtain ⟨kind',n',test',cells',a',b',keys',agg',c',kids'⟩:=q
      conv=>whnf
      refine ⟨_,hge,by omega,rfl,?_⟩
      conv=>whnf
      refine ⟨_,hih _,?_⟩
      conv=>whnf
      refine bsel_intro (fun g3=>?_) (fun g3=>?_)
      ·conv=>whnf
       exact ⟨m - 1,by omega,j + 1,true,by omega,rfl,rfl,rfl,nat_step j (by omega),rfl,by rw [hall,g3]; rfl⟩
      ·conv=>whnf
       exact ⟨m - 1,by omega,j + 1,false,by omega,rfl,rfl,rfl,nat_step j (by omega),rfl,by rw [hall,g3]; rfl⟩
     ·have hok : ok = false:=g2
      subst hok
      conv=>whnf
      exact fin_bool (by rw [hall]; rfl)
    ·have hjl : j = kids.length := by have : ¬ j < (Plan.encs kids).length := by simpa using g1
                                      omega
     subst hjl
     rw [List.drop_length] at hall
     conv=>whnf
     exact fin_bool (by rw [hall]; simp)
  ·iterate 16
    all_goals (try (conv=>whnf))
    all_goals (first | (refine bsel_false hd0 ?_) | (refine bsel_false h1 ?_) | (refine bsel_false h2 ?_) | (refine bsel_false h3 ?_) | (refine bsel_false h4 ?_) | (refine bsel_false h7 ?_) | (refine bsel_intro (fun hb=>?_) (fun hb=>?_)) | (refine ⟨_,hkids _,?_⟩) | (refine ⟨_,hcl _,?_⟩) | (refine ⟨_,hto _,?_⟩) | (refine ⟨_,hce _,?_⟩) | (refine ⟨_,hke _,?_⟩) | (refine ⟨_,hco _ _,?_⟩) | skip)
   all_goals (first
    | exact fin_bool (by clear ih hihd hkids hcl hto hce hke hco hw hsks hsm; simp only [form,Plan.kind,Plan.kids]; rw [hel] at *; simp_all; done)
    | skip)
   all_goals
    refine loop_rule (fun m st=>∃ (j : Nat) (ok : Bool),j + m = kids.length ∧ st.tm 1 = i64 ((d + 1 : Nat) : Int) ∧ st.tm 2 = .ptr 0 0 0 ∧ st.tm 5 = .bool ok ∧ st.tm 6 = i64 (j : Nat) ∧ st.hp = [.box (Plan.mk kind n test cells a b keys agg c kids).enc] ∧ (own (Plan.mk kind n test cells a b keys agg c kids) && kids.all (form d)) = (ok && (kids.drop j).all (form d))) (fun m st hI=>?_) kids.length _ ⟨0,_,by simp,rfl,rfl,rfl,rfl,rfl,by clear ih hihd hkids hcl hto hce hke hco hw hsks hsm hel hsc hsk hskids hd0; first | (simp_all [own]; done) | (simp_all [own]; intros; omega)⟩
    have hform : form (d + 1) (Plan.mk kind n test cells a b keys agg c kids) = (own (Plan.mk kind n test cells a b keys agg c kids) && kids.all (form d)):=by
     clear ih hihd hkids hcl hto hce hke hco hw hsks hsm hI
     simp only [form,Plan.kind,Plan.kids]
     rw [hel] at *
     simp_all
    obtain ⟨j,ok,hj,e1,e2,e5,e6,hh,hall⟩:=hI
    rw [hform]
    obtain ⟨tm,hq⟩:=st
    simp only at e1 e2 e5 e6 hh
    subst hh
    rw [show tm = upd (upd (upd (upd tm 1 (i64 ((d + 1 : Nat) : Int))) 2 (.ptr 0 0 0)) 5 (.bool ok)) 6 (i64 (j : Nat)) by rw [upd_id e1,upd_id e2,upd_id e5,upd_id e6]]
    clear e1 e2 e5 e6
    conv=>whnf
    refine bsel_intro (fun g1=>?_) (fun g1=>?_)
    ·have hjl : j < kids.length := by have : j < (Plan.encs kids).length := by simpa using g1
                                      omega
     conv=>whnf
     refine bsel_intro (fun g2=>?_) (fun g2=>?_)
     ·have hok : ok = true:=g2
      subst hok
      rw [List.drop_eq_getElem_cons hjl,List.all_cons] at hall
      have hih:=hihd kids[j] (List.getElem_mem hjl)
      have hge : (Plan.encs kids)[((j : Nat) : Int).toNat]? = some kids[j].enc:=by rw [Int.toNat_natCast,encs_get,List.getElem?_eq_getElem hjl]; rfl
      generalize kids[j] = q at hih hge hall
      obtain ⟨kind',n',test',cells',a',b',keys',agg',c',kids'⟩:=q
      conv=>whnf
      refine ⟨_,hge,by omega,rfl,?_⟩
      conv=>whnf
      refine ⟨_,hih _,?_⟩
      conv=>whnf
      refine bsel_intro (fun g3=>?_) (fun g3=>?_)
      ·conv=>whnf
       exact ⟨m - 1,by omega,j + 1,true,by omega,rfl,rfl,rfl,nat_step j (by omega),rfl,by rw [hall,g3]; rfl⟩
      ·conv=>whnf
       exact ⟨m - 1,by omega,j + 1,false,by omega,rfl,rfl,rfl,nat_step j (by omega),rfl,by rw [hall,g3]; rfl⟩
     ·have hok : ok = false:=g2
      subst hok
      conv=>whnf
      exact fin_bool (by rw [hall]; rfl)
    ·have hjl : j = kids.length := by have : ¬ j < (Plan.encs kids).length := by simpa using g1
                                      omega
     subst hjl
     rw [List.drop_length] at hall
     conv=>whnf
     exact fin_bool (by rw [hall]; simp)
end Go.Proofs.YtncgofhhnhebjaaGreat
/- The reference's SlimOnce. -/
set_option maxHeartbeats 4000000
namespace Go.Proofs.YtncgofhhnhebjaaGreat
open Go Go.Am
variable {pr : Prims} (hp : Okp pr)
set_option maxRecDepth 100000
def fit (p : Plan) : Bool:=form 6 p && decide (many 6 p ≤ 10)
theorem l4Fit_r (hp : Okp pr) (p : Plan) (hsm : p.small) : Ret pr 128 [p.enc] (.bool (fit p)):=by
 have h1:=l4Form_r hp 6 p hsm (by omega)
 have h2:=l4Many_r hp 6 p hsm (by omega)
 obtain ⟨kind,n,test,cells,a,b,keys,agg,c,kids⟩:=p
 refine ret_of hp rfl rfl ?_
 iterate 5
  all_goals (try (conv=>whnf))
  all_goals (first | (refine bsel_intro (fun hb=>?_) (fun hb=>?_)) | (refine ⟨_,h1 _,?_⟩) | (refine ⟨_,h2 _,?_⟩) | skip)
 all_goals exact fin_bool (by clear h1 h2 hsm; first | (simp_all [fit]; done) | (simp_all [fit]; omega))
mutual
def once : Plan → Bool
 | .mk kind _ _ _ _ _ _ _ _ kids=>
  if kind = 6 ∨ kind = 7 then true
  else if kind = 2 then ((onces kids)[0]?).getD false
  else if kind = 4 then ((onces kids)[0]?).getD false && ((onces kids)[1]?).getD false
  else false
def onces : List Plan → List Bool
 | []=>[]
 | p :: ps=>once p :: onces ps
end
theorem form_kids {d : Nat} {p : Plan} (h : form (d + 1) p = true) : kidsN p.kind = p.kids.length ∧ clean p = true ∧ own p = true ∧ ∀ q ∈ p.kids,form d q = true:=by
 simp only [form,Bool.and_eq_true,beq_iff_eq,List.all_eq_true] at h
 exact ⟨h.1,h.2.1,h.2.2.1,h.2.2.2⟩
end Go.Proofs.YtncgofhhnhebjaaGreat
/- The look at every function of the seat. -/
namespace Go.Am
open Go
def codesB (P : Program) (M : FuncId → Mode) (pm : Nat → Nat → Nat → Option (List Nat)) (skip : Nat → Bool) : Nat → List Func → Bool
 | _,[]=>true
 | n,fn :: r=>(skip n || (match fn.body with
  | some c=>codeOk P M pm fn.ntmps c
  | none=>true)) && codesB P M pm skip (n + 1) r
theorem codesB_spec {P : Program} {M : FuncId → Mode} {pm : Nat → Nat → Nat → Option (List Nat)} {skip : Nat → Bool} : ∀ (l : List Func) (n : Nat),codesB P M pm skip n l = true → ∀ (i : Nat) (fn : Func) (c : Code),l[i]? = some fn → fn.body = some c → skip (n + i) = false → codeOk P M pm fn.ntmps c = true:=by
 intro l
 induction l with
 | nil=>intro n _ i fn c h; simp at h
 | cons g r ih=>
  intro n h i fn c hi hb hs
  simp only [codesB,Bool.and_eq_true] at h
  cases i with
  | zero=>
   simp at hi
   subst hi
   have:=h.1
   rw [Nat.add_zero] at hs
   rw [hb,hs,Bool.false_or] at this
   exact this
  | succ i=>exact ih (n + 1) h.2 i fn c (by simpa using hi) hb (by rw [show n + 1 + i = n + (i + 1) by omega]; exact hs)
end Go.Am
namespace Go.Proofs.YtncgofhhnhebjaaGreat
open Go Go.Am
set_option maxRecDepth 100000 in
theorem codes : codesB Tryz.prog modes pms bad 0 Tryz.prog.funcs.toList = true:=by kernel_rfl
set_option maxRecDepth 100000 in
theorem cfOk_of {pr : Prims} (hbad : ∀ f,bad f = true → pr f ≠ none) (hpr : ∀ f p args h r,pr f = some p → p args h = some r → ∀ (E : Env) (w : World) (vs : Array Value),bodied Tryz.prog f = true → Sim E h w → Full E h → GOk (fun _=>none) E.S w → Reps E w args vs → Calls Tryz.prog f vs w (Post E h w r)) : CfgOk (cfp pr) where
 mixed:=by kernel_rfl
 noX:=fun f h=>by
  have h : modes f = Am.Mode.X:=h
  unfold modes at h
  generalize isN f = a at h
  generalize isF f = b at h
  generalize isK f = c at h
  cases a <;> cases b <;> cases c <;> cases h
 code:=fun f fn c hp hf hb=>codesB_spec _ 0 codes f fn c (by simpa [cfp] using hf) hb (by rw [Nat.zero_add]; cases hx : bad f with | false=>rfl | true=>exact absurd hp (hbad f hx))
 prims:=hpr
noncomputable def cf : Cfg:=cfp pr0
theorem pr0_bad (f : FuncId) (h : bad f = true) : pr0 f ≠ none:=by unfold pr0; rw [h]; exact fun e=>by cases e
theorem pr0_none {f : FuncId} {p : List AVal → Heap → Option ARes} (h : pr0 f = some p) (args : List AVal) (hp : Heap) : p args hp = none:=by
 unfold pr0 at h
 cases hb : bad f with
 | false=>rw [hb] at h; cases h
 | true=>rw [hb] at h; cases h; rfl
theorem pr0_plain {f : FuncId} (h : plain f = true) : pr0 f = none:=by
 unfold plain at h
 simp only [Bool.and_eq_true,Bool.not_eq_true'] at h
 unfold pr0
 rw [h.2]
 rfl
theorem ok0 : Okp pr0:=⟨fun _ h=>pr0_plain h⟩
set_option maxRecDepth 100000 in
theorem cfOk : CfgOk cf:=cfOk_of pr0_bad fun _ _ _ _ _ h h2=>by rw [pr0_none h] at h2; cases h2
end Go.Proofs.YtncgofhhnhebjaaGreat

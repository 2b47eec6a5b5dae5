/- The plain law: sorted lists put together; runs and flows are ok to both. -/
import Derived.Test.YtncgofhhnhebjaaGreatGH37
import Derived.Test.YtncgofhhnhebjaaGreatGH38
set_option linter.unusedVariables false
set_option linter.unusedSimpArgs false
/- Flows that are ok: both sides. -/
set_option maxHeartbeats 4000000
namespace Go.Proofs.YtncgofhhnhebjaaGreat
open Go Go.Am
variable {pr : Prims} (hp : Okp pr) (hs : Okc pr)
set_option maxRecDepth 100000
def keepsN (kind : Int) : Int:=if kind = 4 then 2 else if kind = 6 ∨ kind = 7 then 1 else 0
def spinesOk (ro : List (List Item) → Bool) (kind : Int) (l r : List (List Item)) : Bool:=(ro l && (!decide (keepsN kind ≤ 0) || l.isEmpty)) && (ro r && (!decide (keepsN kind ≤ 1) || r.isEmpty))
def spGo (ro : List (List Item) → Bool) (kind : Int) (l r : List (List Item)) (rest : Bool) : Nat → Bool
 | 0=>spinesOk ro kind l r && rest
 | 1=>(ro r && (!decide (keepsN kind ≤ 1) || r.isEmpty)) && rest
 | _=>rest
def Flow.plan : Flow → Plan | .mk p ..=>p
mutual
def flowOkP (ro : List (List Item) → Bool) : Flow → Bool
 | .mk p l r ks=>(ks.length == p.kids.length) && (spinesOk ro p.kind l r && kidsOkP ro ks p.kids)
def kidsOkP (ro : List (List Item) → Bool) : List Flow → List Plan → Bool
 | f :: fs,q :: qs=>(planEq f.plan q && flowOkP ro f) && kidsOkP ro fs qs
 | _,_=>true
end
theorem keeps_r (hp : Okp pr) (p : Plan) : Ret pr 183 [p.enc] (i64 (keepsN p.kind)):=by
 obtain ⟨kind,n,test,cells,a,b,keys,agg,c,kids⟩:=p
 refine retg hp rfl rfl ?_
 have S : Sepa [] []:=Sepa.nil []
 iterate 8
  all_goals (try (conv=>whnf))
  all_goals (first | (intro ka_ ha_ hk_ hh_; replace S:=S.alloc hk_ hh_) | (refine .inl ⟨_,S.row 0 rfl,rfl,?_⟩) | (refine .inl ⟨_,S.row 1 rfl,rfl,?_⟩) | (refine ⟨_,rfl,rfl,rfl,.inl ⟨_,S.row 0 rfl,rfl,?_⟩⟩; (conv=>whnf); intro ha_ hh_; replace S:=S.set 0 rfl hh_; dsimp only [List.set] at S) | (refine ⟨_,rfl,rfl,rfl,.inl ⟨_,S.row 1 rfl,rfl,?_⟩⟩; (conv=>whnf); intro ha_ hh_; replace S:=S.set 1 rfl hh_; dsimp only [List.set] at S) | (refine bsel_intro (fun hb=>?_) (fun hb=>?_)) | skip)
 all_goals (try (conv=>whnf))
 all_goals exact g_int (by simp_all [keepsN,Plan.kind])
theorem flow_tot {p : Plan} {l r : List (List Item)} {ks : List Flow} : (Flow.mk p l r ks).d.tot = p.sz + (Runs.d l).tot + (Runs.d r).tot + (ks.length + Dat.tots (ks.map Flow.d)):=by
 simp only [Flow.d,Dat.tot,Dat.tots,Flow.ds_map,List.length_map]
 omega
theorem runs_small {l : List (List Item)} (h : (Runs.d l).tot ≤ 1048576) : runsm l:=by
 simp only [Runs.d,Dat.tot,List.length_map] at h
 refine ⟨by simp [big]; omega,fun z hz=>?_⟩
 have h1:=tots_map (f:=Items.d) hz
 simp only [Items.d,Dat.tot,List.length_map] at h1
 refine ⟨by simp [big]; omega,fun x hx=>?_⟩
 have h2:=tots_map (f:=Item.d) hx
 rw [Item.tot] at h2
 simp [big]
 omega
theorem flowEncs_get (ks : List Flow) (j : Nat) : (Flow.encs ks)[j]? = (ks[j]?).map Flow.enc:=by
 have : Flow.encs ks = ks.map Flow.enc:=by induction ks with | nil=>rfl | cons f fs ih=>simp [Flow.encs,ih]
 rw [this,List.getElem?_map]
theorem flowEncs_len (ks : List Flow) : (Flow.encs ks).length = ks.length:=by
 induction ks with | nil=>rfl | cons f fs ih=>simp [Flow.encs,ih]
theorem kidsOkP_at {ro : List (List Item) → Bool} {ks : List Flow} {qs : List Plan} {j : Nat} (h1 : j < ks.length) (h2 : j < qs.length) : kidsOkP ro (ks.drop j) (qs.drop j) = ((planEq ks[j].plan qs[j] && flowOkP ro ks[j]) && kidsOkP ro (ks.drop (j + 1)) (qs.drop (j + 1))):=by
 rw [List.drop_eq_getElem_cons h1,List.drop_eq_getElem_cons h2,kidsOkP]
theorem flowOk_r (hs : Okc pr) : ∀ (N : Nat) (f : Flow),SizeOf.sizeOf f ≤ N → f.d.tot ≤ 1048576 → Ret pr 150 [f.enc] (.bool (flowOkP irunOk f)):=by
 have hp:=hs.toOkp
 intro N
 induction N with
 | zero=>intro f h; cases f; simp at h
 | succ N ih=>
  intro f hsz ht
  obtain ⟨⟨kind,n,test,cells,a,b,keys,agg,c,kids⟩,l,r,ks⟩:=f
  rw [flow_tot] at ht
  have hl:=iRunOk_r hp l (runs_small (by omega))
  have hr:=iRunOk_r hp r (runs_small (by omega))
  have hk:=keeps_r hp (.mk kind n test cells a b keys agg c kids)
  have hel:=encs_len kids
  have hfl:=flowEncs_len ks
  have hsm : (Plan.mk kind n test cells a b keys agg c kids).small:=by unfold Plan.small; omega
  obtain ⟨hsc,hsk,hskids,hsks⟩:=small_split hsm
  have hih : ∀ k ∈ ks,Ret pr 150 [k.enc] (.bool (flowOkP irunOk k)):=fun k hk=>ih k (by have:=List.sizeOf_lt_of_mem hk; simp at hsz; omega) (by have:=tots_map (f:=Flow.d) hk; omega)
  have hps : ∀ k ∈ ks,∀ q,Ret pr 102 [k.plan.enc,q.enc] (.bool (planEq k.plan q)):=fun k hk q=>planSame_r hp _ q (by
   have:=tots_map (f:=Flow.d) hk
   obtain ⟨p',l',r',ks'⟩:=k
   rw [flow_tot] at this
   simp only [Flow.plan,Plan.small]
   omega)
  have hksl : ks.length ≤ 1048576:=by omega
  clear ih hsz ht
  generalize hR : flowOkP irunOk (.mk (.mk kind n test cells a b keys agg c kids) l r ks) = R
  rw [flowOkP] at hR
  simp only [Plan.kind,Plan.kids] at hR hk
  refine retg hp rfl rfl ?_
  have S : Sepa [] []:=Sepa.nil []
  conv=>whnf
  intro k1 a1 hk1 hh1
  replace S:=S.alloc hk1 hh1
  clear hk1 hh1
  conv=>whnf
  refine .inl ⟨_,S.row 0 rfl,rfl,?_⟩
  conv=>whnf
  refine .inl ⟨_,S.row 0 rfl,rfl,?_⟩
  conv=>whnf
  refine bsel_intro (fun g0=>?_) (fun g0=>?_)
  ·conv=>whnf
   exact g_bool (by rw [← hR]; rw [hel, hfl] at g0; have : (ks.length == kids.length) = false := by simp at g0 ⊢; omega
                    rw [this]; rfl)
  ·have hlen : ks.length = kids.length:=by rw [hel,hfl] at g0; simp at g0; omega
   rw [show (ks.length == kids.length) = true by simp [hlen],Bool.true_and] at hR
   clear g0
   conv=>whnf
   refine .inl ⟨_,S.row 0 rfl,rfl,?_⟩
   conv=>whnf
   refine .inl ⟨_,S.row 0 rfl,rfl,?_⟩
   conv=>whnf
   intro k2 a2 hk2 hh2
   replace S:=S.alloc hk2 hh2
   clear hk2 hh2
   conv=>whnf
   have S2 : Sepa a2 [.row k2 (.arr 1 [.agg [Runs.enc l],.agg [Runs.enc r]]),.row k1 (.box (Flow.mk (.mk kind n test cells a b keys agg c kids) l r ks).enc)]:=S
   clear S
   have S:=S2
   clear S2
   refine loopG (fun m tm hp=>∃ (j : Nat),j + m = 2 ∧ tm 21 = i64 (j : Nat) ∧ Sepa hp [.row k2 (.arr 1 [.agg [Runs.enc l],.agg [Runs.enc r]]),.row k1 (.box (Flow.mk (.mk kind n test cells a b keys agg c kids) l r ks).enc)] ∧ (spGo irunOk kind l r (kidsOkP irunOk ks kids) j = R)) (fun m tm hq hfr hI=>?_) (2) ⟨0,by simp,(by first | rfl | kernel_rfl | simp),S,(hR)⟩
   obtain ⟨j,hj,e21,S2,hall⟩:=hI
   have k1:=hfr 1 (by kernel_rfl)
   conv at k1=>rhs; whnf
   rw [← upd_id k1]
   have k19:=hfr 19 (by kernel_rfl)
   conv at k19=>rhs; whnf
   rw [← upd_id k19]
   have k20:=hfr 20 (by kernel_rfl)
   conv at k20=>rhs; whnf
   rw [← upd_id k20]
   rw [← upd_id e21]
   clear hfr k1 k19 k20 e21
   clear S
   have S:=S2
   clear S2
   conv=>whnf
   clear hR
   have hj2 : j = 0 ∨ j = 1 ∨ j = 2:=by omega
   rcases hj2 with rfl | rfl | rfl
   ·simp only [spGo,spinesOk] at hall
    conv=>whnf
    refine ⟨_,S.row 0 rfl,⟨by decide,by simp⟩,?_⟩
    conv=>whnf
    refine .inr ⟨_,_,_,S.row 0 rfl,rfl,?_⟩
    iterate 3
     all_goals (try (conv=>whnf))
     all_goals (first | (intro ka_ ha_ hk_ hh_; replace S:=S.alloc hk_ hh_) | (refine .inl ⟨_,S.row 0 rfl,rfl,?_⟩) | (refine ⟨_,rfl,rfl,rfl,.inl ⟨_,S.row 0 rfl,rfl,?_⟩⟩; (conv=>whnf); intro ha_ hh_; replace S:=S.set 0 rfl hh_; dsimp only [List.set] at S) | (refine bsel_intro (fun hb=>?_) (fun hb=>?_)) | skip)
    refine ⟨_,hl _,?_⟩
    conv=>whnf
    refine bsel_intro (fun g1=>?_) (fun g1=>?_)
    ·rw [g1,Bool.true_and] at hall
     conv=>whnf
     refine .inl ⟨_,S.row 2 rfl,rfl,?_⟩
     conv=>whnf
     refine ⟨_,hk _,?_⟩
     conv=>whnf
     refine bsel_intro (fun g2=>?_) (fun g2=>?_)
     ·have g2' : decide (keepsN kind ≤ 0) = true:=by simpa using g2
      rw [g2'] at hall
      conv=>whnf
      refine .inl ⟨_,S.row 0 rfl,rfl,?_⟩
      conv=>whnf
      refine bsel_intro (fun g3=>?_) (fun g3=>?_)
      ·conv=>whnf
       exact g_bool (by rw [← hall]; cases l with | nil=>simp at g3 | cons x xs=>rfl)
      ·conv=>whnf
       have : l.isEmpty = true:=by cases l with | nil=>rfl | cons x xs=>simp at g3
       rw [this] at hall
       exact ⟨m - 1,by omega,0 + 1,by omega,nat_step 0 (by omega),S.drop 0,by rw [← hall]; simp [spGo]⟩
     ·have g2' : decide (keepsN kind ≤ 0) = false:=by simpa using g2
      rw [g2'] at hall
      conv=>whnf
      exact ⟨m - 1,by omega,0 + 1,by omega,nat_step 0 (by omega),S.drop 0,by rw [← hall]; simp [spGo]⟩
    ·conv=>whnf
     exact g_bool (by rw [← hall,g1]; rfl)
   ·simp only [spGo,spinesOk] at hall
    conv=>whnf
    refine ⟨_,S.row 0 rfl,⟨by decide,by simp⟩,?_⟩
    conv=>whnf
    refine .inr ⟨_,_,_,S.row 0 rfl,rfl,?_⟩
    iterate 3
     all_goals (try (conv=>whnf))
     all_goals (first | (intro ka_ ha_ hk_ hh_; replace S:=S.alloc hk_ hh_) | (refine .inl ⟨_,S.row 0 rfl,rfl,?_⟩) | (refine ⟨_,rfl,rfl,rfl,.inl ⟨_,S.row 0 rfl,rfl,?_⟩⟩; (conv=>whnf); intro ha_ hh_; replace S:=S.set 0 rfl hh_; dsimp only [List.set] at S) | (refine bsel_intro (fun hb=>?_) (fun hb=>?_)) | skip)
    refine ⟨_,hr _,?_⟩
    conv=>whnf
    refine bsel_intro (fun g1=>?_) (fun g1=>?_)
    ·rw [g1,Bool.true_and] at hall
     conv=>whnf
     refine .inl ⟨_,S.row 2 rfl,rfl,?_⟩
     conv=>whnf
     refine ⟨_,hk _,?_⟩
     conv=>whnf
     refine bsel_intro (fun g2=>?_) (fun g2=>?_)
     ·have g2' : decide (keepsN kind ≤ 1) = true:=by simpa using g2
      rw [g2'] at hall
      conv=>whnf
      refine .inl ⟨_,S.row 0 rfl,rfl,?_⟩
      conv=>whnf
      refine bsel_intro (fun g3=>?_) (fun g3=>?_)
      ·conv=>whnf
       exact g_bool (by rw [← hall]; cases r with | nil=>simp at g3 | cons x xs=>rfl)
      ·conv=>whnf
       have : r.isEmpty = true:=by cases r with | nil=>rfl | cons x xs=>simp at g3
       rw [this] at hall
       exact ⟨m - 1,by omega,1 + 1,by omega,nat_step 1 (by omega),S.drop 0,by rw [← hall]; simp [spGo]⟩
     ·have g2' : decide (keepsN kind ≤ 1) = false:=by simpa using g2
      rw [g2'] at hall
      conv=>whnf
      exact ⟨m - 1,by omega,1 + 1,by omega,nat_step 1 (by omega),S.drop 0,by rw [← hall]; simp [spGo]⟩
    ·conv=>whnf
     exact g_bool (by rw [← hall,g1]; rfl)
   ·simp only [spGo] at hall
    conv=>whnf
    refine .inl ⟨_,S.row 1 rfl,rfl,?_⟩
    conv=>whnf
    have S0 : Sepa hq [.row k1 (.box (Flow.mk (.mk kind n test cells a b keys agg c kids) l r ks).enc)]:=S.drop 0
    clear S
    have S:=S0
    clear S0
    conv=>whnf
    refine loopG (fun m tm hp=>∃ (j : Nat),j + m = ks.length ∧ tm 46 = i64 (j : Nat) ∧ Sepa hp [.row k1 (.box (Flow.mk (.mk kind n test cells a b keys agg c kids) l r ks).enc)] ∧ (kidsOkP irunOk (ks.drop j) (kids.drop j) = R)) (fun m tm hq hfr hI=>?_) (ks.length) ⟨0,by simp,(by first | rfl | kernel_rfl | simp),S,(hall)⟩
    obtain ⟨j,hj,e46,S2,hall⟩:=hI
    have k1:=hfr 1 (by kernel_rfl)
    conv at k1=>rhs; whnf
    rw [← upd_id k1]
    have k44:=hfr 44 (by kernel_rfl)
    conv at k44=>rhs; whnf
    rw [← upd_id k44]
    have k45:=hfr 45 (by kernel_rfl)
    conv at k45=>rhs; whnf
    rw [← upd_id k45]
    rw [← upd_id e46]
    clear hfr k1 k44 k45 e46
    clear S
    have S:=S2
    clear S2
    conv=>whnf
    refine bsel_intro (fun h1=>?_) (fun h1=>?_)
    ·have hjl : j < ks.length:=by rw [hfl] at h1; simpa using h1
     have hjk : j < kids.length:=by omega
     have hge : (Flow.encs ks)[((j : Nat) : Int).toNat]? = some (Flow.enc ks[j]):=by rw [Int.toNat_natCast,flowEncs_get,List.getElem?_eq_getElem hjl]; rfl
     have hgk : (Plan.encs kids)[((j : Nat) : Int).toNat]? = some (Plan.enc kids[j]):=by rw [Int.toNat_natCast,encs_get,List.getElem?_eq_getElem hjk]; rfl
     rw [kidsOkP_at hjl hjk] at hall
     have h2:=hps _ (List.getElem_mem hjl) kids[j]
     have h3:=hih _ (List.getElem_mem hjl)
     generalize ks[j] = x at hge hall h2 h3
     generalize kids[j] = q at hgk hall h2
     obtain ⟨⟨kind',n',test',cells',a',b',keys',agg',c',kids'⟩,l',r',ks'⟩:=x
     obtain ⟨kind2,n2,test2,cells2,a2',b2,keys2,agg2,c2,kids2⟩:=q
     simp only [Flow.plan] at h2 hall
     conv=>whnf
     refine ⟨_,hge,by omega,rfl,?_⟩
     iterate 3
      all_goals (try (conv=>whnf))
      all_goals (first | (intro ka_ ha_ hk_ hh_; replace S:=S.alloc hk_ hh_) | (refine .inl ⟨_,S.row 0 rfl,rfl,?_⟩) | (refine .inl ⟨_,S.row 1 rfl,rfl,?_⟩) | (refine ⟨_,rfl,rfl,rfl,.inl ⟨_,S.row 0 rfl,rfl,?_⟩⟩; (conv=>whnf); intro ha_ hh_; replace S:=S.set 0 rfl hh_; dsimp only [List.set] at S) | (refine ⟨_,rfl,rfl,rfl,.inl ⟨_,S.row 1 rfl,rfl,?_⟩⟩; (conv=>whnf); intro ha_ hh_; replace S:=S.set 1 rfl hh_; dsimp only [List.set] at S) | (refine bsel_intro (fun hb=>?_) (fun hb=>?_)) | skip)
     conv=>whnf
     refine .inl ⟨_,S.row 1 rfl,rfl,?_⟩
     conv=>whnf
     refine ⟨_,hgk,by omega,rfl,?_⟩
     conv=>whnf
     refine ⟨_,h2 _,?_⟩
     conv=>whnf
     refine bsel_intro (fun g4=>?_) (fun g4=>?_)
     ·rw [g4,Bool.true_and] at hall
      conv=>whnf
      refine .inl ⟨_,S.row 0 rfl,rfl,?_⟩
      conv=>whnf
      refine ⟨_,h3 _,?_⟩
      conv=>whnf
      refine bsel_intro (fun g5=>?_) (fun g5=>?_)
      ·rw [g5,Bool.true_and] at hall
       conv=>whnf
       exact ⟨m - 1,by omega,j + 1,by omega,nat_step j (by omega),S.drop 0,hall⟩
      ·conv=>whnf
       exact g_bool (by rw [← hall,g5]; rfl)
     ·conv=>whnf
      exact g_bool (by rw [← hall,g4]; rfl)
    ·have hjl : j = ks.length := by have : ¬ j < ks.length := by rw [hfl] at h1; simpa using h1
                                    omega
     conv=>whnf
     exact g_bool (by rw [← hall,hjl,List.drop_length]; rfl)
theorem iFlowOk_r (hs : Okc pr) (f : Flow) (ht : f.d.tot ≤ 1048576) : Ret pr 110 [f.enc] (.bool (fit f.plan && flowOkP irunOk f)):=by
 have h2:=flowOk_r hs _ f (Nat.le_refl _) ht
 obtain ⟨⟨kind,n,test,cells,a,b,keys,agg,c,kids⟩,l,r,ks⟩:=f
 have h1:=writable_r hs (.mk kind n test cells a b keys agg c kids) (by rw [flow_tot] at ht; unfold Plan.small; omega)
 refine retg hs.toOkp rfl rfl ?_
 have S : Sepa [] []:=Sepa.nil []
 conv=>whnf
 intro k1 a1 hk1 hh1
 replace S:=S.alloc hk1 hh1
 conv=>whnf
 refine .inl ⟨_,S.row 0 rfl,rfl,?_⟩
 conv=>whnf
 refine ⟨_,h1 _,?_⟩
 conv=>whnf
 refine bsel_intro (fun g1=>?_) (fun g1=>?_)
 ·conv=>whnf
  refine .inl ⟨_,S.row 0 rfl,rfl,?_⟩
  conv=>whnf
  refine ⟨_,h2 _,?_⟩
  conv=>whnf
  refine bsel_intro (fun g2=>?_) (fun g2=>?_)
  ·conv=>whnf
   exact g_bool (by simp only [Flow.plan]; rw [g1,g2]; rfl)
  ·conv=>whnf
   exact g_bool (by simp only [Flow.plan]; rw [g1,g2]; rfl)
 ·conv=>whnf
  exact g_bool (by simp only [Flow.plan]; rw [g1]; rfl)
end Go.Proofs.YtncgofhhnhebjaaGreat
/- Flows that are ok: the reference's; the plain law. -/
set_option maxHeartbeats 4000000
namespace Go.Proofs.YtncgofhhnhebjaaGreat
open Go Go.Am
variable {pr : Prims} (hp : Okp pr) (hs : Okc pr)
set_option maxRecDepth 100000
mutual
def formF : Nat → Flow → Bool
 | 0,_=>false
 | d + 1,.mk p l r ks=>(ks.length == p.kids.length) && (spinesOk runOk p.kind l r && kidsF d ks p.kids)
def kidsF : Nat → List Flow → List Plan → Bool
 | d,f :: fs,q :: qs=>(planEq f.plan q && formF d f) && kidsF d fs qs
 | _,_,_=>true
end
theorem kidsF_at {d : Nat} {ks : List Flow} {qs : List Plan} {j : Nat} (h1 : j < ks.length) (h2 : j < qs.length) : kidsF d (ks.drop j) (qs.drop j) = ((planEq ks[j].plan qs[j] && formF d ks[j]) && kidsF d (ks.drop (j + 1)) (qs.drop (j + 1))):=by
 rw [List.drop_eq_getElem_cons h1,List.drop_eq_getElem_cons h2,kidsF]
theorem kidsF_end {d : Nat} {ks : List Flow} {qs : List Plan} : kidsF d (ks.drop ks.length) qs = true:=by
 rw [List.drop_length,kidsF]
 intros
 simp_all
theorem l8Form_r (hp : Okp pr) : ∀ (d : Nat) (f : Flow),f.d.tot ≤ 1048576 → d ≤ 6 → Ret pr 129 [f.enc,i64 d] (.bool (formF d f)):=by
 intro d
 induction d with
 | zero=>
  intro f ht hd
  obtain ⟨⟨kind,n,test,cells,a,b,keys,agg,c,kids⟩,l,r,ks⟩:=f
  refine retg hp rfl rfl ?_
  have S : Sepa [] []:=Sepa.nil []
  conv=>whnf
  intro k1 a1 hk1 hh1
  replace S:=S.alloc hk1 hh1
  conv=>whnf
  exact g_bool (by simp [formF])
 | succ d ih=>
  intro f ht hd
  obtain ⟨⟨kind,n,test,cells,a,b,keys,agg,c,kids⟩,l,r,ks⟩:=f
  rw [flow_tot] at ht
  have hl:=sRunOk_r hp l (runs_small (by omega))
  have hr:=sRunOk_r hp r (runs_small (by omega))
  have hel:=encs_len kids
  have hfl:=flowEncs_len ks
  have hsm : (Plan.mk kind n test cells a b keys agg c kids).small:=by unfold Plan.small; omega
  obtain ⟨hsc,hsk,hskids,hsks⟩:=small_split hsm
  have hw:=wrap_pred d (by omega)
  have hih : ∀ k ∈ ks,Ret pr 129 [k.enc,.int .i64 (IntKind.i64.wrap (((d + 1 : Nat) : Int) - 1))] (.bool (formF d k)):=fun k hk=>hw ▸ ih k (by have:=tots_map (f:=Flow.d) hk; omega) (by omega)
  have hps : ∀ k ∈ ks,∀ q ∈ kids,Ret pr 144 [k.plan.enc,q.enc] (.bool (planEq k.plan q)):=fun k hk q hq=>sPlanSame_r hp _ q (by
   have:=tots_map (f:=Flow.d) hk
   obtain ⟨p',l',r',ks'⟩:=k
   rw [flow_tot] at this
   simp only [Flow.plan,Plan.small]
   omega) (hsks q hq)
  have hksl : ks.length ≤ 1048576:=by omega
  clear ih ht hw
  generalize hR : formF (d + 1) (.mk (.mk kind n test cells a b keys agg c kids) l r ks) = R
  rw [formF,spinesOk] at hR
  simp only [Plan.kind,Plan.kids] at hR
  refine retg hp rfl rfl ?_
  have S : Sepa [] []:=Sepa.nil []
  conv=>whnf
  intro k1 a1 hk1 hh1
  replace S:=S.alloc hk1 hh1
  clear hk1 hh1
  conv=>whnf
  refine .inl ⟨_,S.row 0 rfl,rfl,?_⟩
  conv=>whnf
  refine .inl ⟨_,S.row 0 rfl,rfl,?_⟩
  conv=>whnf
  refine bsel_intro (fun g0=>?_) (fun g0=>?_)
  ·conv=>whnf
   exact g_bool (by rw [← hR]; rw [hel, hfl] at g0; have : (ks.length == kids.length) = false := by simp at g0 ⊢; omega
                    rw [this]; rfl)
  ·have hlen : ks.length = kids.length:=by rw [hel,hfl] at g0; simp at g0; omega
   rw [show (ks.length == kids.length) = true by simp [hlen],Bool.true_and] at hR
   clear g0
   conv=>whnf
   refine .inl ⟨_,S.row 0 rfl,rfl,?_⟩
   conv=>whnf
   refine ⟨_,hl _,?_⟩
   conv=>whnf
   refine bsel_intro (fun g1=>?_) (fun g1=>?_)
   ·rw [g1,Bool.true_and] at hR
    conv=>whnf
    refine .inl ⟨_,S.row 0 rfl,rfl,?_⟩
    conv=>whnf
    refine ⟨_,hr _,?_⟩
    conv=>whnf
    refine bsel_intro (fun g2=>?_) (fun g2=>?_)
    ·rw [g2,Bool.true_and] at hR
     have S0 : Sepa a1 [.row k1 (.box (Flow.mk (.mk kind n test cells a b keys agg c kids) l r ks).enc)]:=S
     clear S
     have S:=S0
     clear S0
     have e1 : l.isEmpty = true ↔ l.length = 0:=by cases l <;> simp
     have e2 : r.isEmpty = true ↔ r.length = 0:=by cases r <;> simp
     iterate 14
      all_goals (try (conv=>whnf))
      all_goals (first | (intro ka_ ha_ hk_ hh_; replace S:=S.alloc hk_ hh_) | (refine .inl ⟨_,S.row 0 rfl,rfl,?_⟩) | (refine ⟨_,rfl,rfl,rfl,.inl ⟨_,S.row 0 rfl,rfl,?_⟩⟩; (conv=>whnf); intro ha_ hh_; replace S:=S.set 0 rfl hh_; dsimp only [List.set] at S) | (refine bsel_intro (fun hb=>?_) (fun hb=>?_)) | skip)
     all_goals (try (conv=>whnf))
     all_goals first
      | exact g_bool (by rw [← hR]; clear hR hih hps S hl hr; cases l <;> cases r <;> simp_all [keepsN])
      | skip
     all_goals
      have hall : kidsF d ks kids = R:=by rw [← hR]; clear hR hih hps S hl hr; cases l <;> cases r <;> simp_all [keepsN]
      clear hR
      refine loopG (fun m tm hp=>∃ (j : Nat),j + m = ks.length ∧ tm 7 = i64 (j : Nat) ∧ Sepa hp [.row k1 (.box (Flow.mk (.mk kind n test cells a b keys agg c kids) l r ks).enc)] ∧ (kidsF d (ks.drop j) (kids.drop j) = R)) (fun m tm hq hfr hI=>?_) (ks.length) ⟨0,by simp,(by first | rfl | kernel_rfl | simp),S,(hall)⟩
      obtain ⟨j,hj,e7,S2,hall⟩:=hI
      have k1:=hfr 1 (by kernel_rfl)
      conv at k1=>rhs; whnf
      rw [← upd_id k1]
      have k2:=hfr 2 (by kernel_rfl)
      conv at k2=>rhs; whnf
      rw [← upd_id k2]
      rw [← upd_id e7]
      clear hfr k1 k2 e7
      clear S
      have S:=S2
      clear S2
      conv=>whnf
      refine .inl ⟨_,S.row 0 rfl,rfl,?_⟩
      conv=>whnf
      refine bsel_intro (fun h1=>?_) (fun h1=>?_)
      ·have hjl : j < ks.length:=by rw [hfl] at h1; simpa using h1
       have hjk : j < kids.length:=by omega
       have hge : (Flow.encs ks)[((j : Nat) : Int).toNat]? = some (Flow.enc ks[j]):=by rw [Int.toNat_natCast,flowEncs_get,List.getElem?_eq_getElem hjl]; rfl
       have hgk : (Plan.encs kids)[((j : Nat) : Int).toNat]? = some (Plan.enc kids[j]):=by rw [Int.toNat_natCast,encs_get,List.getElem?_eq_getElem hjk]; rfl
       rw [kidsF_at hjl hjk] at hall
       have h2:=hps _ (List.getElem_mem hjl) _ (List.getElem_mem hjk)
       have h3:=hih _ (List.getElem_mem hjl)
       generalize ks[j] = x at hge hall h2 h3
       generalize kids[j] = q at hgk hall h2
       obtain ⟨⟨kind',n',test',cells',a',b',keys',agg',c',kids'⟩,l',r',ks'⟩:=x
       obtain ⟨kind2,n2,test2,cells2,a2',b2,keys2,agg2,c2,kids2⟩:=q
       simp only [Flow.plan] at h2 hall
       conv=>whnf
       refine .inl ⟨_,S.row 0 rfl,rfl,?_⟩
       conv=>whnf
       refine ⟨_,hge,by omega,rfl,?_⟩
       conv=>whnf
       refine .inl ⟨_,S.row 0 rfl,rfl,?_⟩
       conv=>whnf
       refine ⟨_,hgk,by omega,rfl,?_⟩
       conv=>whnf
       refine ⟨_,h2 _,?_⟩
       conv=>whnf
       refine bsel_intro (fun g4=>?_) (fun g4=>?_)
       ·rw [g4,Bool.true_and] at hall
        conv=>whnf
        refine .inl ⟨_,S.row 0 rfl,rfl,?_⟩
        conv=>whnf
        refine ⟨_,hge,by omega,rfl,?_⟩
        conv=>whnf
        refine ⟨_,h3 _,?_⟩
        conv=>whnf
        refine bsel_intro (fun g5=>?_) (fun g5=>?_)
        ·rw [g5,Bool.true_and] at hall
         conv=>whnf
         exact ⟨m - 1,by omega,j + 1,by omega,nat_step j (by omega),S,hall⟩
        ·conv=>whnf
         exact g_bool (by rw [← hall,g5]; rfl)
       ·conv=>whnf
        exact g_bool (by rw [← hall,g4]; rfl)
      ·have hjl : j = ks.length:=by
        have : ¬ j < ks.length:=by rw [hfl] at h1; simpa using h1
        omega
       conv=>whnf
       exact g_bool (by rw [← hall,hjl,kidsF_end])
    ·conv=>whnf
     exact g_bool (by rw [← hR,g2]; simp)
   ·conv=>whnf
    exact g_bool (by rw [← hR,g1]; rfl)
end Go.Proofs.YtncgofhhnhebjaaGreat
/- The plain law: sorted lists put together; runs and flows are ok to both. -/
set_option maxHeartbeats 4000000
namespace Go.Proofs.YtncgofhhnhebjaaGreat
open Go Go.Am
theorem cmpL_self : ∀ a : List Int,cmpL a a = 0
 | []=>rfl
 | x :: xs=>by simp only [cmpL]; simp [cmpL_self xs]
theorem cmpL_eq : ∀ {a b : List Int},cmpL a b = 0 → a = b
 | [],[],_=>rfl
 | [],_ :: _,h=>by simp [cmpL] at h
 | _ :: _,[],h=>by simp [cmpL] at h
 | x :: xs,y :: ys,h=>by
  simp only [cmpL] at h
  split at h
  ·simp at h
  ·split at h
   ·simp at h
   ·have:=cmpL_eq h
    have e : x = y:=by omega
    rw [this,e]
theorem cmpL_anti : ∀ (a b : List Int),cmpL b a = -cmpL a b
 | [],[]=>rfl
 | [],_ :: _=>rfl
 | _ :: _,[]=>rfl
 | x :: xs,y :: ys=>by
  simp only [cmpL]
  by_cases h1 : x < y
  ·have : ¬ y < x:=by omega
   simp [h1,this]
  ·by_cases h2 : x > y
   ·have : y < x:=h2
    simp [h1,this]
   ·have e1 : ¬ y < x:=h2
    have e2 : ¬ y > x:=h1
    simp only [h1,h2,e1,e2,if_false]
    exact cmpL_anti xs ys
theorem cmpL_trans : ∀ {a b c : List Int},cmpL a b < 0 → cmpL b c < 0 → cmpL a c < 0
 | [],[],_,h,_=>by simp [cmpL] at h
 | [],_ :: _,[],_,h=>by simp [cmpL] at h
 | [],_ :: _,_ :: _,_,_=>by simp [cmpL]
 | _ :: _,[],_,h,_=>by simp [cmpL] at h
 | _ :: _,_ :: _,[],_,h=>by simp [cmpL] at h
 | x :: xs,y :: ys,z :: zs,h1,h2=>by
  have ih:=@cmpL_trans xs ys zs
  simp only [cmpL] at h1 h2 ⊢
  split at h1 <;> split at h2
  ·rw [if_pos (by omega)]; omega
  ·split at h2
   ·omega
   ·rw [if_pos (by omega)]; omega
  ·split at h1
   ·omega
   ·rw [if_pos (by omega)]; omega
  ·split at h1
   ·omega
   ·split at h2
    ·omega
    ·rw [if_neg (by omega),if_neg (by omega)]; exact ih h1 h2
theorem rowLess_iff (a b : List Int) : rowLess a b = true ↔ cmpL a b < 0:=by rw [← cmpL_lt]; simp
theorem rowLess_false (a b : List Int) : rowLess a b = false ↔ ¬ cmpL a b < 0:=by rw [← cmpL_lt]; simp
theorem listEq_refl (a : List Int) : listEq (· == ·) a a = true:=by
 induction a with
 | nil=>rfl
 | cons x xs ih=>simp [listEq,ih]
theorem rowSame_iff (a b : List Int) : rowSame a b = true ↔ a = b:=by
 unfold rowSame
 constructor
 ·intro h
  induction a generalizing b with
  | nil=>cases b with | nil=>rfl | cons y ys=>simp [listEq] at h
  | cons x xs ih=>
   cases b with
   | nil=>simp [listEq] at h
   | cons y ys=>
    simp only [listEq,Bool.and_eq_true,beq_iff_eq] at h
    rw [h.1,ih _ h.2]
 ·rintro rfl; exact listEq_refl a
theorem rowLess_trans {a b c : List Int} (h1 : rowLess a b = true) (h2 : rowLess b c = true) : rowLess a c = true:=by
 rw [rowLess_iff] at *
 exact cmpL_trans h1 h2
def Rises : List Item → Prop
 | []=>True
 | x :: xs=>(∀ y ∈ xs,rowLess x.row y.row = true) ∧ Rises xs
theorem zGo_rises {z : List Item} : ∀ {q : Option (List Int)},zGo q z = true → Rises z ∧ ∀ r,q = some r → ∀ y ∈ z,rowLess r y.row = true:=by
 induction z with
 | nil=>intro q _; exact ⟨trivial,fun r _ y hy=>by simp at hy⟩
 | cons x xs ih=>
  intro q h
  simp only [zGo,Bool.and_eq_true] at h
  obtain ⟨⟨h1,h2,h3⟩,h4⟩:=h
  obtain ⟨g1,g2⟩:=ih h4
  refine ⟨⟨fun y hy=>g2 _ rfl y hy,g1⟩,fun r hr y hy=>?_⟩
  subst hr
  simp only at h3
  rcases List.mem_cons.1 hy with rfl | hy
  ·exact h3
  ·exact rowLess_trans h3 (g2 _ rfl y hy)
theorem zOk_rises {z : List Item} (h : zOk z = true) : Rises z:=by
 simp only [zOk,Bool.and_eq_true] at h
 exact (zGo_rises h.2).1
theorem zGo_w {z : List Item} : ∀ {q : Option (List Int)},zGo q z = true → ∀ x ∈ z,wOk x.w = true ∧ rowOk x.row = true:=by
 induction z with
 | nil=>intro q _ x hx; simp at hx
 | cons y ys ih=>
  intro q h x hx
  simp only [zGo,Bool.and_eq_true] at h
  rcases List.mem_cons.1 hx with rfl | hx
  ·exact ⟨h.1.2.1,h.1.1⟩
  ·exact ih h.2 x hx
theorem zOk_w {z : List Item} (h : zOk z = true) : ∀ x ∈ z,x.w ≠ 0:=fun x hx=>by
 simp only [zOk,Bool.and_eq_true] at h
 have:=(zGo_w h.2 x hx).1
 intro e
 simp [wOk,e] at this
theorem putZ_rises {z : List Item} (hz : Rises z) (r : List Int) (w : Int) : Rises (putZ z r w):=by
 induction z with
 | nil=>unfold putZ; split <;> simp [Rises]
 | cons x xs ih=>
  have key : ∀ y ∈ putZ xs r w,rowLess x.row r = true → rowLess x.row y.row = true:=fun y hy hr=>by
   rcases putZ_mem y hy with e | ⟨u,hu,e⟩
   ·rw [e]; exact hr
   ·rw [e]; exact hz.1 u hu
  unfold putZ
  split
  ·rename_i h
   exact ⟨fun y hy=>key y hy h,ih hz.2⟩
  ·rename_i h
   split
   ·split
    ·exact hz.2
    ·exact ⟨fun y hy=>hz.1 y hy,hz.2⟩
   ·rename_i h2
    split
    ·exact hz
    ·have hlt : rowLess r x.row = true:=by
      rw [rowLess_iff]
      have h1 : ¬ cmpL x.row r < 0:=by
       rw [← rowLess_iff]; simpa using h
      have h3 : cmpL x.row r ≠ 0:=fun e=>by
       have:=cmpL_eq e
       rw [this,rowSame_iff] at h2
       exact h2 rfl
      have:=cmpL_anti x.row r
      omega
     refine ⟨fun y hy=>?_,hz⟩
     rcases List.mem_cons.1 hy with rfl | hy
     ·exact hlt
     ·exact rowLess_trans hlt (hz.1 y hy)
theorem addZ_rises {a : List Item} (ha : Rises a) (b : List Item) : Rises (addZ a b):=by
 unfold addZ
 induction b generalizing a with
 | nil=>exact ha
 | cons y ys ih=>exact ih (putZ_rises ha _ _)
theorem addZ_cons {x : Item} {xs : List Item} {b : List Item} (h : ∀ y ∈ b,rowLess x.row y.row = true) : addZ (x :: xs) b = x :: addZ xs b:=by
 unfold addZ
 induction b generalizing xs with
 | nil=>rfl
 | cons y ys ih=>
  simp only [List.foldl_cons]
  rw [show putZ (x :: xs) y.row y.w = x :: putZ xs y.row y.w by rw [putZ,if_pos (h y (by simp))]]
  exact ih fun z hz=>h z (by simp [hz])
theorem addZ_nil_rises : ∀ {b : List Item},Rises b → (∀ x ∈ b,x.w ≠ 0) → addZ [] b = b
 | [],_,_=>rfl
 | y :: ys,hb,hw=>by
  have h1 : putZ [] y.row y.w = [y]:=by
   unfold putZ
   rw [if_neg (by simpa using hw y (by simp))]
  show addZ (putZ [] y.row y.w) ys = _
  rw [h1,addZ_cons hb.1,addZ_nil_rises hb.2 fun x hx=>hw x (by simp [hx])]
theorem mergeZ_addZ : ∀ (n : Nat) (a b : List Item),a.length + b.length ≤ n → Rises a → Rises b → (∀ x ∈ b,x.w ≠ 0) → mergeZ a b = addZ a b:=by
 intro n
 induction n with
 | zero=>intro a b h _ _ _; have ha : a = []:=List.length_eq_zero_iff.1 (by omega); have hb : b = []:=List.length_eq_zero_iff.1 (by omega); subst ha; subst hb; simp [mergeZ,addZ]
 | succ n ih=>
  intro a b h ha hb hw
  cases a with
  | nil=>rw [mergeZ_nil,addZ_nil_rises hb hw]
  | cons x xs=>
   cases b with
   | nil=>rw [mergeZ_nil2]; rfl
   | cons y ys=>
    simp only [List.length_cons] at h
    rw [mergeZ]
    by_cases h1 : cmpL x.row y.row < 0
    ·rw [if_pos h1,addZ_cons,ih xs (y :: ys) (by simp; omega) ha.2 hb hw]
     intro z hz
     rcases List.mem_cons.1 hz with rfl | hz
     ·rw [rowLess_iff]; exact h1
     ·exact rowLess_trans (by rw [rowLess_iff]; exact h1) (hb.1 z hz)
    ·rw [if_neg h1]
     have hnl : rowLess x.row y.row = false:=by rw [rowLess_false]; exact h1
     by_cases h2 : cmpL x.row y.row > 0
     ·rw [if_pos h2,ih (x :: xs) ys (by simp; omega) ha hb.2 fun z hz=>hw z (by simp [hz])]
      have hns : rowSame x.row y.row = false:=by
       cases hc : rowSame x.row y.row with
       | false=>rfl
       | true=>rw [rowSame_iff] at hc; rw [hc,cmpL_self] at h2; omega
      have hp : putZ (x :: xs) y.row y.w = y :: x :: xs:=by
       rw [putZ,if_neg (by rw [hnl]; simp),if_neg (by rw [hns]; simp),if_neg (by simpa using hw y (by simp))]
      show _ = addZ (putZ (x :: xs) y.row y.w) ys
      rw [hp]
      rw [addZ_cons hb.1]
     ·rw [if_neg h2]
      have he : x.row = y.row:=cmpL_eq (by omega)
      have hs : rowSame x.row y.row = true:=by rw [rowSame_iff]; exact he
      have hp : putZ (x :: xs) y.row y.w = if addW x.w y.w == 0 then xs else ⟨x.row,addW x.w y.w⟩ :: xs:=by
       rw [putZ,if_neg (by rw [hnl]; simp),if_pos hs]
      show _ = addZ (putZ (x :: xs) y.row y.w) ys
      rw [hp,ih xs ys (by omega) ha.2 hb.2 fun z hz=>hw z (by simp [hz])]
      cases hc : (addW x.w y.w == 0) with
      | true=>
       have : (addW x.w y.w != 0) = false:=by simp [bne,hc]
       rw [this]
       rfl
      | false=>
       have : (addW x.w y.w != 0) = true:=by simp [bne,hc]
       rw [this]
       show mixI x y :: addZ xs ys = addZ (⟨x.row,addW x.w y.w⟩ :: xs) ys
       rw [addZ_cons (x:=⟨x.row,addW x.w y.w⟩)]
       ·rfl
       ·intro z hz
        show rowLess x.row z.row = true
        rw [he]
        exact hb.1 z hz
theorem merge_add {a b : List Item} (ha : Rises a) (hb : zOk b = true) : mergeZ a b = addZ a b:=mergeZ_addZ _ a b (Nat.le_refl _) ha (zOk_rises hb) (zOk_w hb)
theorem sumZ_snoc (done : List (List Item)) (z : List Item) : sumZ (done ++ [z]) = addZ (sumZ done) z:=by simp [sumZ,List.foldl_append]
theorem sumZ_rises (done : List (List Item)) : Rises (sumZ done):=by
 unfold sumZ
 have : ∀ (l : List (List Item)) (a : List Item),Rises a → Rises (l.foldl addZ a):=by
  intro l
  induction l with
  | nil=>intro a h; exact h
  | cons z zs ih=>intro a h; exact ih _ (addZ_rises h z)
 exact this _ _ trivial
theorem runGo_eq : ∀ (rest done : List (List Item)),irunGo (sumZ done) rest = runGo done rest
 | [],_=>rfl
 | z :: rest,done=>by
  simp only [irunGo,runGo]
  cases hz : zOk z with
  | false=>simp
  | true=>
   have hm:=merge_add (sumZ_rises done) hz
   rw [hm,← sumZ_snoc,runGo_eq rest (done ++ [z])]
   cases done with
   | nil=>
    have : sumZ ([] ++ [z]) = z:=by
     rw [sumZ_snoc]
     exact addZ_nil_rises (zOk_rises hz) (zOk_w hz)
    rw [this,hz]
    simp
   | cons d ds=>simp [Bool.and_assoc]
theorem irunOk_eq (runs : List (List Item)) : irunOk runs = runOk runs:=by
 unfold irunOk runOk
 rw [← runGo_eq]
 rfl
theorem listEq_iff {α : Type} {f : α → α → Bool} : ∀ {us vs : List α},(∀ u ∈ us,∀ v,f u v = true → u = v) → listEq f us vs = true → us = vs
 | [],[],_,_=>rfl
 | [],_ :: _,_,h=>by simp [listEq] at h
 | _ :: _,[],_,h=>by simp [listEq] at h
 | u :: us,v :: vs,hf,h=>by
  simp only [listEq,Bool.and_eq_true] at h
  rw [hf u (by simp) v h.1,listEq_iff (fun x hx=>hf x (by simp [hx])) h.2]
theorem cellEq_iff {c d : Cell} (h : cellEq c d = true) : c = d:=by
 obtain ⟨k,a,b,n⟩:=c
 obtain ⟨k2,a2,b2,n2⟩:=d
 simp [cellEq] at h
 simp [h]
theorem testEq_iff {s t : Test} (h : testEq s t = true) : s = t:=by
 obtain ⟨k,no,⟨a1,a2,a3,a4⟩,⟨b1,b2,b3,b4⟩⟩:=s
 obtain ⟨k',no',⟨a1',a2',a3',a4'⟩,⟨b1',b2',b3',b4'⟩⟩:=t
 simp [testEq] at h
 simp [h]
theorem planEq_iff' : ∀ (N : Nat) (p q : Plan),SizeOf.sizeOf p ≤ N → planEq p q = true → p = q:=by
 intro N
 induction N with
 | zero=>intro p q h; cases p; simp at h
 | succ N ih=>
  intro p q hs h
  obtain ⟨kind,n,test,cells,a,b,keys,agg,c,kids⟩:=p
  obtain ⟨kind',n',test',cells',a',b',keys',agg',c',kids'⟩:=q
  simp only [planEq,planEqs_eq,Plan.kind,Plan.n,Plan.test,Plan.cells,Plan.a,Plan.b,Plan.keys,Plan.agg,Plan.col,Plan.kids,Bool.and_eq_true,beq_iff_eq] at h
  obtain ⟨⟨rfl,rfl,ht,rfl,rfl,rfl,rfl⟩,hc,hk,hks⟩:=h
  rw [testEq_iff ht,listEq_iff (fun _ _ _ h=>cellEq_iff h) hc,listEq_iff (fun u _ v h=>by simpa using h) hk,listEq_iff (fun u hu v h=>ih u v (by have:=List.sizeOf_lt_of_mem hu; simp at hs; omega) h) hks]
theorem planEq_iff {p q : Plan} (h : planEq p q = true) : p = q:=planEq_iff' _ p q (Nat.le_refl _) h
theorem flow_form : ∀ (d : Nat) (f : Flow),dep f.plan ≤ d → formF d f = flowOkP irunOk f:=by
 intro d
 induction d with
 | zero=>intro f h; obtain ⟨⟨kind,n,test,cells,a,b,keys,agg,c,kids⟩,l,r,ks⟩:=f; simp only [Flow.plan,dep] at h; omega
 | succ d ih=>
  intro f h
  obtain ⟨⟨kind,n,test,cells,a,b,keys,agg,c,kids⟩,l,r,ks⟩:=f
  simp only [Flow.plan,dep] at h
  rw [formF,flowOkP]
  have hsp : spinesOk runOk kind l r = spinesOk irunOk kind l r:=by simp only [spinesOk,irunOk_eq]
  have hks : ∀ (ks : List Flow) (qs : List Plan),(∀ q ∈ qs,dep q ≤ d) → kidsF d ks qs = kidsOkP irunOk ks qs:=by
   intro ks
   induction ks with
   | nil=>intro qs _; simp [kidsF,kidsOkP]
   | cons k ks ihk=>
    intro qs hq
    cases qs with
    | nil=>simp [kidsF,kidsOkP]
    | cons q qs=>
     simp only [kidsF,kidsOkP]
     rw [ihk qs fun x hx=>hq x (by simp [hx])]
     cases he : planEq k.plan q with
     | false=>rfl
     | true=>
      have:=planEq_iff he
      rw [ih k (by rw [this]; exact hq q (by simp))]
  simp only [Plan.kind,Plan.kids]
  rw [hsp,hks ks kids fun q hq=>by have:=deps_mem hq; omega]
theorem flowOk_eq (f : Flow) : (fit f.plan && formF 6 f) = (fit f.plan && flowOkP irunOk f):=by
 cases hf : fit f.plan with
 | false=>rfl
 | true=>
  have : dep f.plan ≤ 6:=by
   simp only [fit,Bool.and_eq_true] at hf
   exact form_dep 6 _ hf.1
  rw [flow_form 6 f this]
end Go.Proofs.YtncgofhhnhebjaaGreat

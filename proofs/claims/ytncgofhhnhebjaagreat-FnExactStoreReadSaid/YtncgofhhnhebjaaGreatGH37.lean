/- Items together, runs together: the reference's. -/
import Derived.Test.YtncgofhhnhebjaaGreatGSEj
import Derived.Test.YtncgofhhnhebjaaGreatGSEe
set_option linter.unusedVariables false
set_option linter.unusedSimpArgs false
/- The plain law: plans are as wide to both. -/
set_option maxHeartbeats 4000000
namespace Go.Proofs.YtncgofhhnhebjaaGreat
open Go Go.Am
theorem kfW_cases (w : Int) : kfW w = -1 ∨ (1 ≤ kfW w ∧ kfW w ≤ 6):=by
 unfold kfW
 split
 ·rename_i h
  simp only [Bool.and_eq_true,decide_eq_true_iff] at h
  exact .inr h
 ·exact .inl rfl
theorem wideP_cases (ws : List Int) (p : Plan) : wideP kfW ws p = -1 ∨ (1 ≤ wideP kfW ws p ∧ wideP kfW ws p ≤ 6):=by
 obtain ⟨kind,n,test,cells,a,b,keys,agg,c,kids⟩:=p
 rw [wideP]
 repeat' split
 all_goals first | exact .inl rfl | exact kfW_cases _
theorem wide4_eq (ws : List Int) : ∀ (d : Nat) (p : Plan),dep p ≤ d → wide4 ws d p = wideP kfW ws p:=by
 intro d
 induction d with
 | zero=>intro p h; obtain ⟨kind,n,test,cells,a,b,keys,agg,c,kids⟩:=p; simp only [dep] at h; omega
 | succ d ih=>
  intro p h
  obtain ⟨kind,n,test,cells,a,b,keys,agg,c,kids⟩:=p
  simp only [dep] at h
  have hks : ∀ q ∈ kids,wide4 ws d q = wideP kfW ws q:=fun q hq=>ih q (by have:=deps_mem hq; omega)
  have hws : wides4 ws d kids = widesP kfW ws kids:=by
   clear h
   induction kids with
   | nil=>simp [wides4,widesP]
   | cons q qs ihq=>
    have h1:=hks q (by simp)
    have h2:=ihq fun r hr=>hks r (by simp [hr])
    simp only [wides4,widesP,h1,h2]
    rcases wideP_cases ws q with e | e
    ·rw [e]; rfl
    ·have e1 : ¬ wideP kfW ws q < 1:=by omega
     have e2 : (wideP kfW ws q == -1) = false:=by simp; omega
     rw [if_neg e1,e2]
     rfl
  rw [wide4,wideP]
  by_cases hs : shaped (.mk kind n test cells a b keys agg c kids) = true
  ·rw [if_pos hs,if_pos hs]
   by_cases hk : kind = 1
   ·rw [if_pos hk,if_pos hk]
    cases ws with
    | nil=>
     subst hk
     have : partWide (.mk 1 n test cells a b keys agg c kids) [] = -1:=by
      show (if decide (0 ≤ n) && decide (n < (([] : List Int).length : Int)) then nth [] n.toNat else -1) = -1
      rw [if_neg]
      simp <;> omega
     rw [this]
     rfl
    | cons w ws=>rfl
   ·rw [if_neg hk,if_neg hk,hws]
    cases hw : widesP kfW ws kids with
    | none=>rfl
    | some l=>
     have hne : l.isEmpty = false:=by
      cases kids with
      | nil=>
       exfalso
       simp only [shaped,Plan.kind,Plan.kids,Bool.and_eq_true,beq_iff_eq] at hs
       have:=hs.1
       rcases kind_cases kind with rfl | rfl | rfl | rfl | rfl | rfl | rfl | ⟨h1,h2,h3,h4,h5,h6,h7⟩
       ·exact hk rfl
       all_goals first | (simp [kidsN] at this; done) | (simp only [beq_eq_false_iff_ne,ne_eq] at *; simp [kidsN,h1,h2,h3,h4,h5,h6,h7] at this)
      | cons q qs=>
       simp only [widesP] at hw
       split at hw
       ·cases hw
       ·cases hq : widesP kfW ws qs with
        | none=>rw [hq] at hw; cases hw
        | some m=>rw [hq] at hw; simp only [Option.map_some,Option.some.injEq] at hw; subst hw; rfl
     simp only [hne]
     rfl
  ·rw [if_neg hs,if_neg hs]
theorem wide4_deep (ws : List Int) : ∀ (d : Nat) (p : Plan),d < dep p → wide4 ws d p = -1:=by
 intro d
 induction d with
 | zero=>intro p h; simp [wide4]
 | succ d ih=>
  intro p h
  obtain ⟨kind,n,test,cells,a,b,keys,agg,c,kids⟩:=p
  simp only [dep] at h
  have hw : wides4 ws d kids = none:=by
   have hd : d < deps kids:=by omega
   clear h
   induction kids with
   | nil=>simp [deps] at hd
   | cons q qs ihq=>
    simp only [deps] at hd
    simp only [wides4]
    by_cases h1 : d < dep q
    ·rw [ih q h1]; rfl
    ·rw [ihq (by omega)]
     split <;> rfl
  rw [wide4]
  by_cases hs : shaped (.mk kind n test cells a b keys agg c kids) = true
  ·rw [if_pos hs]
   by_cases hk : kind = 1
   ·exfalso
    subst hk
    simp only [shaped,Plan.kind,Plan.kids,Bool.and_eq_true,beq_iff_eq] at hs
    have h1 : kidsN 1 = 0:=rfl
    have : kids = []:=List.length_eq_zero_iff.1 (by omega)
    subst this
    simp [deps] at h
   ·rw [if_neg hk,hw]
  ·rw [if_neg hs]
theorem planWide_eq (p : Plan) (ws : List Int) : planWide4 p ws = planWide p ws:=by
 unfold planWide4 planWide
 rw [sizeOkP_eq]
 by_cases hd : dep p ≤ 6
 ·rw [many_cnt 6 p (by omega),wide4_eq ws 6 p hd]
  simp [hd]
 ·rw [wide4_deep ws 6 p (by omega)]
  simp [hd]
end Go.Proofs.YtncgofhhnhebjaaGreat
/- l2Put. -/
set_option maxHeartbeats 4000000
namespace Go.Proofs.YtncgofhhnhebjaaGreat
open Go Go.Am
variable {pr : Prims} (hp : Okp pr)
set_option maxRecDepth 100000
theorem l2Put_own (hp : Okp pr) (z : List Item) (r : List Int) (w : Int) (rv : AVal) (hl : z.length ≤ big) (hz : ∀ x ∈ z,x.row.length ≤ big) (hr : r.length ≤ big) {id : Nat} {vs : List AVal} {F : List Nat} {h : Heap} {L : List Chunk}
  (S0 : Sepa h (.row id (.arr 2 vs) :: .dats (z.map Item.d) vs F :: L)) (hrv : ∀ h',Sepa h' L → Am.snap h' rv = some (.sl (r.map i64))) {K : ARes → Prop}
  (hK : ∀ v' h' F',Sepa h' (.acd 2 ((putZ z r w).map Item.d) v' F' :: L) → K (.ret v' h')) : wpFG (cfp pr) 118 [.own id 0 z.length,rv,i64 w] h K:=by
   have hvl : vs.length = z.length:=by have:=Owns_len (S0.get 1 rfl); simpa using this
   have hrs : Am.snap h rv = some (.sl (r.map i64)):=hrv h ((S0.drop 0).drop 0)
   conv=>whnf
   refine loopG (fun m tm hp=>∃ (j : Nat) (A : List Item) (B : List Item),j + m = z.length ∧ tm 7 = i64 (j : Nat) ∧ (hp = h) ∧ (z = A ++ B ∧ A.length = j ∧ ∀ x ∈ A,rowLess x.row r = true)) (fun m tm hq hfr hI=>?_) (z.length) ⟨0,[],z,by simp,(by first | rfl | kernel_rfl | simp),(rfl),(⟨rfl,rfl,by simp⟩)⟩
   obtain ⟨j,A,B,hj,e7,hh,hAB⟩:=hI
   have k0:=hfr 0 (by kernel_rfl)
   conv at k0=>rhs; whnf
   rw [← upd_id k0]
   have k1:=hfr 1 (by kernel_rfl)
   conv at k1=>rhs; whnf
   rw [← upd_id k1]
   have k2:=hfr 2 (by kernel_rfl)
   conv at k2=>rhs; whnf
   rw [← upd_id k2]
   rw [← upd_id e7]
   clear hfr k0 k1 k2 e7
   have S : Sepa hq []:=Sepa.nil hq
   conv=>whnf
   subst hh
   obtain ⟨rfl,hAl,hA⟩:=hAB
   clear S
   have S:=S0
   clear S0
   rw [List.length_append] at hj
   have hjb : j < 4611686018427387904:=by simp [big] at hl; omega
   cases B with
   | nil=>
    rw [List.append_nil] at *
    simp only [List.length_nil] at hj
    subst hAl
    have hput : putZ A r w = if w == 0 then A else A ++ [⟨r,w⟩]:=by
     have:=putZ_less (B:=[]) (w:=w) hA
     rw [List.append_nil] at this
     rw [this]
     unfold putZ
     split <;> simp
    rw [hput] at hK
    conv=>whnf
    refine bsel_false (by simp) ?_
    conv=>whnf
    refine bsel_false (by simp) ?_
    conv=>whnf
    refine bsel_intro (fun g1=>?_) (fun g1=>?_)
    ·rw [if_pos g1] at hK
     conv=>whnf
     exact ⟨_,rfl,hK _ _ _ (Sepa.acdClose S (by simp))⟩
    ·rw [if_neg (by rw [g1]; simp)] at hK
     have h3:=l1Copy_n hp r hr
     have hbig : A.length + 1 ≤ sizeLim:=by simp only [sizeLim,big] at *; omega
     conv=>whnf
     intro k1 c1 hk1 hh1
     replace S:=S.alloc hk1 hh1
     conv=>whnf
     refine ⟨_,S.row 1 rfl,⟨by simp,by simp,by simp⟩,?_⟩
     conv=>whnf
     refine ⟨trivial,?_⟩
     conv=>whnf
     refine ⟨[],elems_cut (S.row 1 rfl) (by simp; omega) (by simp),rfl,?_⟩
     refine AppR_cut S (Nat.le_refl _) (by simp) fun k2 c2 S2=>?_
     clear S
     have S : Sepa c2 (.row k2 (.arr 2 []) :: _):=S2
     clear S2
     conv=>whnf
     refine ⟨_,S.row 1 rfl,⟨by simp,by simp,by simp⟩,?_⟩
     conv=>whnf
     refine callD S h3 rfl (snapL1 (hrv _ (((S.drop 0).drop 0).drop 0))) fun Q q3 F3 o3 S3=>?_
     clear S
     have S:=S3
     clear S3
     conv=>whnf
     refine cellsG_intro o3.cell.1 ?_
     conv=>whnf
     intro kv_ hv_ hkv_ hhv_
     replace S:=S.alloc hkv_ hhv_
     conv=>whnf
     refine ⟨trivial,?_⟩
     conv=>whnf
     refine ⟨[_],elems_row1 (S.row 0 rfl),elem_agg rfl (allc o3.cell.2 rfl),?_⟩
     replace S:=S.drop 0
     dsimp only [List.eraseIdx] at S
     replace S:=S.front 2 rfl
     dsimp only [List.eraseIdx] at S
     refine AppR_cut S (by simp; omega) (by simp; omega) fun k4 c4 S4=>?_
     clear S
     rw [List.take_of_length_le (by simp; omega)] at S4
     have S : Sepa c4 (.row k4 (.arr 2 (vs ++ [AVal.agg [Q,i64 w]])) :: _):=S4
     clear S4
     conv=>whnf
     refine ⟨trivial,?_⟩
     conv=>whnf
     refine ⟨[],elems_cut (S.row 2 rfl) (by simp) (by simp),rfl,?_⟩
     refine AppR_cut S (by simp; omega) (by simp; omega) fun k5 c5 S5=>?_
     clear S
     rw [List.take_of_length_le (by simp; omega),List.append_nil] at S5
     have S6:=(S5.drop 2).front 1 rfl
     dsimp only [List.eraseIdx] at S6
     have S7:=(item_of (w:=w) S6).front 2 rfl
     dsimp only [List.eraseIdx] at S7
     have S8:=(Sepa.snoc S7.swap).swap
     conv=>whnf
     exact ⟨_,rfl,hK _ _ _ (by rw [List.map_append]; exact Sepa.acdClose S8 (by simp))⟩
   | cons b B=>
    simp only [List.length_cons] at hj
    obtain ⟨VA,P,VB,F0,G,F2,rfl,hVA,S1⟩:=Sepa.datsAt S.swap
    replace S1:=(S1.front 3 rfl)
    dsimp only [List.eraseIdx] at S1
    have hP : Own hq (Ints.d b.row) P G:=S1.get 2 rfl
    have hbr:=hz b (by simp)
    have hidx : 0 + ((j : Nat) : Int).toNat = VA.length:=by rw [hVA,hAl]; simp
    have h1:=(sRowLess_r hp b.row r hbr hr).here (args:=[P,rv]) (snapL2 (Ints.snap hP) hrs) rfl rfl
    have h2:=(sRowSame_r hp b.row r hbr hr).here (args:=[P,rv]) (snapL2 (Ints.snap hP) hrs) rfl rfl
    have hlen : (A ++ b :: B).length = j + (B.length + 1):=by simp [hAl]
    have hbig : j + (B.length + 1) + 1 ≤ sizeLim:=by rw [← hlen]; simp only [sizeLim,big] at *; omega
    have hput : rowLess b.row r = false → putZ (A ++ b :: B) r w = if rowSame b.row r then (if addW b.w w == 0 then A ++ B else A ++ ⟨b.row,addW b.w w⟩ :: B) else if w == 0 then A ++ b :: B else A ++ ⟨r,w⟩ :: b :: B:=fun hb=>by
     rw [putZ_less hA]
     unfold putZ
     rw [if_neg (by rw [hb]; simp)]
     repeat' split
     all_goals rfl
    conv=>whnf
    refine bsel_true (by simp; omega) ?_
    conv=>whnf
    refine ⟨_,S.row 0 rfl,⟨by omega,by omega⟩,?_⟩
    conv=>whnf
    refine .inr ⟨_,_,_,S.row 0 rfl,rowGet hidx,?_⟩
    conv=>whnf
    refine ⟨_,h1,?_⟩
    conv=>whnf
    refine bsel_intro (fun g1=>?_) (fun g1=>?_)
    ·conv=>whnf
     exact ⟨m - 1,by omega,j + 1,A ++ [b],B,by omega,nat_step j hjb,rfl,by simp,by simp [hAl],fun x hx=>by
      rcases List.mem_append.1 hx with hx | hx
      ·exact hA x hx
      ·simp at hx; subst hx; exact g1⟩
    ·rw [hput g1] at hK
     clear hput S
     have S:=S1
     clear S1
     conv=>whnf
     refine bsel_true (by simp; omega) ?_
     conv=>whnf
     refine ⟨_,S.row 0 rfl,⟨by omega,by omega⟩,?_⟩
     conv=>whnf
     refine .inr ⟨_,_,_,S.row 0 rfl,rowGet hidx,?_⟩
     conv=>whnf
     refine ⟨_,h2,?_⟩
     conv=>whnf
     refine bsel_intro (fun g2=>?_) (fun g2=>?_)
     ·rw [if_pos g2] at hK
      conv=>whnf
      refine ⟨_,S.row 0 rfl,⟨by omega,by omega⟩,?_⟩
      conv=>whnf
      refine .inr ⟨_,_,_,S.row 0 rfl,rowGet hidx,?_⟩
      conv=>whnf
      refine ⟨_,S.row 0 rfl,⟨by omega,by omega⟩,?_⟩
      conv=>whnf
      refine ⟨_,rfl,rfl,rfl,.inr ⟨_,_,_,S.row 0 rfl,rowGet hidx,?_⟩⟩
      conv=>whnf
      intro c1 hh_c1
      replace S:=S.setRow 0 (e':=(.agg [P,i64 (addW b.w w)])) rfl hidx hh_c1
      clear hh_c1
      dsimp only [List.set] at S
      conv=>whnf
      refine ⟨_,S.row 0 rfl,⟨by omega,by omega⟩,?_⟩
      conv=>whnf
      refine .inr ⟨_,_,_,S.row 0 rfl,rowGet hidx,?_⟩
      conv=>whnf
      refine bsel_intro (fun g3=>?_) (fun g3=>?_)
      ·rw [if_pos g3] at hK
       have hw : IntKind.i64.wrap (((j : Nat) : Int) + 1) = (j : Int) + 1:=by rw [IntKind.wrap_i64]; omega
       have hVB : VB.all (elemOk 2) = true:=itemsD (S.get 3 rfl : Owns c1 (B.map Item.d) VB F2)
       have hVl : VB.length = B.length:=by have:=Owns_len (S.get 3 rfl : Owns c1 (B.map Item.d) VB F2); simpa using this
       conv=>whnf
       refine ⟨_,S.row 0 rfl,⟨by simp,by simp,by simp; omega⟩,?_⟩
       conv=>whnf
       refine ⟨_,S.row 0 rfl,⟨by rw [hw]; simp; omega,by rw [hw]; simp; omega,by simp⟩,?_⟩
       conv=>whnf
       refine ⟨trivial,?_⟩
       conv=>whnf
       refine ⟨VB,elems_cut (S.row 0 rfl) (by rw [hw]; simp; omega) ?_,hVB,?_⟩
       ·rw [hw]
        rw [show 0 + ((some ((j : Int) + 1)).getD 0).toNat = VA.length + 1 by simp; omega,show VA ++ AVal.agg [P,i64 (addW b.w w)] :: VB = (VA ++ [AVal.agg [P,i64 (addW b.w w)]]) ++ VB by simp,List.drop_left' (by simp)]
        rw [List.take_of_length_le]
        simp
        omega
       refine AppR_cut S (by simp; omega) (by simp; omega) fun k c2 S2=>?_
       conv=>whnf
       rw [show (VA ++ AVal.agg [P,i64 (addW b.w w)] :: VB).take (((some ((j : Nat) : Int)).getD ((A ++ b :: B).length : Nat)).toNat - ((none : Option Int).getD 0).toNat) = VA by
        rw [show ((some ((j : Nat) : Int)).getD ((A ++ b :: B).length : Nat)).toNat - ((none : Option Int).getD 0).toNat = VA.length by simp; omega,List.take_left]] at S2
       have S3:=((S2.drop 2).front 2 rfl).front 2 rfl
       dsimp only [List.eraseIdx] at S3
       have S4:=(Sepa.dappend S3).swap
       rw [← List.map_append] at S4
       exact ⟨_,rfl,hK _ _ _ (Sepa.acdClose S4 (by simp; omega))⟩
      ·rw [if_neg (by rw [g3]; simp)] at hK
       conv=>whnf
       have S2:=((S.front 3 rfl).front 3 rfl).front 3 rfl
       dsimp only [List.eraseIdx] at S2
       obtain ⟨F3,S3⟩:=Sepa.datsOf (w:=addW b.w w) S2
       exact ⟨_,rfl,hK _ _ _ (Sepa.acdClose S3.swap (by simp))⟩
     ·rw [if_neg (by rw [g2]; simp)] at hK
      conv=>whnf
      refine bsel_intro (fun g3=>?_) (fun g3=>?_)
      ·rw [if_pos g3] at hK
       conv=>whnf
       have S2:=((S.front 3 rfl).front 3 rfl).front 3 rfl
       dsimp only [List.eraseIdx] at S2
       obtain ⟨F3,S3⟩:=Sepa.datsOf (w:=b.w) S2
       exact ⟨_,rfl,hK _ _ _ (Sepa.acdClose S3.swap (by simp))⟩
      ·rw [if_neg (by rw [g3]; simp)] at hK
       have hVB : VB.all (elemOk 2) = true:=itemsD (S.get 3 rfl : Owns hq (B.map Item.d) VB F2)
       have hVl : VB.length = B.length:=by have:=Owns_len (S.get 3 rfl : Owns hq (B.map Item.d) VB F2); simpa using this
       have heb : elemOk 2 (.agg [P,i64 b.w]) = true:=by
        have:=elem_agg (cs:=[P,i64 b.w]) (sz:=2) rfl (allc hP.cell.2 rfl)
        rwa [List.all_cons,List.all_nil,Bool.and_true] at this
       have hEB : (AVal.agg [P,i64 b.w] :: VB).all (elemOk 2) = true:=by rw [List.all_cons,heb,hVB]; rfl
       have h3:=l1Copy_n hp r hr
       conv=>whnf
       intro k1 c1 hk1 hh1
       replace S:=S.alloc hk1 hh1
       conv=>whnf
       refine ⟨_,S.row 1 rfl,⟨by simp,by simp; omega,by simp⟩,?_⟩
       conv=>whnf
       refine ⟨trivial,?_⟩
       conv=>whnf
       refine ⟨AVal.agg [P,i64 b.w] :: VB,elems_cut (S.row 1 rfl) (by simp; omega) ?_,hEB,?_⟩
       ·rw [show 0 + ((some ((j : Nat) : Int)).getD 0).toNat = VA.length by simp; omega,List.drop_left,List.take_of_length_le]
        simp
        omega
       refine AppR_cut S (Nat.le_refl _) (by simp; omega) fun k2 c2 S2=>?_
       clear S
       have S : Sepa c2 (.row k2 (.arr 2 (AVal.agg [P,i64 b.w] :: VB)) :: _):=S2
       clear S2
       conv=>whnf
       refine ⟨_,S.row 1 rfl,⟨by simp,by simp,by simp; omega⟩,?_⟩
       conv=>whnf
       refine callD S h3 rfl (snapL1 (hrv _ (((((S.drop 0).drop 0).drop 0).drop 0).drop 0))) fun Q q3 F3 o3 S3=>?_
       clear S
       have S:=S3
       clear S3
       conv=>whnf
       refine cellsG_intro o3.cell.1 ?_
       conv=>whnf
       intro kv_ hv_ hkv_ hhv_
       replace S:=S.alloc hkv_ hhv_
       conv=>whnf
       refine ⟨trivial,?_⟩
       conv=>whnf
       refine ⟨[_],elems_row1 (S.row 0 rfl),elem_agg rfl (allc o3.cell.2 rfl),?_⟩
       replace S:=S.drop 0
       dsimp only [List.eraseIdx] at S
       replace S:=S.front 2 rfl
       dsimp only [List.eraseIdx] at S
       refine AppR_cut S (by simp; omega) (by simp; omega) fun k4 c4 S4=>?_
       clear S
       rw [show (VA ++ AVal.agg [P,i64 b.w] :: VB).take (((some ((j : Nat) : Int)).getD ((A ++ b :: B).length : Nat)).toNat - ((none : Option Int).getD 0).toNat) = VA by
        rw [show ((some ((j : Nat) : Int)).getD ((A ++ b :: B).length : Nat)).toNat - ((none : Option Int).getD 0).toNat = VA.length by simp; omega,List.take_left]] at S4
       have S : Sepa c4 (.row k4 (.arr 2 (VA ++ [AVal.agg [Q,i64 w]])) :: _):=S4
       clear S4
       conv=>whnf
       refine ⟨trivial,?_⟩
       conv=>whnf
       refine ⟨AVal.agg [P,i64 b.w] :: VB,elems_cut (S.row 2 rfl) (by simp) (by simp),hEB,?_⟩
       refine AppR_cut S (by simp; omega) (by simp; omega) fun k5 c5 S5=>?_
       clear S
       rw [List.take_of_length_le (by simp; omega),List.append_assoc] at S5
       have S6:=(S5.drop 2).front 3 rfl
       dsimp only [List.eraseIdx] at S6
       have S7:=S6.is (c':=.dat b.d (.agg [P,i64 b.w]) (G ++ [])) (Own_g.2 ⟨_,rfl,OwnC_one (S6.get 0 rfl) (OwnC_int OwnC_no)⟩) (by simp [Chunk.dat])
       have S8:=Sepa.dcons (S7.front 4 rfl).swap
       dsimp only [List.eraseIdx] at S8
       have S9:=(S8.front 2 rfl).front 3 rfl
       dsimp only [List.eraseIdx] at S9
       obtain ⟨F9,S10⟩:=Sepa.datsOf (B:=b :: B) (w:=w) S9
       conv=>whnf
       exact ⟨_,rfl,hK _ _ _ (Sepa.acdClose S10.swap (by simp; omega))⟩
theorem l2Put_nil (hp : Okp pr) (r : List Int) (w : Int) (rv : AVal) (hr : r.length ≤ big) {h : Heap} {L : List Chunk} (S : Sepa h L) (hrv : ∀ h',Sepa h' L → Am.snap h' rv = some (.sl (r.map i64))) {K : ARes → Prop}
  (hK : ∀ v' h' F',Sepa h' (.acd 2 ((putZ [] r w).map Item.d) v' F' :: L) → K (.ret v' h')) : wpFG (cfp pr) 118 [.nil,rv,i64 w] h K:=by
   have h3:=l1Copy_n hp r hr
   unfold putZ at hK
   conv=>whnf
   refine loopG1 ?_
   conv=>whnf
   refine bsel_intro (fun g1=>?_) (fun g1=>?_)
   ·rw [if_pos g1] at hK
    conv=>whnf
    exact ⟨_,rfl,hK _ _ _ (Sepa.acd0 2 S)⟩
   ·rw [if_neg (by rw [g1]; simp)] at hK
    conv=>whnf
    intro k1 c1 hk1 hh1
    replace S:=S.alloc hk1 hh1
    conv=>whnf
    refine ⟨⟨rfl,rfl⟩,?_⟩
    conv=>whnf
    refine ⟨trivial,?_⟩
    conv=>whnf
    refine ⟨[],rfl,rfl,?_⟩
    refine AppR_cut S (Nat.le_refl _) (by simp) fun k2 c2 S2=>?_
    clear S
    have S : Sepa c2 (.row k2 (.arr 2 []) :: _):=S2
    clear S2
    conv=>whnf
    refine ⟨⟨rfl,rfl⟩,?_⟩
    conv=>whnf
    refine callD S h3 rfl (snapL1 (hrv _ (S.drop 0))) fun Q q3 F3 o3 S3=>?_
    clear S
    have S:=S3
    clear S3
    conv=>whnf
    refine cellsG_intro o3.cell.1 ?_
    conv=>whnf
    intro kv_ hv_ hkv_ hhv_
    replace S:=S.alloc hkv_ hhv_
    conv=>whnf
    refine ⟨trivial,?_⟩
    conv=>whnf
    refine ⟨[_],elems_row1 (S.row 0 rfl),elem_agg rfl (allc o3.cell.2 rfl),?_⟩
    replace S:=S.drop 0
    dsimp only [List.eraseIdx] at S
    refine appD (sz:=2) ((Sepa.acd0 2 (item_of (w:=w) S))) (by simp [sizeLim]) fun k4 c4 F4 S4=>?_
    clear S
    have S:=S4
    clear S4
    conv=>whnf
    refine ⟨trivial,?_⟩
    conv=>whnf
    refine ⟨[],elems_cut (S.row 1 rfl) (by simp) (by simp),rfl,?_⟩
    rcases Sepa.acdOpen S with ⟨g1,_,_⟩ | ⟨id,vs,Fs,he,S5⟩
    ·simp at g1
    ·cases he
     have hvl : vs.length = 1:=by have:=Owns_len (S5.get 1 rfl); simpa using this
     refine AppR_cut S5 (by simp; omega) (by simp [sizeLim]) fun k5 c5 S6=>?_
     rw [List.take_of_length_le (by simp; omega),List.append_nil] at S6
     conv=>whnf
     exact ⟨_,rfl,hK _ _ _ (Sepa.acdClose (xs:=[Item.d ⟨r,w⟩]) ((((S6.front 2 rfl).drop 0).swap).swap) (by simp))⟩
include hp in
theorem callPut (z : List Item) (r : List Int) (w : Int) (rv : AVal) (hl : z.length ≤ big) (hz : ∀ x ∈ z,x.row.length ≤ big) (hr : r.length ≤ big) {v : AVal} {F : List Nat} {h : Heap} {L : List Chunk}
  (S : Sepa h (.acd 2 (z.map Item.d) v F :: L)) (hrv : ∀ h',Sepa h' L → Am.snap h' rv = some (.sl (r.map i64))) {K : ARes → Prop}
  (hK : ∀ v' h' F',Sepa h' (.acd 2 ((putZ z r w).map Item.d) v' F' :: L) → K (.ret v' h')) : ∃ x,callM (cfp pr) (call (cfp pr)) 118 [v,rv,i64 w] h = some x ∧ K x:=by
   rw [callF rfl]
   rcases Sepa.acdOpen S with ⟨g1,rfl,S1⟩ | ⟨id,vs,Fs,rfl,S1⟩
   ·have : z = []:=List.map_eq_nil_iff.1 g1
    subst this
    exact wpFG_sound (hp.out _ rfl) (l2Put_nil hp r w rv hr S1 hrv hK)
   ·rw [List.length_map]
    exact wpFG_sound (hp.out _ rfl) (l2Put_own hp z r w rv hl hz hr S1 hrv hK)
end Go.Proofs.YtncgofhhnhebjaaGreat
/- Items together, runs together: the reference's. -/
set_option maxHeartbeats 4000000
namespace Go.Proofs.YtncgofhhnhebjaaGreat
open Go Go.Am
variable {pr : Prims} (hp : Okp pr)
set_option maxRecDepth 100000
theorem snap_ints (h : Heap) (xs : List Int) : Am.snap h (.sl (xs.map i64)) = some (.sl (xs.map i64)):=rfl
theorem addZ_step {a b : List Item} {j : Nat} (h : j < b.length) : addZ a (b.take (j + 1)) = putZ (addZ a (b.take j)) b[j].row b[j].w:=by
 rw [take_snoc h,addZ,List.foldl_append]
 rfl
theorem l2Add_a (hp : Okp pr) (a b : List Item) (ha : zsm a) (hb : zsm b) (hl : a.length + b.length ≤ big) : RetA pr 78 [.sl (a.map Item.enc),.sl (b.map Item.enc)] 2 ((addZ a b).map Item.d):=by
 have h1:=l2Copy_a hp a ha
 refine retA_of hp rfl ?_
 have S : Sepa [] []:=Sepa.nil []
 conv=>whnf
 refine callA S h1 rfl rfl fun v1 q1 F1 S1=>?_
 replace S:=S1
 clear S1
 conv=>whnf
 refine loopG (fun m tm hp=>∃ (j : Nat) (D : AVal) (F : List Nat),j + m = b.length ∧ tm 5 = D ∧ tm 6 = i64 (j : Nat) ∧ Sepa hp [.acd 2 ((addZ a (b.take j)).map Item.d) D F]) (fun m tm hq hfr hI=>?_) (b.length) ⟨0,v1,F1,by simp,(by first | rfl | kernel_rfl | simp),(by first | rfl | kernel_rfl | simp),S⟩
 obtain ⟨j,D,F,hj,e5,e6,S2⟩:=hI
 have k1:=hfr 1 (by kernel_rfl)
 conv at k1=>rhs; whnf
 rw [← upd_id k1]
 rw [← upd_id e5]
 rw [← upd_id e6]
 clear hfr k1 e5 e6
 clear S
 have S:=S2
 clear S2
 conv=>whnf
 have hjb : j < 4611686018427387904:=by simp [big] at hl; omega
 refine bsel_intro (fun h1=>?_) (fun h1=>?_)
 ·have hjl : j < b.length:=by simpa using h1
  have hge : (b.map Item.enc)[((j : Nat) : Int).toNat]? = some (Item.enc b[j]):=by rw [Int.toNat_natCast]; simp [hjl]
  have hzz:=addZ_zsm (a:=a) (b:=b.take j) ha.2 (fun x hx=>hb.2 x (List.mem_of_mem_take hx))
  have hst:=addZ_step (a:=a) hjl
  have hrow:=hb.2 _ (List.getElem_mem hjl)
  generalize b[j] = x at hge hst hrow
  obtain ⟨row,w⟩:=x
  conv=>whnf
  refine ⟨_,hge,by omega,rfl,?_⟩
  conv=>whnf
  refine ⟨_,hge,by omega,rfl,?_⟩
  conv=>whnf
  refine callPut hp _ row w _ (by have:=hzz.1; simp at this; omega) hzz.2 hrow S (fun h' _=>snap_ints h' row) fun v' h' F' S1=>?_
  conv=>whnf
  exact ⟨m - 1,by omega,j + 1,_,_,by omega,rfl,nat_step j hjb,by rw [hst]; exact S1⟩
 ·have hjl : j = b.length:=by
   have : ¬ j < b.length:=by simpa using h1
   omega
  subst hjl
  rw [List.take_length] at S
  conv=>whnf
  exact ⟨_,rfl,_,_,_,rfl,S.get 0 rfl,(S.get' 0 _ rfl).2⟩
def sumZ (runs : List (List Item)) : List Item:=runs.foldl addZ []
theorem sumZ_step {runs : List (List Item)} {j : Nat} (h : j < runs.length) : sumZ (runs.take (j + 1)) = addZ (sumZ (runs.take j)) runs[j]:=by
 rw [take_snoc h,sumZ,List.foldl_append]
 rfl
theorem sumZ_zsm {runs : List (List Item)} (h : ∀ z ∈ runs,zOk z = true) : (sumZ runs).length ≤ 100 * runs.length ∧ ∀ x ∈ sumZ runs,x.row.length ≤ big:=by
 have key : ∀ (rs : List (List Item)) (a : List Item),(∀ z ∈ rs,zOk z = true) → (∀ x ∈ a,x.row.length ≤ big) → (rs.foldl addZ a).length ≤ a.length + 100 * rs.length ∧ ∀ x ∈ rs.foldl addZ a,x.row.length ≤ big:=by
  intro rs
  induction rs with
  | nil=>intro a _ ha; exact ⟨by simp,ha⟩
  | cons z zs ih=>
   intro a hz ha
   have h1:=zOk_zsm (hz z (by simp))
   have h2:=addZ_zsm ha h1.2
   have h3:=(zOk_row (hz z (by simp))).1
   obtain ⟨h4,h5⟩:=ih (addZ a z) (fun y hy=>hz y (by simp [hy])) h2.2
   simp only [List.foldl_cons,List.length_cons]
   exact ⟨by omega,h5⟩
 have:=key runs [] h (by simp)
 unfold sumZ
 exact ⟨by simpa using this.1,this.2⟩
theorem l7Sum_r (hp : Okp pr) (runs : List (List Item)) (hz : ∀ z ∈ runs,zOk z = true) (hl : runs.length ≤ 1000) : Ret pr 193 [.agg [Runs.enc runs]] (Items.enc (sumZ runs)):=by
 refine retg hp rfl rfl ?_
 have S : Sepa [] []:=Sepa.nil []
 conv=>whnf
 intro k1 a1 hk1 hh1
 replace S:=S.alloc hk1 hh1
 conv=>whnf
 intro k2 a2 hk2 hh2
 replace S:=Sepa.acdRow (S.alloc hk2 hh2)
 conv=>whnf
 refine loopG (fun m tm hp=>∃ (j : Nat) (D : AVal) (F : List Nat),j + m = runs.length ∧ tm 3 = D ∧ tm 4 = i64 (j : Nat) ∧ Sepa hp [.acd 2 ((sumZ (runs.take j)).map Item.d) D F,.row k1 (.box (.agg [Runs.enc runs]))]) (fun m tm hq hfr hI=>?_) (runs.length) ⟨0,.own k2 0 0,[k2],by simp,(by first | rfl | kernel_rfl | simp),(by first | rfl | kernel_rfl | simp),S⟩
 obtain ⟨j,D,F,hj,e3,e4,S2⟩:=hI
 have k1:=hfr 1 (by kernel_rfl)
 conv at k1=>rhs; whnf
 rw [← upd_id k1]
 rw [← upd_id e3]
 rw [← upd_id e4]
 clear hfr k1 e3 e4
 clear S
 have S:=S2
 clear S2
 conv=>whnf
 have hjb : j < 4611686018427387904:=by omega
 refine .inl ⟨_,S.row 1 rfl,rfl,?_⟩
 conv=>whnf
 refine bsel_intro (fun h1=>?_) (fun h1=>?_)
 ·have hjl : j < runs.length:=by simpa using h1
  have hge : (runs.map Items.enc)[((j : Nat) : Int).toNat]? = some (Items.enc runs[j]):=by rw [Int.toNat_natCast]; simp [hjl]
  have hst:=sumZ_step hjl
  have hx:=hz _ (List.getElem_mem hjl)
  have hs:=sumZ_zsm (runs:=runs.take j) (fun z h=>hz z (List.mem_of_mem_take h))
  have hzs : zsm (sumZ (runs.take j)):=⟨by have:=hs.1; simp [big] at this ⊢; omega,hs.2⟩
  have hadd:=l2Add_a hp (sumZ (runs.take j)) runs[j] hzs (zOk_zsm hx) (by have:=hs.1; have:=(zOk_row hx).1; simp [big] at *; omega)
  have hsn : Am.snap hq D = some (Items.enc (sumZ (runs.take j))):=Items.ofDat (show AcD _ _ _ _ _ from S.get 0 rfl).1
  generalize runs[j] = x at hge hst hx hadd
  conv=>whnf
  refine .inl ⟨_,S.row 1 rfl,rfl,?_⟩
  conv=>whnf
  refine ⟨_,hge,by omega,rfl,?_⟩
  conv=>whnf
  refine callA S hadd rfl (snapL2 hsn rfl) fun v' h' F' S1=>?_
  conv=>whnf
  replace S1:=S1.pick [0,2] (by decide)
  simp only [pickL,List.getElem?_cons_zero,List.getElem?_cons_succ] at S1
  exact ⟨m - 1,by omega,j + 1,_,_,by omega,rfl,nat_step j hjb,by rw [hst]; exact S1⟩
 ·have hjl : j = runs.length:=by
   have : ¬ j < runs.length:=by simpa using h1
   omega
  subst hjl
  rw [List.take_length] at S
  conv=>whnf
  exact ⟨_,rfl,_,_,rfl,Items.ofDat (show AcD _ _ _ _ _ from S.get 0 rfl).1⟩
def runGo : List (List Item) → List (List Item) → Bool
 | _,[]=>true
 | done,z :: rest=>(zOk z && !z.isEmpty) && ((done.isEmpty || zOk (sumZ (done ++ [z]))) && runGo (done ++ [z]) rest)
def runOk (runs : List (List Item)) : Bool:=decide (runs.length ≤ 5) && runGo [] runs
theorem runGo_at {runs : List (List Item)} {j : Nat} (h : j < runs.length) : runGo (runs.take j) (runs.drop j) = ((zOk runs[j] && !runs[j].isEmpty) && (((runs.take j).isEmpty || zOk (sumZ (runs.take (j + 1)))) && runGo (runs.take (j + 1)) (runs.drop (j + 1)))):=by
 rw [List.drop_eq_getElem_cons h,take_snoc h]
 rfl
def runsm (runs : List (List Item)) : Prop:=runs.length ≤ big ∧ ∀ z ∈ runs,zsm z
theorem sRunOk_r (hp : Okp pr) (runs : List (List Item)) (hr : runsm runs) : Ret pr 166 [.agg [Runs.enc runs]] (.bool (runOk runs)):=by
 obtain ⟨hl,hr⟩:=hr
 refine retg hp rfl rfl ?_
 have S : Sepa [] []:=Sepa.nil []
 conv=>whnf
 intro k1 a1 hk1 hh1
 replace S:=S.alloc hk1 hh1
 conv=>whnf
 refine .inl ⟨_,S.row 0 rfl,rfl,?_⟩
 conv=>whnf
 refine bsel_intro (fun h0=>?_) (fun h0=>?_)
 ·conv=>whnf
  exact g_bool (by have : ¬ runs.length ≤ 5 := by simp at h0; omega
                   simp [runOk,this])
 have h5 : runs.length ≤ 5:=by simp at h0; omega
 have hz : runOk runs = runGo [] runs:=by simp [runOk,h5]
 rw [hz]
 clear hz h0
 conv=>whnf
 refine loopG (fun m tm hp=>∃ (j : Nat),j + m = runs.length ∧ tm 3 = i64 (j : Nat) ∧ Sepa hp [.row k1 (.box (.agg [Runs.enc runs]))] ∧ (runGo [] runs = runGo (runs.take j) (runs.drop j) ∧ ∀ z ∈ runs.take j,zOk z = true)) (fun m tm hq hfr hI=>?_) (runs.length) ⟨0,by simp,(by first | rfl | kernel_rfl | simp),S,(⟨rfl,by simp⟩)⟩
 obtain ⟨j,hj,e3,S2,hall⟩:=hI
 have k1:=hfr 1 (by kernel_rfl)
 conv at k1=>rhs; whnf
 rw [← upd_id k1]
 rw [← upd_id e3]
 clear hfr k1 e3
 clear S
 have S:=S2
 clear S2
 conv=>whnf
 obtain ⟨hall,hok⟩:=hall
 refine .inl ⟨_,S.row 0 rfl,rfl,?_⟩
 conv=>whnf
 refine bsel_intro (fun h1=>?_) (fun h1=>?_)
 ·have hjl : j < runs.length:=by simpa using h1
  have hge : (runs.map Items.enc)[((j : Nat) : Int).toNat]? = some (Items.enc runs[j]):=by rw [Int.toNat_natCast]; simp [hjl]
  rw [runGo_at hjl] at hall
  have hx:=hr _ (List.getElem_mem hjl)
  have h2:=sZOk_r hp runs[j] hx
  have htk:=take_snoc hjl
  have hwr : IntKind.i64.wrap (((j : Nat) : Int) + 1) = (j : Int) + 1:=by rw [IntKind.wrap_i64]; omega
  have hok1 : zOk runs[j] = true → ∀ z ∈ runs.take (j + 1),zOk z = true:=fun h z hz=>by
   rw [htk] at hz
   rcases List.mem_append.1 hz with hz | hz
   ·exact hok z hz
   ·simp at hz; subst hz; exact h
  have h4 : zOk runs[j] = true → Ret pr 193 [.agg [.sl (((runs.map Items.enc).drop 0).take (IntKind.i64.wrap (((j : Nat) : Int) + 1)).toNat)]] (Items.enc (sumZ (runs.take (j + 1)))):=fun h=>by
   rw [hwr,List.drop_zero,← List.map_take]
   exact l7Sum_r hp _ (hok1 h) (by simp; omega)
  have h6 : zOk runs[j] = true → Ret pr 31 [Items.enc (sumZ (runs.take (j + 1)))] (.bool (zOk (sumZ (runs.take (j + 1))))):=fun h=>by
   have:=sumZ_zsm (hok1 h)
   exact sZOk_r hp _ ⟨by have h':=this.1; simp at h'; simp [big]; omega,this.2⟩
  generalize hx' : runs[j] = x at hge h2 hall htk h4 h6 hok1
  conv=>whnf
  refine .inl ⟨_,S.row 0 rfl,rfl,?_⟩
  conv=>whnf
  refine ⟨_,hge,by omega,rfl,?_⟩
  conv=>whnf
  refine ⟨_,h2 _,?_⟩
  conv=>whnf
  refine bsel_intro (fun h3=>?_) (fun h3=>?_)
  ·replace h4:=h4 h3
   replace h6:=h6 h3
   replace hok1:=hok1 h3
   clear h2
   rw [h3] at hall
   conv=>whnf
   refine .inl ⟨_,S.row 0 rfl,rfl,?_⟩
   conv=>whnf
   refine ⟨_,hge,by omega,rfl,?_⟩
   conv=>whnf
   refine bsel_intro (fun h7=>?_) (fun h7=>?_)
   ·conv=>whnf
    exact g_bool (by rw [hall]; have : x = []:=List.length_eq_zero_iff.1 (by simpa using h7); subst this; first | done | rfl)
   ·have hne : x.isEmpty = false:=by cases x with | nil=>simp at h7 | cons a b=>rfl
    rw [hne] at hall
    simp only [Bool.not_false,Bool.and_true,Bool.true_and] at hall
    cases j with
    | zero=>
     conv=>whnf
     exact ⟨m - 1,by omega,1,by omega,nat_step 0 (by omega),S,by rw [hall]; rfl,hok1⟩
    | succ i=>
     have hemp : (runs.take (i + 1)).isEmpty = false:=by
      cases runs with
      | nil=>simp at hjl
      | cons y ys=>rfl
     rw [hemp,Bool.false_or] at hall
     conv=>whnf
     refine bsel_true (by simp <;> omega) ?_
     conv=>whnf
     refine .inl ⟨_,S.row 0 rfl,rfl,?_⟩
     conv=>whnf
     refine ⟨⟨by decide,by rw [hwr]; simp; omega,by rw [hwr]; simp; omega,by rw [List.all_eq_true]; intro y hy; obtain ⟨q,_,rfl⟩:=List.mem_map.1 hy; rfl⟩,?_⟩
     conv=>whnf
     refine ⟨_,h4 _,?_⟩
     conv=>whnf
     refine ⟨_,h6 _,?_⟩
     conv=>whnf
     refine bsel_intro (fun h8=>?_) (fun h8=>?_)
     ·rw [h8,Bool.true_and] at hall
      conv=>whnf
      exact ⟨m - 1,by omega,i + 1 + 1,by omega,nat_step (i + 1) (by omega),S,hall,hok1⟩
     ·conv=>whnf
      exact g_bool (by rw [hall,h8]; first | done | rfl)
  ·conv=>whnf
   exact g_bool (by rw [hall,h3]; simp)
 ·have hjl : j = runs.length:=by
   have : ¬ j < runs.length:=by simpa using h1
   omega
  subst hjl
  rw [List.drop_length] at hall
  conv=>whnf
  exact g_bool (by rw [hall]; first | done | rfl)
def satZ (at' : Int) : List Item → List Past → List Item
 | z,[]=>z
 | z,p :: ps=>satZ at' (if p.at' ≤ at' then addZ z p.out else z) ps
theorem l9At_a (hp : Okp pr) (v : View) (at' : Int) (more : List Item) (hb : zOk v.base = true) (ho : ∀ p ∈ v.pasts,zOk p.out = true) (hl : v.pasts.length ≤ 1000000) (hm : zOk more = true) :
  RetA pr 30 [v.enc,i64 at',Items.enc more] 2 ((addZ (satZ at' v.base v.pasts) more).map Item.d):=by
   obtain ⟨⟨⟨kind,n,test,cells,a,b,keys,agg,col,kids⟩,l,r,ks⟩,since,base,pasts⟩:=v
   simp only at hb ho hl
   have h1:=l2Copy_a hp base (zOk_zsm hb)
   have hml : more.length ≤ 100:=(zOk_row hm).1
   refine retA_of hp rfl ?_
   have S : Sepa [] []:=Sepa.nil []
   conv=>whnf
   intro k1 a1 hk1 hh1
   replace S:=S.alloc hk1 hh1
   iterate 1
    all_goals (try (conv=>whnf))
    all_goals (first | (intro ka_ ha_ hk_ hh_; replace S:=S.alloc hk_ hh_) | (refine .inl ⟨_,S.row 0 rfl,rfl,?_⟩) | (refine .inl ⟨_,S.row 1 rfl,rfl,?_⟩) | (refine .inl ⟨_,S.row 2 rfl,rfl,?_⟩) | (refine .inl ⟨_,S.row 3 rfl,rfl,?_⟩) | (refine .inl ⟨_,S.row 4 rfl,rfl,?_⟩) | (refine ⟨_,rfl,rfl,rfl,.inl ⟨_,S.row 0 rfl,rfl,?_⟩⟩; (conv=>whnf); intro ha_ hh_; replace S:=S.set 0 rfl hh_; dsimp only [List.set] at S) | (refine ⟨_,rfl,rfl,rfl,.inl ⟨_,S.row 1 rfl,rfl,?_⟩⟩; (conv=>whnf); intro ha_ hh_; replace S:=S.set 1 rfl hh_; dsimp only [List.set] at S) | (refine ⟨_,rfl,rfl,rfl,.inl ⟨_,S.row 2 rfl,rfl,?_⟩⟩; (conv=>whnf); intro ha_ hh_; replace S:=S.set 2 rfl hh_; dsimp only [List.set] at S) | (refine ⟨_,rfl,rfl,rfl,.inl ⟨_,S.row 3 rfl,rfl,?_⟩⟩; (conv=>whnf); intro ha_ hh_; replace S:=S.set 3 rfl hh_; dsimp only [List.set] at S) | (refine ⟨_,rfl,rfl,rfl,.inl ⟨_,S.row 4 rfl,rfl,?_⟩⟩; (conv=>whnf); intro ha_ hh_; replace S:=S.set 4 rfl hh_; dsimp only [List.set] at S) | (refine bsel_intro (fun hb=>?_) (fun hb=>?_)) | skip)
   conv=>whnf
   refine callA S h1 rfl rfl fun v1 q1 F1 S1=>?_
   replace S:=S1
   clear S1
   have hz0 : zsm base ∧ base.length ≤ 100 + 100 * 0:=⟨zOk_zsm hb,by have:=(zOk_row hb).1; omega⟩
   conv=>whnf
   refine loopG (fun m tm hp=>∃ (j : Nat) (z : List Item) (D : AVal) (F : List Nat),j + m = pasts.length ∧ tm 7 = D ∧ tm 8 = i64 (j : Nat) ∧ Sepa hp [.acd 2 (z.map Item.d) D F,.row k1 (.box (View.mk (.mk (.mk kind n test cells a b keys agg col kids) l r ks) since base pasts).enc)] ∧ (zsm z ∧ z.length ≤ 100 + 100 * j) ∧ (satZ at' base pasts = satZ at' z (pasts.drop j))) (fun m tm hq hfr hI=>?_) (pasts.length) ⟨0,base,v1,F1,by simp,(by first | rfl | kernel_rfl | simp),(by first | rfl | kernel_rfl | simp),S,(hz0),(rfl)⟩
   obtain ⟨j,z,D,F,hj,e7,e8,S2,hz,hall⟩:=hI
   have k1:=hfr 1 (by kernel_rfl)
   conv at k1=>rhs; whnf
   rw [← upd_id k1]
   have k2:=hfr 2 (by kernel_rfl)
   conv at k2=>rhs; whnf
   rw [← upd_id k2]
   have k3:=hfr 3 (by kernel_rfl)
   conv at k3=>rhs; whnf
   rw [← upd_id k3]
   rw [← upd_id e7]
   rw [← upd_id e8]
   clear hfr k1 k2 k3 e7 e8
   clear S
   have S:=S2
   clear S2
   conv=>whnf
   have hjb : j < 4611686018427387904:=by omega
   have hsn : Am.snap hq D = some (Items.enc z):=Items.ofDat (show AcD _ _ _ _ _ from S.get 0 rfl).1
   refine .inl ⟨_,S.row 1 rfl,rfl,?_⟩
   conv=>whnf
   refine bsel_intro (fun h1=>?_) (fun h1=>?_)
   ·have hjl : j < pasts.length:=by simpa using h1
    have hge : (pasts.map Past.enc)[((j : Nat) : Int).toNat]? = some (Past.enc pasts[j]):=by rw [Int.toNat_natCast]; simp [hjl]
    rw [List.drop_eq_getElem_cons hjl] at hall
    have hx:=ho _ (List.getElem_mem hjl)
    generalize pasts[j] = x at hge hall hx
    obtain ⟨t,out⟩:=x
    have hx2 : out.length ≤ 100:=(zOk_row hx).1
    have hzs : (addZ z out).length ≤ z.length + out.length ∧ ∀ x ∈ addZ z out,x.row.length ≤ big:=addZ_zsm hz.1.2 (zOk_zsm hx).2
    have h2:=l2Add_a hp z out hz.1 (zOk_zsm hx) (by simp [big]; omega)
    simp only [satZ] at hall
    conv=>whnf
    refine .inl ⟨_,S.row 1 rfl,rfl,?_⟩
    conv=>whnf
    refine ⟨_,hge,by omega,rfl,?_⟩
    conv=>whnf
    refine bsel_intro (fun h3=>?_) (fun h3=>?_)
    ·rw [if_pos (by simpa using h3)] at hall
     conv=>whnf
     refine .inl ⟨_,S.row 1 rfl,rfl,?_⟩
     conv=>whnf
     refine ⟨_,hge,by omega,rfl,?_⟩
     conv=>whnf
     refine callA S h2 rfl (snapL2 hsn rfl) fun v' h' F' S1=>?_
     replace S1:=S1.pick [0,2] (by decide)
     simp only [pickL,List.getElem?_cons_zero,List.getElem?_cons_succ] at S1
     conv=>whnf
     exact ⟨m - 1,by omega,j + 1,addZ z out,v',F',by omega,rfl,nat_step j hjb,S1,⟨⟨by have:=hzs.1; simp [big]; omega,hzs.2⟩,by have:=hzs.1; omega⟩,hall⟩
    ·rw [if_neg (by simpa using h3)] at hall
     conv=>whnf
     exact ⟨m - 1,by omega,j + 1,z,D,F,by omega,rfl,nat_step j hjb,S,⟨hz.1,by omega⟩,hall⟩
   ·have hjl : j = pasts.length:=by
     have : ¬ j < pasts.length:=by simpa using h1
     omega
    subst hjl
    rw [List.drop_length] at hall
    have hal : satZ at' base pasts = z:=hall
    have h2:=l2Add_a hp z more hz.1 (zOk_zsm hm) (by simp [big]; omega)
    rw [← hal] at h2 hsn
    conv=>whnf
    refine callA S h2 rfl (snapL2 hsn rfl) fun v' h' F' S1=>?_
    conv=>whnf
    exact ⟨_,rfl,_,_,_,rfl,S1.get 0 rfl,(S1.get' 0 _ rfl).2⟩
end Go.Proofs.YtncgofhhnhebjaaGreat

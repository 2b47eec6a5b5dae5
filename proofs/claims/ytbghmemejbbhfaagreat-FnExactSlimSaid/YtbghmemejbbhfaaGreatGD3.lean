/- The program's Slim: the caller's own. -/
import Derived.Test.YtbghmemejbbhfaaGreatGB1
import Derived.Test.YtbghmemejbbhfaaGreatGD2
import Derived.Test.YtbghmemejbbhfaaGreatGC7
import Derived.Test.YtbghmemejbbhfaaGreatGD1
set_option linter.unusedVariables false
set_option linter.unusedSimpArgs false
/- The program's slim: its parts. -/
namespace Go.Proofs.YtbghmemejbbhfaaGreat
open Go Go.Am
variable {pr : Prims} (hp : Okp pr)
set_option maxRecDepth 100000
theorem over_c (hp : Okp pr) (p : Plan) (ks : List Plan) : RetK pr 58 [p.enc, .sl (Plan.encs ks)] (p.wk ks).enc := by
  obtain ⟨kind, n, test, cells, a, b, keys, agg, c, kids⟩ := p
  suffices hw : wpF (cfp pr) 58 [(Plan.mk kind n test cells a b keys agg c kids).enc, .sl (Plan.encs ks)] [] (fun r => ∃ v h, r = .ret v h ∧ snap h v = some ((Plan.mk kind n test cells a b keys agg c kids).wk ks).enc) by
    obtain ⟨r, hr, v, h, rfl, hs⟩ := wpF_sound (hp.out _ rfl) hw
    exact ⟨v, h, hr, hs⟩
  conv => whnf
  exact ⟨_, _, rfl, rfl⟩
def slimFn : AVal := .func (.func 43) [] []
theorem each_r (hp : Okp pr) (p : Plan) (hsm : p.small) (g : Plan → Plan) (hg : ∀ q ∈ p.kids, Ret pr 43 [q.enc] (g q).enc) : Ret pr 56 [p.enc, slimFn] (p.wk (p.kids.map g)).enc := by
  have hov := over_c hp p
  obtain ⟨kind, n, test, cells, a, b, keys, agg, c, kids⟩ := p
  simp only [Plan.kids] at hg ⊢
  obtain ⟨hsc, hsk, hskids, hsks⟩ := small_split hsm
  have hL := encs_len kids
  refine retq_of hp rfl rfl ?_
  have S : Sepa [] [] := Sepa.nil []
  have P : plainH [] := rfl
  conv => whnf
  intro k1 a1 hk1 hh1
  replace S := S.alloc hk1 hh1
  replace P := P.alloc rfl hh1
  conv => whnf
  intro k2 a2 hk2 hh2
  replace S := S.alloc hk2 hh2
  replace P := P.alloc rfl hh2
  conv => whnf
  refine .inl ⟨_, S.row 1 rfl, rfl, ?_⟩
  conv => whnf
  refine loop_ruley true (fun m st => ∃ (j : Nat) (D : AVal), j + m = kids.length ∧ st.tm 1 = slimFn ∧ st.tm 2 = .ptr k1 0 0 ∧ st.tm 4 = .ptr k2 0 0 ∧ st.tm 5 = D ∧ st.tm 10 = .sl (Plan.encs kids) ∧ st.tm 11 = i64 ((Plan.encs kids).length : Nat) ∧ st.tm 12 = i64 (j : Nat) ∧
    Sepa st.hp [.acc Plan.enc 19 ((kids.take j).map g) D, .row k2 (.box zPlan), .row k1 (.box (Plan.mk kind n test cells a b keys agg c kids).enc)] ∧ plainH st.hp) (fun m st hI => ?_) kids.length _ ⟨0, .nil, by simp, rfl, rfl, rfl, rfl, rfl, rfl, rfl, S.accNil _ _, P⟩
  obtain ⟨j, D, hj, e1, e2, e4, e5, e10, e11, e12, S2, P2⟩ := hI
  obtain ⟨tm, hq⟩ := st
  simp only at e1 e2 e4 e5 e10 e11 e12 S2 P2
  rw [show tm = upd (upd (upd (upd (upd (upd (upd tm 1 slimFn) 2 (.ptr k1 0 0)) 4 (.ptr k2 0 0)) 5 D) 10 (.sl (Plan.encs kids))) 11 (i64 ((Plan.encs kids).length : Nat))) 12 (i64 (j : Nat)) by rw [upd_id e1, upd_id e2, upd_id e4, upd_id e5, upd_id e10, upd_id e11, upd_id e12]]
  clear e1 e2 e4 e5 e10 e11 e12 S P
  conv => whnf
  refine bsel_intro (fun h1 => ?_) (fun h1 => ?_)
  · have hjl : j < kids.length := by simpa [hL] using h1
    have hge : (Plan.encs kids)[((j : Nat) : Int).toNat]? = some (Plan.enc kids[j]) := by rw [Int.toNat_natCast, encs_get]; simp [hjl]
    have hih := hg kids[j] (List.getElem_mem hjl)
    have htk : (kids.take (j + 1)).map g = (kids.take j).map g ++ [g kids[j]] := by rw [List.take_add_one, List.map_append]; congr 1; simp [hjl]
    generalize g kids[j] = r at hih htk
    generalize kids[j] = q at hge hih
    obtain ⟨kind', n', test', cells', a', b', keys', agg', c', kids'⟩ := q
    obtain ⟨kind3, n3, test3, cells3, a3, b3, keys3, agg3, c3, kids3⟩ := r
    rcases (show AccP _ _ _ _ _ from S2.get 0 rfl).cases with rfl | ⟨id, rfl⟩
    iterate 2
      · conv => whnf
        refine ⟨_, hge, by omega, rfl, ?_⟩
        conv => whnf
        intro k3 w3 hk3 hh3
        replace S2 := S2.alloc hk3 hh3
        replace P2 := P2.alloc rfl hh3
        conv => whnf
        refine ⟨_, rfl, rfl, rfl, .inl ⟨_, S2.row 0 rfl, rfl, ?_⟩⟩
        conv => whnf
        intro w4 hh4
        replace S2 := S2.set 0 rfl hh4
        replace P2 := P2.set rfl hh4
        dsimp only [List.set] at S2
        conv => whnf
        refine .inl ⟨_, S2.row 0 rfl, rfl, ?_⟩
        conv => whnf
        refine ⟨_, hih _, ?_⟩
        conv => whnf
        intro k5 w5 hk5 hh5
        replace S2 := S2.alloc hk5 hh5
        replace P2 := P2.alloc rfl hh5
        conv => whnf
        refine ⟨trivial, ?_⟩
        conv => whnf
        refine ⟨[(Plan.mk kind3 n3 test3 cells3 a3 b3 keys3 agg3 c3 kids3).enc], elems_row1 (S2.row 0 rfl), rfl, ?_⟩
        replace S2 := (S2.drop 0).drop 0
        dsimp only [List.eraseIdx] at S2
        refine appAcc S2 (by simp [sizeLim]; omega) fun k6 w6 S3 P3 => ?_
        conv => whnf
        refine ⟨m - 1, by omega, j + 1, _, by omega, rfl, rfl, rfl, rfl, rfl, rfl, nat_step j (by omega), ?_, P3 P2 fun y _ => by cases y; rfl⟩
        rw [htk]
        exact S3
  · have hje : j = kids.length := by
      have : ¬ j < kids.length := by simpa [hL] using h1
      omega
    subst hje
    rw [List.take_length] at S2
    replace hov := hov (kids.map g)
    have hD : AccP Plan.enc 19 hq (kids.map g) D := S2.get 0 rfl
    have hsn : snap hq D = some (.sl ((kids.map g).map Plan.enc)) := hD.frozen fun x _ => by cases x; rfl
    rw [← encs_eq] at hsn
    rcases hD with ⟨hnil, rfl⟩ | ⟨id, rfl, hrow⟩
    · rw [hnil] at hov ⊢
      conv => whnf
      refine .inl ⟨_, S2.row 2 rfl, rfl, ?_⟩
      conv => whnf
      refine ⟨_, hov.clo rfl rfl _, ?_⟩
      conv => whnf
      refine ⟨_, rfl, rfl, rfl, .inl ⟨_, S2.row 1 rfl, rfl, ?_⟩⟩
      conv => whnf
      intro a3 hh_a3
      replace S2 := S2.set 1 rfl hh_a3
      dsimp only [List.set] at S2
      conv => whnf
      exact ⟨_, fin_cell rfl rfl (S2.row 1 rfl) rfl, _, _, rfl, rfl⟩
    · conv => whnf
      refine .inl ⟨_, S2.row 2 rfl, rfl, ?_⟩
      conv => whnf
      refine ⟨_, hov.own rfl rfl ?_ P2 ?_, ?_⟩
      · show ((AVal.agg _).oneR hq && ((AVal.own id 0 (kids.map g).length).oneR hq && true)) = true
        have : (AVal.own id 0 (kids.map g).length).oneR hq = true := by simp only [AVal.oneR, AVal.oneR0, hrow]
        rw [this]
        rfl
      · exact snapL2 (a := (Plan.mk kind n test cells a b keys agg c kids).enc) (a' := (Plan.mk kind n test cells a b keys agg c kids).enc) rfl hsn
      conv => whnf
      refine ⟨_, rfl, rfl, rfl, .inl ⟨_, freeze_box (S2.row 1 rfl), rfl, ?_⟩⟩
      conv => whnf
      intro w3 hh3
      conv => whnf
      exact ⟨_, fin_cell rfl rfl (get_same hh3 (freeze_box (S2.row 1 rfl))) rfl, _, _, rfl, rfl⟩
end Go.Proofs.YtbghmemejbbhfaaGreat
/- The program's slim. -/
namespace Go.Proofs.YtbghmemejbbhfaaGreat
open Go Go.Am
variable {pr : Prims} (hp : Okp pr)
set_option maxRecDepth 100000
def zP : Plan := .mk 0 0 zT [] 0 0 [] 0 0 []
def hit (b : Bool) (q : Plan) : AVal := match b with
  | true => .tup [q.enc, .bool true]
  | false => .tup [zP.enc, .bool false]
theorem one_of {α : Type} {l : List α} {n : Int} (h : n = (l.length : Int)) (hn : n = 1) : ∃ x, l = [x] := by
  match l, h with
  | [x], _ => exact ⟨x, rfl⟩
  | [], h => simp at h; omega
  | _ :: _ :: _, h => simp at h; omega
theorem two_of {α : Type} {l : List α} {n : Int} (h : n = (l.length : Int)) (hn : n = 2) : ∃ x y, l = [x, y] := by
  match l, h with
  | [x, y], _ => exact ⟨x, y, rfl⟩
  | [], h => simp at h; omega
  | [_], h => simp at h; omega
  | _ :: _ :: _ :: _, h => simp at h; omega
theorem rule1_r (hp : Okp pr) (d : Nat) (p : Plan) (h : okF (d + 1) p = true) : Ret pr 71 [p.enc] (hit (p.kind == 6 && once p.k0) p.k0) := by
  obtain ⟨hk, hks⟩ := okF_kids h
  have hkid := fun q k => kid_r hp p q k
  obtain ⟨kind, n, test, cells, a, b, keys, agg, c, kids⟩ := p
  simp only [Plan.kind, Plan.kids] at hk hks ⊢
  refine ret_of hp rfl rfl ?_
  rcases Decidable.em (kind = 6) with rfl | h6
  · obtain ⟨k, rfl⟩ := one_of hk rfl
    have h0 := hkid k 0 rfl
    have h1 := once_r hp d k (hks k (by simp))
    have e : (Plan.mk 6 n test cells a b keys agg c [k]).k0 = k := rfl
    rw [e]
    cases ho : once k <;> rw [ho] at h1
    iterate 2
      · obtain ⟨kind', n', test', cells', a', b', keys', agg', c', kids'⟩ := k
        conv => whnf
        refine ⟨_, h0 _, ?_⟩
        conv => whnf
        refine ⟨_, h1 _, ?_⟩
        conv => whnf
        first
          | exact ⟨_, _, rfl, rfl⟩
          | (refine ⟨_, rfl, by omega, rfl, ?_⟩
             conv => whnf
             exact ⟨_, _, rfl, rfl⟩)
  · have e : (kind == 6) = false := by simpa using h6
    have e' : (kind != 6) = true := by simpa using h6
    rw [e]
    conv => whnf
    refine bsel_true e' ?_
    conv => whnf
    exact ⟨_, _, rfl, rfl⟩
theorem rule2_r (hp : Okp pr) (d : Nat) (p : Plan) (hsm : p.small) (h : okF (d + 2) p = true) (r : Plan) (hsl : p.kind = 6 → p.k0.kind = 5 → Ret pr 43 [(p.wk [p.k0.k0]).enc] r.enc) :
    Ret pr 72 [p.enc] (hit (p.kind == 6 && (p.k0.kind == 5 && same2 p.k0)) r) := by
  obtain ⟨hk, hks⟩ := okF_kids h
  have hov := over_c hp p
  obtain ⟨kind, n, test, cells, a, b, keys, agg, c, kids⟩ := p
  obtain ⟨hsc, hsk, hskids, hsks⟩ := small_split hsm
  simp only [Plan.kind, Plan.kids] at hk hks ⊢
  refine ret_of hp rfl rfl ?_
  rcases Decidable.em (kind = 6) with rfl | h6
  · obtain ⟨k, rfl⟩ := one_of hk rfl
    have e : (Plan.mk 6 n test cells a b keys agg c [k]).k0 = k := rfl
    rw [e] at hsl ⊢
    obtain ⟨hk', hks'⟩ := okF_kids (hks k (by simp))
    have hsk2 := hsks k (by simp)
    obtain ⟨kind', n', test', cells', a', b', keys', agg', c', kids'⟩ := k
    simp only [Plan.kind, Plan.kids] at hk' hks' hsl ⊢
    rcases Decidable.em (kind' = 5) with rfl | h5
    · obtain ⟨x, y, rfl⟩ := two_of hk' rfl
      obtain ⟨_, _, _, hsxy⟩ := small_split hsk2
      have h2 := planSame_r hp x y (hsxy x (by simp))
      have hs2 : same2 (Plan.mk 5 n' test' cells' a' b' keys' agg' c' [x, y]) = planEq x y := rfl
      rw [hs2]
      have hsl2 : Ret pr 43 [(Plan.mk 6 n test cells a b keys agg c [x]).enc] r.enc := hsl trivial rfl
      have hov2 := hov [x]
      clear hov hsl
      cases ho : planEq x y <;> rw [ho] at h2
      iterate 2
        · obtain ⟨kind3, n3, test3, cells3, a3, b3, keys3, agg3, c3, kids3⟩ := x
          obtain ⟨kind4, n4, test4, cells4, a4, b4, keys4, agg4, c4, kids4⟩ := y
          obtain ⟨kind5, n5, test5, cells5, a5, b5, keys5, agg5, c5, kids5⟩ := r
          conv => whnf
          refine ⟨_, rfl, by omega, rfl, ?_⟩
          conv => whnf
          refine ⟨_, rfl, by omega, rfl, ?_⟩
          conv => whnf
          refine ⟨_, rfl, by omega, rfl, ?_⟩
          conv => whnf
          refine ⟨_, rfl, by omega, rfl, ?_⟩
          conv => whnf
          refine ⟨_, rfl, by omega, rfl, ?_⟩
          conv => whnf
          refine ⟨_, h2 _, ?_⟩
          conv => whnf
          first
            | exact ⟨_, _, rfl, rfl⟩
            | (refine ⟨_, rfl, by omega, rfl, ?_⟩
               conv => whnf
               refine ⟨_, rfl, by omega, rfl, ?_⟩
               conv => whnf
               refine ⟨_, hov2.own rfl rfl (by kernel_rfl) (by show List.all _ _ = true; kernel_rfl) (by kernel_rfl), ?_⟩
               conv => whnf
               refine ⟨_, hsl2 _, ?_⟩
               conv => whnf
               exact ⟨_, _, rfl, rfl⟩)
    · have e1 : (kind' == 5) = false := by simpa using h5
      have e2 : (kind' != 5) = true := by simpa using h5
      rw [e1]
      conv => whnf
      refine ⟨_, rfl, by omega, rfl, ?_⟩
      conv => whnf
      refine bsel_true e2 ?_
      conv => whnf
      exact ⟨_, _, rfl, rfl⟩
  · have e : (kind == 6) = false := by simpa using h6
    have e' : (kind != 6) = true := by simpa using h6
    rw [e]
    conv => whnf
    refine bsel_true e' ?_
    conv => whnf
    exact ⟨_, _, rfl, rfl⟩
theorem rule3_r (hp : Okp pr) (d : Nat) (p : Plan) (h : okF (d + 1) p = true) : Ret pr 74 [p.enc] (hit (p.kind == 2 && (p.k0.kind == 2 && testEq p.test p.k0.test)) p.k0) := by
  obtain ⟨hk, hks⟩ := okF_kids h
  obtain ⟨kind, n, test, cells, a, b, keys, agg, c, kids⟩ := p
  simp only [Plan.kind, Plan.kids] at hk hks ⊢
  refine ret_of hp rfl rfl ?_
  rcases Decidable.em (kind = 2) with rfl | h6
  · obtain ⟨k, rfl⟩ := one_of hk rfl
    have e : (Plan.mk 2 n test cells a b keys agg c [k]).k0 = k := rfl
    rw [e]
    obtain ⟨kind', n', test', cells', a', b', keys', agg', c', kids'⟩ := k
    simp only [Plan.kind, Plan.kids, Plan.test] at ⊢
    rcases Decidable.em (kind' = 2) with rfl | h5
    · rw [testEq_comm test test']
      cases ho : testEq test' test
      iterate 2
        · conv => whnf
          refine ⟨_, rfl, by omega, rfl, ?_⟩
          conv => whnf
          refine ⟨_, rfl, by omega, rfl, ?_⟩
          conv => whnf
          refine ⟨_, testEq test' test, eqS_test, rfl, ?_⟩
          first
            | (refine bsel_true ho ?_
               conv => whnf
               refine ⟨_, rfl, by omega, rfl, ?_⟩
               conv => whnf
               exact ⟨_, _, rfl, rfl⟩)
            | (refine bsel_false ho ?_
               conv => whnf
               exact ⟨_, _, rfl, rfl⟩)
    · have e1 : (kind' == 2) = false := by simpa using h5
      have e2 : (kind' != 2) = true := by simpa using h5
      rw [e1]
      conv => whnf
      refine ⟨_, rfl, by omega, rfl, ?_⟩
      conv => whnf
      refine bsel_true e2 ?_
      conv => whnf
      exact ⟨_, _, rfl, rfl⟩
  · have e : (kind == 2) = false := by simpa using h6
    have e' : (kind != 2) = true := by simpa using h6
    rw [e]
    conv => whnf
    refine bsel_true e' ?_
    conv => whnf
    exact ⟨_, _, rfl, rfl⟩
end Go.Proofs.YtbghmemejbbhfaaGreat
/- The program's slim, whole; Slim. -/
namespace Go.Proofs.YtbghmemejbbhfaaGreat
open Go Go.Am
variable {pr : Prims} (hp : Okp pr)
set_option maxRecDepth 100000
def rulesV : AVal := .agg [.func (.func 71) [] [], .func (.func 72) [] [], .func (.func 74) [] []]
theorem rules_r (hp : Okp pr) : Ret pr 60 [] rulesV := by
  refine ret_of hp rfl rfl ?_
  conv => whnf
  exact ⟨_, _, rfl, rfl⟩
theorem slimRule_eq (rec : Plan → Plan) (p : Plan) (d : Nat) (h : okF (d + 1) p = true) : slimRule rec p =
    bif p.kind == 6 && once p.k0 then p.k0 else bif p.kind == 6 && (p.k0.kind == 5 && same2 p.k0) then rec (p.wk [p.k0.k0]) else bif p.kind == 2 && (p.k0.kind == 2 && testEq p.test p.k0.test) then p.k0 else p := by
  obtain ⟨hk, _⟩ := okF_kids h
  obtain ⟨kind, n, test, cells, a, b, keys, agg, c, kids⟩ := p
  cases kids with
  | nil =>
    simp only [Plan.kind, Plan.kids] at hk
    have h1 : kind ≠ 6 := by rintro rfl; simp [kidsN] at hk
    have h2 : kind ≠ 2 := by rintro rfl; simp [kidsN] at hk
    have e1 : (kind == 6) = false := by simpa using h1
    have e2 : (kind == 2) = false := by simpa using h2
    simp only [slimRule, Plan.kids, Plan.kind, e1, e2, Bool.false_and, cond_false]
  | cons k l =>
    simp only [slimRule, Plan.kids, cond_eq_ite]
    rfl
theorem k0_wk {p : Plan} {q : Plan} {l : List Plan} : (p.wk (q :: l)).k0 = q := by cases p; rfl
theorem slim_r (hp : Okp pr) : ∀ (n : Nat) (p : Plan) (d : Nat), p.cnt ≤ n → p.small → okF d p = true → Ret pr 43 [p.enc] (slimF n p).enc := by
  intro n
  induction n with
  | zero => intro p d h; rw [cnt_eq] at h; omega
  | succ n ih =>
    intro p d hn hsm hok
    have hok := okF_up (okF_up hok)
    obtain ⟨hk, hks⟩ := okF_kids hok
    have hea := each_r hp p hsm (slimF n) fun q hq => by
      have := cnts_mem hq
      rw [cnt_eq] at hn
      exact ih q (d + 1) (by omega) (by obtain ⟨kind, n, test, cells, a, b, keys, agg, c, kids⟩ := p; exact (small_split hsm).2.2.2 q hq) (hks q hq)
    have hok' : okF (d + 2) (p.wk (p.kids.map (slimF n))) = true := okF_wk hok (by simp) fun q hq => by
      obtain ⟨r, hr, rfl⟩ := List.mem_map.1 hq
      exact okF_slimF n _ r (hks r hr)
    have hsm' : (p.wk (p.kids.map (slimF n))).small := by
      refine Nat.le_trans ?_ hsm
      have := szs_map (slimF_sz n) p.kids
      obtain ⟨kind, n, test, cells, a, b, keys, agg, c, kids⟩ := p
      simp only [Plan.wk, Plan.sz, Plan.kids, List.length_map] at this ⊢
      omega
    have hcn : (p.wk (p.kids.map (slimF n))).cnt ≤ n + 1 := by
      rw [cnt_wk]
      rw [cnt_eq] at hn
      have := cnts_map (slimF_cnt n) p.kids
      omega
    simp only [slimF]
    generalize p.wk (p.kids.map (slimF n)) = q at hea hok' hsm' hcn
    have r1 := rule1_r hp (d + 1) q hok'
    have r2 := rule2_r hp d q hsm' hok' (slimF n (q.wk [q.k0.k0])) fun h6 h5 => by
      obtain ⟨hqk, hqs⟩ := okF_kids hok'
      have hq1 : ∃ k, q.kids = [k] := one_of hqk (by rw [h6]; rfl)
      obtain ⟨k, hk1⟩ := hq1
      have hk0 : q.k0 = k := by unfold Plan.k0; rw [hk1]; rfl
      rw [hk0] at h5 ⊢
      have hkok := hqs k (by rw [hk1]; simp)
      obtain ⟨hkk, hkks⟩ := okF_kids hkok
      obtain ⟨x, y, hxy⟩ := two_of hkk (by rw [h5]; rfl)
      have hx0 : k.k0 = x := by unfold Plan.k0; rw [hxy]; rfl
      rw [hx0]
      have hxok := hkks x (by rw [hxy]; simp)
      refine ih _ (d + 2) ?_ ?_ (okF_wk hok' (by rw [hk1]; rfl) fun z hz => by simp at hz; subst hz; exact okF_up hxok)
      · rw [cnt_wk]
        rw [cnt_eq q, hk1] at hcn
        simp only [Plan.cnts, cnt_eq k, hxy] at hcn ⊢
        omega
      · refine Nat.le_trans ?_ hsm'
        obtain ⟨kind, n, test, cells, a, b, keys, agg, c, kids⟩ := q
        simp only [Plan.kids] at hk1
        subst hk1
        obtain ⟨kind', n', test', cells', a', b', keys', agg', c', kids'⟩ := k
        simp only [Plan.kids] at hxy
        subst hxy
        simp only [Plan.wk, Plan.sz, Plan.szs, List.length_cons, List.length_nil]
        omega
    have r3 := rule3_r hp (d + 1) q hok'
    rw [slimRule_eq _ q (d + 1) hok']
    have hru := rules_r hp
    generalize slimF n (q.wk [q.k0.k0]) = s at r2
    generalize q.k0 = k at r1 r2 r3
    clear ih hok hk hks hn hok' hsm' hcn
    generalize (q.kind == 6 && once k) = b1 at r1 ⊢
    generalize (q.kind == 6 && (k.kind == 5 && same2 k)) = b2 at r2 ⊢
    generalize (q.kind == 2 && (k.kind == 2 && testEq q.test k.test)) = b3 at r3 ⊢
    obtain ⟨kind, n, test, cells, a, b, keys, agg, c, kids⟩ := p
    obtain ⟨kind1, n1, test1, cells1, a1, b1', keys1, agg1, c1, kids1⟩ := q
    refine ret_of hp rfl rfl ?_
    cases b1
    · cases b2
      · cases b3
        iterate 2
          · obtain ⟨kind4, n4, test4, cells4, a4, b4, keys4, agg4, c4, kids4⟩ := k
            conv => whnf
            refine ⟨_, hea _, ?_⟩
            conv => whnf
            refine ⟨_, hru _, ?_⟩
            conv => whnf
            refine loop_unroll ?_
            conv => whnf
            refine ⟨⟨by decide, by decide⟩, _, rfl, ?_⟩
            conv => whnf
            refine ⟨_, r1 _, ?_⟩
            conv => whnf
            refine loop_unroll ?_
            conv => whnf
            refine ⟨⟨by decide, by decide⟩, _, rfl, ?_⟩
            conv => whnf
            refine ⟨_, r2 _, ?_⟩
            conv => whnf
            refine loop_unroll ?_
            conv => whnf
            refine ⟨⟨by decide, by decide⟩, _, rfl, ?_⟩
            conv => whnf
            refine ⟨_, r3 _, ?_⟩
            conv => whnf
            first
              | exact ⟨_, _, rfl, rfl⟩
              | (refine loop_unroll ?_
                 conv => whnf
                 exact ⟨_, _, rfl, rfl⟩)
      · obtain ⟨kind4, n4, test4, cells4, a4, b4, keys4, agg4, c4, kids4⟩ := s
        conv => whnf
        refine ⟨_, hea _, ?_⟩
        conv => whnf
        refine ⟨_, hru _, ?_⟩
        conv => whnf
        refine loop_unroll ?_
        conv => whnf
        refine ⟨⟨by decide, by decide⟩, _, rfl, ?_⟩
        conv => whnf
        refine ⟨_, r1 _, ?_⟩
        conv => whnf
        refine loop_unroll ?_
        conv => whnf
        refine ⟨⟨by decide, by decide⟩, _, rfl, ?_⟩
        conv => whnf
        refine ⟨_, r2 _, ?_⟩
        conv => whnf
        exact ⟨_, _, rfl, rfl⟩
    · obtain ⟨kind4, n4, test4, cells4, a4, b4, keys4, agg4, c4, kids4⟩ := k
      conv => whnf
      refine ⟨_, hea _, ?_⟩
      conv => whnf
      refine ⟨_, hru _, ?_⟩
      conv => whnf
      refine loop_unroll ?_
      conv => whnf
      refine ⟨⟨by decide, by decide⟩, _, rfl, ?_⟩
      conv => whnf
      refine ⟨_, r1 _, ?_⟩
      conv => whnf
      exact ⟨_, _, rfl, rfl⟩
end Go.Proofs.YtbghmemejbbhfaaGreat
/- The program's Slim: the caller's own. -/
namespace Go.Proofs.YtbghmemejbbhfaaGreat
open Go Go.Am
variable {pr : Prims}
set_option maxRecDepth 100000
def slimP (p : Plan) : Plan := bif fit p then slimF p.cnt p else zP
theorem own_zP (h : Heap) : OwnP h zP zPlan [] := OwnP_mk.2 ⟨.nil, .nil, .nil, [], [], [], rfl, .inl ⟨rfl, rfl, .inl rfl⟩, .inl ⟨rfl, rfl, .inl rfl⟩, .inl ⟨rfl, rfl, rfl⟩, rfl⟩
theorem slimP_small {p : Plan} (h : p.small) : (slimP p).small := by
  unfold slimP
  cases fit p with
  | true => exact slimF_small h
  | false => show Plan.sz zP ≤ 1048576; decide
theorem iSlim_n (hk : Okc pr) (p : Plan) (hsm : p.small) : RetN pr 16 [p.enc] (slimP p) := by
  have h1 := writable_r hk.toOks p hsm
  have h2 : fit p = true → Ret pr 43 [p.enc] (slimF p.cnt p).enc := fun h => slim_r hk.toOkp p.cnt p 6 (Nat.le_refl _) hsm (okF_of_form <| by simp only [fit, Bool.and_eq_true] at h; exact h.1)
  have h3 := copyPlan_n hk (slimF p.cnt p) (slimF_small hsm)
  unfold slimP
  generalize slimF p.cnt p = s at h2 h3 ⊢
  obtain ⟨kind, n, test, cells, a, b, keys, agg, c, kids⟩ := p
  obtain ⟨kind1, n1, test1, cells1, a9, b9, keys1, agg1, c1, kids1⟩ := s
  refine retN_of hk.toOkp rfl ?_
  have S : Sepa [] [] := Sepa.nil []
  cases hf : fit (Plan.mk kind n test cells a b keys agg c kids) <;> rw [hf] at h1
  · conv => whnf
    intro k1 a1 hk_k1 hh_a1
    replace S := S.alloc hk_k1 hh_a1
    conv => whnf
    intro k2 a2 hk_k2 hh_a2
    replace S := S.alloc hk_k2 hh_a2
    conv => whnf
    refine .inl ⟨_, S.row 1 rfl, rfl, ?_⟩
    conv => whnf
    refine ⟨_, h1 _, ?_⟩
    conv => whnf
    refine ⟨_, rfl, rfl, rfl, .inl ⟨_, S.row 0 rfl, rfl, ?_⟩⟩
    conv => whnf
    intro a3 hh_a3
    replace S := S.set 0 rfl hh_a3
    dsimp only [List.set] at S
    conv => whnf
    exact ⟨_, fin_cell rfl rfl (S.row 0 rfl) rfl, _, _, [], rfl, own_zP _, by simp⟩
  · replace h2 := h2 hf
    conv => whnf
    intro k1 a1 hk_k1 hh_a1
    replace S := S.alloc hk_k1 hh_a1
    conv => whnf
    intro k2 a2 hk_k2 hh_a2
    replace S := S.alloc hk_k2 hh_a2
    conv => whnf
    refine .inl ⟨_, S.row 1 rfl, rfl, ?_⟩
    conv => whnf
    refine ⟨_, h1 _, ?_⟩
    conv => whnf
    refine .inl ⟨_, S.row 1 rfl, rfl, ?_⟩
    conv => whnf
    refine ⟨_, h2 _, ?_⟩
    conv => whnf
    obtain ⟨v, hh, F2, hc, hpre, ho, hn, hd⟩ := h3.at (h := a2) (args := [(Plan.mk kind1 n1 test1 cells1 a9 b9 keys1 agg1 c1 kids1).enc]) rfl rfl
    have S3 := S.more (c := .plan (Plan.mk kind1 n1 test1 cells1 a9 b9 keys1 agg1 c1 kids1) v F2) hpre ho hn hd
    have ho' := ho
    rw [OwnP_mk] at ho
    obtain ⟨C1, K1, D1, Fc1, Fk1, Fd1, rfl, g1, g2, g3, rfl⟩ := ho
    refine ⟨_, hc, ?_⟩
    conv => whnf
    refine ⟨_, rfl, rfl, (pval_all g1.cell.2 g2.cell.2 g3.cell.2), .inl ⟨_, S3.row 1 rfl, rfl, ?_⟩⟩
    conv => whnf
    intro a4 hh_a4
    replace S3 := S3.set 1 rfl hh_a4
    dsimp only [List.set] at S3
    conv => whnf
    exact ⟨_, fin_cell rfl rfl (S3.row 1 rfl) rfl, _, _, _, rfl, S3.get 0 rfl, hn⟩
end Go.Proofs.YtbghmemejbbhfaaGreat

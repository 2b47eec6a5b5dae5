/- What is read of a store: the reference's. -/
import Derived.Test.YtncgofhhnhebjaaGreatGH39
set_option linter.unusedVariables false
set_option linter.unusedSimpArgs false
/- Stores that are ok: the reference's. -/
set_option maxHeartbeats 4000000
namespace Go.Proofs.YtncgofhhnhebjaaGreat
open Go Go.Am
variable {pr : Prims} (hp : Okp pr) (hs : Okc pr)
set_option maxRecDepth 100000
def wideZ (z : List Item) (wide : Int) : Bool:=z.all fun x=>decide ((x.row.length : Int) = wide)
def turnOk (z : List Item) (wide : Int) : Bool:=wideZ z wide && zOk z
def bagOk (z : List Item) (wide : Int) : Bool:=(z.all fun x=>decide (1 ≤ x.w) && decide ((x.row.length : Int) = wide)) && zOk z
theorem l9Turn_r (hp : Okp pr) (z : List Item) (wide : Int) (hz : zsm z) : Ret pr 84 [Items.enc z,i64 wide] (.bool (turnOk z wide)):=by
 have h2:=sZOk_r hp z hz
 have hl:=hz.1
 unfold big at hl
 generalize hR : turnOk z wide = R
 unfold turnOk wideZ at hR
 refine retg hp rfl rfl ?_
 have S : Sepa [] []:=Sepa.nil []
 conv=>whnf
 refine loopG (fun m tm hp=>∃ (j : Nat),j + m = z.length ∧ tm 5 = i64 (j : Nat) ∧ (((z.drop j).all (fun x=>decide ((x.row.length : Int) = wide)) && zOk z) = R)) (fun m tm hq hfr hI=>?_) (z.length) ⟨0,by simp,(by first | rfl | kernel_rfl | simp),(hR)⟩
 obtain ⟨j,hj,e5,hall⟩:=hI
 have k0:=hfr 0 (by kernel_rfl)
 conv at k0=>rhs; whnf
 rw [← upd_id k0]
 have k1:=hfr 1 (by kernel_rfl)
 conv at k1=>rhs; whnf
 rw [← upd_id k1]
 rw [← upd_id e5]
 clear hfr k0 k1 e5
 have S : Sepa hq []:=Sepa.nil hq
 conv=>whnf
 refine bsel_intro (fun h1=>?_) (fun h1=>?_)
 ·have hjl : j < z.length:=by simpa using h1
  have hge : (z.map Item.enc)[((j : Nat) : Int).toNat]? = some (Item.enc z[j]):=by rw [Int.toNat_natCast]; simp [hjl]
  rw [List.drop_eq_getElem_cons hjl,List.all_cons] at hall
  generalize z[j] = x at hge hall
  obtain ⟨row,w⟩:=x
  simp only at hall
  conv=>whnf
  refine ⟨_,hge,by omega,rfl,?_⟩
  conv=>whnf
  refine bsel_intro (fun g1=>?_) (fun g1=>?_)
  ·conv=>whnf
   exact g_bool (by rw [← hall]; have : ¬ (row.length : Int) = wide := by simpa using g1
                    simp [this])
  ·have : (row.length : Int) = wide:=by simpa using g1
   rw [show decide ((row.length : Int) = wide) = true by simp [this],Bool.true_and] at hall
   conv=>whnf
   exact ⟨m - 1,by omega,j + 1,by omega,nat_step j (by omega),hall⟩
 ·have hjl : j = z.length:=by
   have : ¬ j < z.length:=by simpa using h1
   omega
  subst hjl
  rw [List.drop_length,List.all_nil,Bool.true_and] at hall
  conv=>whnf
  refine ⟨_,h2 _,?_⟩
  conv=>whnf
  refine bsel_intro (fun g1=>?_) (fun g1=>?_)
  ·conv=>whnf
   exact g_bool (by rw [← hall,g1])
  ·conv=>whnf
   exact g_bool (by rw [← hall,g1])
theorem l9Bag_r (hp : Okp pr) (z : List Item) (wide : Int) (hz : zsm z) : Ret pr 35 [Items.enc z,i64 wide] (.bool (bagOk z wide)):=by
 have h2:=sZOk_r hp z hz
 have hl:=hz.1
 unfold big at hl
 generalize hR : bagOk z wide = R
 unfold bagOk at hR
 refine retg hp rfl rfl ?_
 have S : Sepa [] []:=Sepa.nil []
 conv=>whnf
 refine loopG (fun m tm hp=>∃ (j : Nat),j + m = z.length ∧ tm 5 = i64 (j : Nat) ∧ (((z.drop j).all (fun x=>decide (1 ≤ x.w) && decide ((x.row.length : Int) = wide)) && zOk z) = R)) (fun m tm hq hfr hI=>?_) (z.length) ⟨0,by simp,(by first | rfl | kernel_rfl | simp),(hR)⟩
 obtain ⟨j,hj,e5,hall⟩:=hI
 have k0:=hfr 0 (by kernel_rfl)
 conv at k0=>rhs; whnf
 rw [← upd_id k0]
 have k1:=hfr 1 (by kernel_rfl)
 conv at k1=>rhs; whnf
 rw [← upd_id k1]
 rw [← upd_id e5]
 clear hfr k0 k1 e5
 have S : Sepa hq []:=Sepa.nil hq
 conv=>whnf
 refine bsel_intro (fun h1=>?_) (fun h1=>?_)
 ·have hjl : j < z.length:=by simpa using h1
  have hge : (z.map Item.enc)[((j : Nat) : Int).toNat]? = some (Item.enc z[j]):=by rw [Int.toNat_natCast]; simp [hjl]
  rw [List.drop_eq_getElem_cons hjl,List.all_cons] at hall
  generalize z[j] = x at hge hall
  obtain ⟨row,w⟩:=x
  simp only at hall
  conv=>whnf
  refine ⟨_,hge,by omega,rfl,?_⟩
  conv=>whnf
  refine bsel_intro (fun g0=>?_) (fun g0=>?_)
  ·conv=>whnf
   exact g_bool (by rw [← hall]; have : ¬ 1 ≤ w := by simp at g0; omega
                    simp [this])
  ·have g0' : 1 ≤ w:=by simp at g0; omega
   rw [show decide (1 ≤ w) = true by simp [g0'],Bool.true_and] at hall
   conv=>whnf
   refine ⟨_,hge,by omega,rfl,?_⟩
   conv=>whnf
   refine bsel_intro (fun g1=>?_) (fun g1=>?_)
   ·conv=>whnf
    exact g_bool (by rw [← hall]; have : ¬ (row.length : Int) = wide := by simpa using g1
                     simp [this])
   ·have : (row.length : Int) = wide:=by simpa using g1
    rw [show decide ((row.length : Int) = wide) = true by simp [this],Bool.true_and] at hall
    conv=>whnf
    exact ⟨m - 1,by omega,j + 1,by omega,nat_step j (by omega),hall⟩
 ·have hjl : j = z.length:=by
   have : ¬ j < z.length:=by simpa using h1
   omega
  subst hjl
  rw [List.drop_length,List.all_nil,Bool.true_and] at hall
  conv=>whnf
  refine ⟨_,h2 _,?_⟩
  conv=>whnf
  refine bsel_intro (fun g1=>?_) (fun g1=>?_)
  ·conv=>whnf
   exact g_bool (by rw [← hall,g1])
  ·conv=>whnf
   exact g_bool (by rw [← hall,g1])
theorem l1Max_r (hp : Okp pr) (a b : Int) : Ret pr 29 [i64 a,i64 b] (i64 (if a > b then a else b)):=by
 refine retg hp rfl rfl ?_
 have S : Sepa [] []:=Sepa.nil []
 iterate 4
  all_goals (try (conv=>whnf))
  all_goals (first | (intro ka_ ha_ hk_ hh_; replace S:=S.alloc hk_ hh_) | (refine .inl ⟨_,S.row 0 rfl,rfl,?_⟩) | (refine ⟨_,rfl,rfl,rfl,.inl ⟨_,S.row 0 rfl,rfl,?_⟩⟩; (conv=>whnf); intro ha_ hh_; replace S:=S.set 0 rfl hh_; dsimp only [List.set] at S) | (refine bsel_intro (fun hb=>?_) (fun hb=>?_)) | skip)
 all_goals (try (conv=>whnf))
 all_goals exact g_int (by simp_all; try omega)
theorem sFlowOk_r (hp : Okp pr) (f : Flow) (ht : f.d.tot ≤ 1048576) : Ret pr 83 [f.enc] (.bool (fit f.plan && formF 6 f)):=by
 have h2:=l8Form_r hp 6 f ht (by omega)
 obtain ⟨⟨kind,n,test,cells,a,b,keys,agg,c,kids⟩,l,r,ks⟩:=f
 have h1:=l4Fit_r hp (.mk kind n test cells a b keys agg c kids) (by rw [flow_tot] at ht; unfold Plan.small; omega)
 refine retg hp rfl rfl ?_
 have S : Sepa [] []:=Sepa.nil []
 conv=>whnf
 intro k1 a1 hk1 hh1
 replace S:=S.alloc hk1 hh1
 conv=>whnf
 refine .inl ⟨_,S.row 0 rfl,rfl,?_⟩
 conv=>whnf
 refine ⟨_,h1 _,?_⟩
 conv=>whnf
 refine bsel_intro (fun g1=>?_) (fun g1=>?_)
 ·conv=>whnf
  refine .inl ⟨_,S.row 0 rfl,rfl,?_⟩
  conv=>whnf
  refine ⟨_,h2 _,?_⟩
  conv=>whnf
  refine bsel_intro (fun g2=>?_) (fun g2=>?_)
  ·conv=>whnf
   exact g_bool (by simp only [Flow.plan]; rw [g1,g2]; rfl)
  ·conv=>whnf
   exact g_bool (by simp only [Flow.plan]; rw [g1,g2]; rfl)
 ·conv=>whnf
  exact g_bool (by simp only [Flow.plan]; rw [g1]; rfl)
theorem view_tot (v : View) : v.d.tot = v.flow.d.tot + (Items.d v.base).tot + (v.pasts.length + Dat.tots (v.pasts.map Past.d)):=by
 simp only [View.d,Dat.tot,Dat.tots,List.length_map]
 omega
theorem items_small {z : List Item} (h : (Items.d z).tot ≤ 1048576) : zsm z:=by
 simp only [Items.d,Dat.tot,List.length_map] at h
 refine ⟨by simp [big]; omega,fun x hx=>?_⟩
 have h2:=tots_map (f:=Item.d) hx
 rw [Item.tot] at h2
 simp [big]
 omega
theorem past_small {ps : List Past} (h : Dat.tots (ps.map Past.d) ≤ 1048576) : ∀ p ∈ ps,zsm p.out:=fun p hp=>by
 have:=tots_map (f:=Past.d) hp
 refine items_small ?_
 simp only [Past.d,Dat.tot,Dat.tots] at this
 simp only [Items.d,Dat.tot] at this ⊢
 omega
def spastGo (lo now wide : Int) : Option Int → List Past → Bool
 | _,[]=>true
 | q,p :: ps=>(decide (lo < p.at') && (decide (p.at' ≤ now) && (turnOk p.out wide && (match q with | none=>true | some q=>decide (q < p.at'))))) && spastGo lo now wide (some p.at') ps
def sviewC (fo : Bool) (wide lo now since : Int) (base : List Item) (pasts : List Past) : Bool:=
 fo && (decide (1 ≤ wide) && (decide (0 ≤ since) && (decide (since ≤ now) && (turnOk base wide && (decide (pasts.length ≤ 40) && spastGo lo now wide none pasts)))))
def sviewOk (ws : List Int) (now keep : Int) (v : View) : Bool:=
 sviewC (fit v.flow.plan && formF 6 v.flow) (planWide4 v.flow.plan ws) (if v.since > keep then v.since else keep) now v.since v.base v.pasts
def lastAt (ps : List Past) : Option Int:=ps.getLast?.map Past.at'
theorem lastAt_take {z : List Past} {j : Nat} (h : j < z.length) : lastAt (z.take (j + 1)) = some z[j].at':=by
 unfold lastAt
 rw [show z.take (j + 1) = z.take j ++ [z[j]] by rw [List.take_add_one]; simp [h],List.getLast?_concat]
 rfl
theorem l9View_r (hp : Okp pr) (v : View) (s : Store) (ht : v.d.tot ≤ 1048576) : Ret pr 36 [v.enc,s.enc] (.bool (sviewOk s.wides s.now s.keep v)):=by
 rw [view_tot] at ht
 obtain ⟨f,since,base,pasts⟩:=v
 obtain ⟨wides,tables,views,now,keep⟩:=s
 simp only at ht
 have hf:=sFlowOk_r hp f (by omega)
 obtain ⟨⟨kind,n,test,cells,a,b,keys,agg,c,kids⟩,l,r,ks⟩:=f
 have hw:=sPlanWide_r hp (.mk kind n test cells a b keys agg c kids) wides (by rw [flow_tot] at ht; unfold Plan.small; omega)
 have hba:=fun w=>l9Turn_r hp base w (items_small (by omega))
 have hpa:=fun (x : Past) (hx : x ∈ pasts) w=>l9Turn_r hp x.out w (past_small (by omega) x hx)
 have hmx:=l1Max_r hp since keep
 have hpl : pasts.length ≤ 1048576:=by omega
 clear ht
 unfold sviewOk
 simp only [Flow.plan] at hf ⊢
 generalize planWide4 (Plan.mk kind n test cells a b keys agg c kids) wides = wide at hw ⊢
 generalize hfo : (fit (Plan.mk kind n test cells a b keys agg c kids) && formF 6 (Flow.mk (Plan.mk kind n test cells a b keys agg c kids) l r ks)) = fo at hf ⊢
 clear hfo
 generalize (if since > keep then since else keep) = lo at hmx ⊢
 generalize hR : sviewC fo wide lo now since base pasts = R
 unfold sviewC at hR
 refine retg hp rfl rfl ?_
 have S : Sepa [] []:=Sepa.nil []
 conv=>whnf
 intro k1 a1 hk1 hh1
 replace S:=S.alloc hk1 hh1
 clear hk1 hh1
 conv=>whnf
 intro k2 a2 hk2 hh2
 replace S:=S.alloc hk2 hh2
 clear hk2 hh2
 have S0 : Sepa a2 [.row k2 (.box (Store.mk wides tables views now keep).enc),.row k1 (.box (View.mk (.mk (.mk kind n test cells a b keys agg c kids) l r ks) since base pasts).enc)]:=S
 clear S
 have S:=S0
 clear S0
 iterate 20
  all_goals (try (conv=>whnf))
  all_goals (first | (intro ka_ ha_ hk_ hh_; replace S:=S.alloc hk_ hh_) | (refine .inl ⟨_,S.row 0 rfl,rfl,?_⟩) | (refine .inl ⟨_,S.row 1 rfl,rfl,?_⟩) | (refine ⟨_,rfl,rfl,rfl,.inl ⟨_,S.row 0 rfl,rfl,?_⟩⟩; (conv=>whnf); intro ha_ hh_; replace S:=S.set 0 rfl hh_; dsimp only [List.set] at S) | (refine ⟨_,rfl,rfl,rfl,.inl ⟨_,S.row 1 rfl,rfl,?_⟩⟩; (conv=>whnf); intro ha_ hh_; replace S:=S.set 1 rfl hh_; dsimp only [List.set] at S) | (refine bsel_intro (fun hb=>?_) (fun hb=>?_)) | (refine ⟨_,hw _,?_⟩) | (refine ⟨_,hf _,?_⟩) | (refine ⟨_,hba _ _,?_⟩) | skip)
 all_goals (try (conv=>whnf))
 all_goals first
  | exact g_bool (by rw [← hR]; clear hR hf hw hba hpa hmx S; first | (simp_all; done) | (simp_all; omega) | (simp_all; intros; omega))
  | skip
 all_goals
  have hall : spastGo lo now wide none pasts = R:=by rw [← hR]; clear hR hf hw hba hpa hmx S; first | (simp_all; done) | (simp_all; omega) | (simp_all; intros; omega)
  clear hR hf hw hba
  refine loopG (fun m tm hp=>∃ (j : Nat),j + m = pasts.length ∧ tm 6 = i64 (j : Nat) ∧ Sepa hp [.row k2 (.box (Store.mk wides tables views now keep).enc),.row k1 (.box (View.mk (.mk (.mk kind n test cells a b keys agg c kids) l r ks) since base pasts).enc)] ∧ (spastGo lo now wide (lastAt (pasts.take j)) (pasts.drop j) = R)) (fun m tm hq hfr hI=>?_) (pasts.length) ⟨0,by simp,(by first | rfl | kernel_rfl | simp),S,((by simpa [lastAt] using hall))⟩
  obtain ⟨j,hj,e6,S2,hall⟩:=hI
  have k2:=hfr 2 (by kernel_rfl)
  conv at k2=>rhs; whnf
  rw [← upd_id k2]
  have k3:=hfr 3 (by kernel_rfl)
  conv at k3=>rhs; whnf
  rw [← upd_id k3]
  have k5:=hfr 5 (by kernel_rfl)
  conv at k5=>rhs; whnf
  rw [← upd_id k5]
  rw [← upd_id e6]
  clear hfr k2 k3 k5 e6
  clear S
  have S:=S2
  clear S2
  conv=>whnf
  have hjb : j < 4611686018427387904:=by omega
  refine .inl ⟨_,S.row 1 rfl,rfl,?_⟩
  conv=>whnf
  refine bsel_intro (fun h1=>?_) (fun h1=>?_)
  ·have hjl : j < pasts.length:=by simpa using h1
   have hge : (pasts.map Past.enc)[((j : Nat) : Int).toNat]? = some (Past.enc pasts[j]):=by rw [Int.toNat_natCast]; simp [hjl]
   have hnext:=lastAt_take hjl
   rw [List.drop_eq_getElem_cons hjl] at hall
   simp only [spastGo] at hall
   have h2:=hpa _ (List.getElem_mem hjl) wide
   cases j with
   | zero=>
    have hprev : lastAt (pasts.take 0) = none:=by simp [lastAt]
    rw [hprev] at hall
    generalize pasts[0] = x at hge hall hnext h2
    obtain ⟨t,out⟩:=x
    simp only at hall hnext h2
    conv=>whnf
    refine .inl ⟨_,S.row 1 rfl,rfl,?_⟩
    conv=>whnf
    refine ⟨_,hge,by omega,rfl,?_⟩
    iterate 18
     all_goals (try (conv=>whnf))
     all_goals (first | (intro ka_ ha_ hk_ hh_; replace S:=S.alloc hk_ hh_) | (refine .inl ⟨_,S.row 0 rfl,rfl,?_⟩) | (refine .inl ⟨_,S.row 1 rfl,rfl,?_⟩) | (refine .inl ⟨_,S.row 2 rfl,rfl,?_⟩) | (refine ⟨_,rfl,rfl,rfl,.inl ⟨_,S.row 0 rfl,rfl,?_⟩⟩; (conv=>whnf); intro ha_ hh_; replace S:=S.set 0 rfl hh_; dsimp only [List.set] at S) | (refine ⟨_,rfl,rfl,rfl,.inl ⟨_,S.row 1 rfl,rfl,?_⟩⟩; (conv=>whnf); intro ha_ hh_; replace S:=S.set 1 rfl hh_; dsimp only [List.set] at S) | (refine ⟨_,rfl,rfl,rfl,.inl ⟨_,S.row 2 rfl,rfl,?_⟩⟩; (conv=>whnf); intro ha_ hh_; replace S:=S.set 2 rfl hh_; dsimp only [List.set] at S) | (refine bsel_intro (fun hb=>?_) (fun hb=>?_)) | (refine ⟨_,h2 _,?_⟩) | (refine ⟨_,hmx _,?_⟩) | skip)
    all_goals (try (conv=>whnf))
    all_goals first
     | exact g_bool (by rw [← hall]; clear hge hnext h2 hpa hmx S hall; first | (simp_all; done) | (simp_all; omega) | (simp_all; intros; omega))
     | exact ⟨m - 1,by omega,1,by omega,nat_step 0 (by omega),S.drop 0,by rw [hnext,← hall]; clear hge hnext h2 hpa hmx S hall; first | (simp_all; done) | (simp_all; omega) | (simp_all; intros; omega)⟩
   | succ i=>
    have hprev:=lastAt_take (z:=pasts) (j:=i) (by omega)
    rw [hprev] at hall
    have hw : IntKind.i64.wrap (((i + 1 : Nat) : Int) - 1) = (i : Nat):=by rw [IntKind.wrap_i64]; omega
    have hge2 : (pasts.map Past.enc)[(IntKind.i64.wrap (((i + 1 : Nat) : Int) - 1)).toNat]? = some (Past.enc pasts[i]):=by rw [hw,Int.toNat_natCast]; simp [show i < pasts.length by omega]
    generalize pasts[i + 1] = x at hge hall hnext h2
    generalize pasts[i] = y at hge2 hall hprev
    obtain ⟨t,out⟩:=x
    obtain ⟨t2,out2⟩:=y
    simp only at hall hnext h2
    conv=>whnf
    refine .inl ⟨_,S.row 1 rfl,rfl,?_⟩
    conv=>whnf
    refine ⟨_,hge,by omega,rfl,?_⟩
    iterate 24
     all_goals (try (conv=>whnf))
     all_goals (first | (refine ⟨_,hge2,by omega,rfl,?_⟩) | (intro ka_ ha_ hk_ hh_; replace S:=S.alloc hk_ hh_) | (refine .inl ⟨_,S.row 0 rfl,rfl,?_⟩) | (refine .inl ⟨_,S.row 1 rfl,rfl,?_⟩) | (refine .inl ⟨_,S.row 2 rfl,rfl,?_⟩) | (refine ⟨_,rfl,rfl,rfl,.inl ⟨_,S.row 0 rfl,rfl,?_⟩⟩; (conv=>whnf); intro ha_ hh_; replace S:=S.set 0 rfl hh_; dsimp only [List.set] at S) | (refine ⟨_,rfl,rfl,rfl,.inl ⟨_,S.row 1 rfl,rfl,?_⟩⟩; (conv=>whnf); intro ha_ hh_; replace S:=S.set 1 rfl hh_; dsimp only [List.set] at S) | (refine ⟨_,rfl,rfl,rfl,.inl ⟨_,S.row 2 rfl,rfl,?_⟩⟩; (conv=>whnf); intro ha_ hh_; replace S:=S.set 2 rfl hh_; dsimp only [List.set] at S) | (refine bsel_intro (fun hb=>?_) (fun hb=>?_)) | (refine ⟨_,h2 _,?_⟩) | (refine ⟨_,hmx _,?_⟩) | skip)
    all_goals (try (conv=>whnf))
    all_goals first
     | exact g_bool (by rw [← hall]; clear hge hge2 hnext h2 hpa hmx S hall hw hprev; first | (simp_all; done) | (simp_all; omega) | (simp_all; intros; omega))
     | exact ⟨m - 1,by omega,i + 1 + 1,by omega,nat_step (i + 1) hjb,S.drop 0,by rw [hnext,← hall]; clear hge hge2 hnext h2 hpa hmx S hall hw hprev; first | (simp_all; done) | (simp_all; omega) | (simp_all; intros; omega)⟩
  ·have hjl : j = pasts.length:=by
    have : ¬ j < pasts.length:=by simpa using h1
    omega
   subst hjl
   rw [List.drop_length] at hall
   conv=>whnf
   exact g_bool (by rw [← hall]; simp [spastGo])
theorem store_tot (s : Store) : s.d.tot = s.wides.length + (Runs.d s.tables).tot + (s.views.length + Dat.tots (s.views.map View.d)):=by
 simp only [Store.d,Ints.d,Dat.tot,Dat.tots,List.length_map,tot_ints]
 omega
def stabsGo : List Int → List (List Item) → Bool
 | w :: ws,t :: ts=>(decide (1 ≤ w) && (decide (w ≤ 6) && bagOk t w)) && stabsGo ws ts
 | _,_=>true
theorem stabsGo_at {ws : List Int} {ts : List (List Item)} {j : Nat} (h1 : j < ws.length) (h2 : j < ts.length) : stabsGo (ws.drop j) (ts.drop j) = ((decide (1 ≤ ws[j]) && (decide (ws[j] ≤ 6) && bagOk ts[j] ws[j])) && stabsGo (ws.drop (j + 1)) (ts.drop (j + 1))):=by
 rw [List.drop_eq_getElem_cons h1,List.drop_eq_getElem_cons h2,stabsGo]
def sstoreOk (s : Store) : Bool:=
 decide (s.wides.length ≤ 3) && (decide (s.tables.length = s.wides.length) && (decide (s.views.length ≤ 3) && (decide (0 ≤ s.keep) && (decide (s.keep ≤ s.now) && (decide (s.now ≤ 40) && (stabsGo s.wides s.tables && s.views.all (sviewOk s.wides s.now s.keep)))))))
theorem runs_mem_small {l : List (List Item)} (h : (Runs.d l).tot ≤ 1048576) : ∀ z ∈ l,zsm z:=(runs_small h).2
theorem sStoreOk_r (hp : Okp pr) (s : Store) (ht : s.d.tot ≤ 1048576) : Ret pr 10 [s.enc] (.bool (sstoreOk s)):=by
 rw [store_tot] at ht
 have hvs : ∀ v ∈ s.views,Ret pr 36 [v.enc,s.enc] (.bool (sviewOk s.wides s.now s.keep v)):=fun v hv=>l9View_r hp v s (by have:=tots_map (f:=View.d) hv; omega)
 obtain ⟨wides,tables,views,now,keep⟩:=s
 simp only at ht hvs
 have hta:=fun (z : List Item) (hz : z ∈ tables) w=>l9Bag_r hp z w (runs_mem_small (by omega) z hz)
 have hvl : views.length ≤ 1048576:=by omega
 clear ht
 generalize hR : sstoreOk ⟨wides,tables,views,now,keep⟩ = R
 simp only [sstoreOk] at hR
 refine retg hp rfl rfl ?_
 have S : Sepa [] []:=Sepa.nil []
 conv=>whnf
 intro k1 a1 hk1 hh1
 replace S:=S.alloc hk1 hh1
 clear hk1 hh1
 have S0 : Sepa a1 [.row k1 (.box (Store.mk wides tables views now keep).enc)]:=S
 clear S
 have S:=S0
 clear S0
 iterate 20
  all_goals (try (conv=>whnf))
  all_goals (first | (intro ka_ ha_ hk_ hh_; replace S:=S.alloc hk_ hh_) | (refine .inl ⟨_,S.row 0 rfl,rfl,?_⟩) | (refine ⟨_,rfl,rfl,rfl,.inl ⟨_,S.row 0 rfl,rfl,?_⟩⟩; (conv=>whnf); intro ha_ hh_; replace S:=S.set 0 rfl hh_; dsimp only [List.set] at S) | (refine bsel_intro (fun hb=>?_) (fun hb=>?_)) | skip)
 all_goals (try (conv=>whnf))
 all_goals first
  | exact g_bool (by rw [← hR]; clear hR hta hvs S; first | (simp_all; done) | (simp_all; omega) | (simp_all; intros; omega))
  | skip
 all_goals
  have hlen : tables.length = wides.length:=by clear hR hta hvs S; simp_all; omega
  have hw3 : wides.length ≤ 3:=by clear hR hta hvs S; simp_all; omega
  have hall : (stabsGo wides tables && views.all (sviewOk wides now keep)) = R:=by rw [← hR]; clear hR hta hvs S; first | (simp_all; done) | (simp_all; omega) | (simp_all; intros; omega)
  clear hR
  refine loopG (fun m tm hp=>∃ (j : Nat),j + m = wides.length ∧ tm 3 = i64 (j : Nat) ∧ Sepa hp [.row k1 (.box (Store.mk wides tables views now keep).enc)] ∧ ((stabsGo (wides.drop j) (tables.drop j) && views.all (sviewOk wides now keep)) = R)) (fun m tm hq hfr hI=>?_) (wides.length) ⟨0,by simp,(by first | rfl | kernel_rfl | simp),S,(hall)⟩
  obtain ⟨j,hj,e3,S2,hall⟩:=hI
  have k1:=hfr 1 (by kernel_rfl)
  conv at k1=>rhs; whnf
  rw [← upd_id k1]
  rw [← upd_id e3]
  clear hfr k1 e3
  clear S
  have S:=S2
  clear S2
  conv=>whnf
  refine .inl ⟨_,S.row 0 rfl,rfl,?_⟩
  conv=>whnf
  refine bsel_intro (fun h1=>?_) (fun h1=>?_)
  ·have hjl : j < wides.length:=by simpa using h1
   have hge : (wides.map i64)[((j : Nat) : Int).toNat]? = some (i64 wides[j]):=by rw [Int.toNat_natCast]; simp [hjl]
   have hjt : j < tables.length:=by omega
   have hgt : (tables.map Items.enc)[((j : Nat) : Int).toNat]? = some (Items.enc tables[j]):=by rw [Int.toNat_natCast]; simp [hjt]
   rw [stabsGo_at hjl hjt] at hall
   have h2:=hta _ (List.getElem_mem hjt) wides[j]
   generalize wides[j] = w at hge hall h2
   generalize tables[j] = z at hgt hall h2
   iterate 12
    all_goals (try (conv=>whnf))
    all_goals (first | (refine ⟨_,hge,by omega,rfl,?_⟩) | (refine ⟨_,hgt,by omega,rfl,?_⟩) | (intro ka_ ha_ hk_ hh_; replace S:=S.alloc hk_ hh_) | (refine .inl ⟨_,S.row 0 rfl,rfl,?_⟩) | (refine ⟨_,rfl,rfl,rfl,.inl ⟨_,S.row 0 rfl,rfl,?_⟩⟩; (conv=>whnf); intro ha_ hh_; replace S:=S.set 0 rfl hh_; dsimp only [List.set] at S) | (refine bsel_intro (fun hb=>?_) (fun hb=>?_)) | (refine ⟨_,h2 _,?_⟩) | skip)
   all_goals (try (conv=>whnf))
   all_goals first
    | exact g_bool (by rw [← hall]; clear hge hgt h2 hta hvs S hall; first | (simp_all; done) | (simp_all; omega) | (simp_all; intros; omega))
    | exact ⟨m - 1,by omega,j + 1,by omega,nat_step j (by omega),S,by rw [← hall]; clear hge hgt h2 hta hvs S hall; first | (simp_all; done) | (simp_all; omega) | (simp_all; intros; omega)⟩
  ·have hjl : j = wides.length:=by
    have : ¬ j < wides.length:=by simpa using h1
    omega
   have hall2 : views.all (sviewOk wides now keep) = R:=by
    rw [← hall,hjl,List.drop_length]
    simp [stabsGo]
   clear hall h1 hj hjl
   conv=>whnf
   refine loopG (fun m tm hp=>∃ (j : Nat),j + m = views.length ∧ tm 4 = i64 (j : Nat) ∧ Sepa hp [.row k1 (.box (Store.mk wides tables views now keep).enc)] ∧ ((views.drop j).all (sviewOk wides now keep) = R)) (fun m tm hq hfr hI=>?_) (views.length) ⟨0,by simp,(by first | rfl | kernel_rfl | simp),S,(hall2)⟩
   obtain ⟨j,hj,e4,S2,hall⟩:=hI
   have k1:=hfr 1 (by kernel_rfl)
   conv at k1=>rhs; whnf
   rw [← upd_id k1]
   rw [← upd_id e4]
   clear hfr k1 e4
   clear S
   have S:=S2
   clear S2
   conv=>whnf
   refine .inl ⟨_,S.row 0 rfl,rfl,?_⟩
   conv=>whnf
   refine bsel_intro (fun h1=>?_) (fun h1=>?_)
   ·have hjl : j < views.length:=by simpa using h1
    have hge : (views.map View.enc)[((j : Nat) : Int).toNat]? = some (View.enc views[j]):=by rw [Int.toNat_natCast]; simp [hjl]
    rw [List.drop_eq_getElem_cons hjl,List.all_cons] at hall
    have h2:=hvs _ (List.getElem_mem hjl)
    generalize views[j] = v at hge hall h2
    generalize sviewOk wides now keep v = b at hall h2
    obtain ⟨⟨⟨kind,n,test,cells,a,b',keys,agg,c,kids⟩,l,r,ks⟩,since,base,pasts⟩:=v
    conv=>whnf
    refine .inl ⟨_,S.row 0 rfl,rfl,?_⟩
    conv=>whnf
    refine ⟨_,hge,by omega,rfl,?_⟩
    conv=>whnf
    refine .inl ⟨_,S.row 0 rfl,rfl,?_⟩
    conv=>whnf
    refine ⟨_,h2 _,?_⟩
    conv=>whnf
    refine bsel_intro (fun g1=>?_) (fun g1=>?_)
    ·rw [g1,Bool.true_and] at hall
     conv=>whnf
     exact ⟨m - 1,by omega,j + 1,by omega,nat_step j (by omega),S,hall⟩
    ·conv=>whnf
     exact g_bool (by rw [← hall,g1]; rfl)
   ·have hjl : j = views.length:=by
     have : ¬ j < views.length:=by simpa using h1
     omega
    subst hjl
    rw [List.drop_length] at hall
    conv=>whnf
    exact g_bool (by rw [← hall]; rfl)
end Go.Proofs.YtncgofhhnhebjaaGreat
/- What is read of a store: the reference's. -/
set_option maxHeartbeats 4000000
namespace Go.Proofs.YtncgofhhnhebjaaGreat
open Go Go.Am
variable {pr : Prims} (hp : Okp pr) (hs : Okc pr)
set_option maxRecDepth 100000
theorem satZ_zsm (at' : Int) : ∀ (ps : List Past) (z : List Item),(∀ p ∈ ps,zOk p.out = true) → (∀ x ∈ z,x.row.length ≤ big) → (satZ at' z ps).length ≤ z.length + 100 * ps.length ∧ ∀ x ∈ satZ at' z ps,x.row.length ≤ big
 | [],z,_,hz=>⟨by simp [satZ],hz⟩
 | p :: ps,z,hp,hz=>by
  have h1:=(zOk_row (hp p (by simp))).1
  have h2:=addZ_zsm hz (zOk_zsm (hp p (by simp))).2
  simp only [satZ,List.length_cons]
  split
  ·obtain ⟨g1,g2⟩:=satZ_zsm at' ps _ (fun q hq=>hp q (by simp [hq])) h2.2
   exact ⟨by omega,g2⟩
  ·obtain ⟨g1,g2⟩:=satZ_zsm at' ps _ (fun q hq=>hp q (by simp [hq])) hz
   exact ⟨by omega,g2⟩
theorem spastGo_all {lo now wide : Int} : ∀ {ps : List Past} {q : Option Int},spastGo lo now wide q ps = true → ∀ p ∈ ps,turnOk p.out wide = true
 | [],_,_,p,hp=>by simp at hp
 | x :: xs,q,h,p,hp=>by
  simp only [spastGo,Bool.and_eq_true] at h
  rcases List.mem_cons.1 hp with rfl | hp
  ·exact h.1.2.2.1
  ·exact spastGo_all h.2 p hp
theorem turnOk_z {z : List Item} {w : Int} (h : turnOk z w = true) : zOk z = true:=by
 simp only [turnOk,Bool.and_eq_true] at h
 exact h.2
theorem sviewOk_z {ws : List Int} {now keep : Int} {v : View} (h : sviewOk ws now keep v = true) : zOk v.base = true ∧ (∀ p ∈ v.pasts,zOk p.out = true) ∧ v.pasts.length ≤ 40:=by
 simp only [sviewOk,sviewC,Bool.and_eq_true,decide_eq_true_iff] at h
 exact ⟨turnOk_z h.2.2.2.2.1,fun p hp=>turnOk_z (spastGo_all h.2.2.2.2.2.2 p hp),h.2.2.2.2.2.1⟩
theorem sstoreOk_v {s : Store} (h : sstoreOk s = true) : ∀ v ∈ s.views,sviewOk s.wides s.now s.keep v = true:=by
 simp only [sstoreOk,Bool.and_eq_true,List.all_eq_true] at h
 exact h.2.2.2.2.2.2.2
def sread (s : Store) (view at' : Int) : List Item × Int:=
 if !sstoreOk s then ([],6)
 else if decide (view < 0) || (decide (view ≥ s.views.length) || decide (at' > s.now)) then ([],1)
 else match s.views[view.toNat]? with
  | none=>([],1)
  | some v=>if decide (at' < (if s.keep > v.since then s.keep else v.since)) then ([],4)
   else if zOk (satZ at' v.base v.pasts) then (satZ at' v.base v.pasts,0) else ([],5)
theorem sStoreRead_n (hp : Okp pr) (s : Store) (view at' : Int) (ht : s.d.tot ≤ 1048576) : RetT pr 8 [s.enc,i64 view,i64 at'] [Items.d (sread s view at').1,.i (sread s view at').2]:=by
 have hok:=sStoreOk_r hp s ht
 have hvo:=@sstoreOk_v s
 generalize hR : sread s view at' = R
 obtain ⟨R1,R2⟩:=R
 simp only
 unfold sread at hR
 generalize sstoreOk s = ok at hok hvo hR
 obtain ⟨wides,tables,views,now,keep⟩:=s
 simp only at hR hvo
 refine retT_of hp rfl ?_
 have S : Sepa [] []:=Sepa.nil []
 conv=>whnf
 intro k1 a1 hk1 hh1
 replace S:=S.alloc hk1 hh1
 clear hk1 hh1
 have S0 : Sepa a1 [.row k1 (.box (Store.mk wides tables views now keep).enc)]:=S
 clear S
 have S:=S0
 clear S0
 conv=>whnf
 refine .inl ⟨_,S.row 0 rfl,rfl,?_⟩
 conv=>whnf
 refine ⟨_,hok _,?_⟩
 conv=>whnf
 refine bsel_intro (fun g0=>?_) (fun g0=>?_)
 ·subst g0
  simp only [Bool.not_true,Bool.false_eq_true,if_false] at hR
  conv=>whnf
  refine bsel_intro (fun g1=>?_) (fun g1=>?_)
  ·have e : (([] : List Item),(1 : Int)) = (R1,R2):=by rw [← hR]; rw [g1]; rfl
   cases e
   conv=>whnf
   intro k2 a2 hk2 hh2
   replace S:=S.alloc hk2 hh2
   conv=>whnf
   exact ⟨_,rfl,_,_,_,rfl,Owns2 (Sepa.acdDat (Sepa.acdRow S) |>.get 0 rfl) (OwnI _),by simp⟩
  ·rw [g1,Bool.false_or] at hR
   conv=>whnf
   refine .inl ⟨_,S.row 0 rfl,rfl,?_⟩
   conv=>whnf
   refine bsel_intro (fun g2=>?_) (fun g2=>?_)
   ·have g2' : decide (view ≥ views.length) = true:=by simpa using g2
    have e : (([] : List Item),(1 : Int)) = (R1,R2):=by rw [← hR]; rw [g2']; rfl
    cases e
    conv=>whnf
    intro k2 a2 hk2 hh2
    replace S:=S.alloc hk2 hh2
    conv=>whnf
    exact ⟨_,rfl,_,_,_,rfl,Owns2 (Sepa.acdDat (Sepa.acdRow S) |>.get 0 rfl) (OwnI _),by simp⟩
   ·have g2' : decide (view ≥ views.length) = false:=by simpa using g2
    rw [g2',Bool.false_or] at hR
    conv=>whnf
    refine .inl ⟨_,S.row 0 rfl,rfl,?_⟩
    conv=>whnf
    refine bsel_intro (fun g3=>?_) (fun g3=>?_)
    ·have e : (([] : List Item),(1 : Int)) = (R1,R2):=by rw [← hR]; rw [g3]; rfl
     cases e
     conv=>whnf
     intro k2 a2 hk2 hh2
     replace S:=S.alloc hk2 hh2
     conv=>whnf
     exact ⟨_,rfl,_,_,_,rfl,Owns2 (Sepa.acdDat (Sepa.acdRow S) |>.get 0 rfl) (OwnI _),by simp⟩
    ·rw [g3] at hR
     simp only [Bool.false_eq_true,if_false] at hR
     have hv0 : 0 ≤ view:=by simpa using g1
     have hvl : view.toNat < views.length:=by simp at g2; omega
     have hvo:=hvo rfl _ (List.getElem_mem hvl)
     have hge : (views.map View.enc)[view.toNat]? = some (View.enc views[view.toNat]):=by simp [hvl]
     rw [List.getElem?_eq_getElem hvl] at hR
     simp only at hR
     obtain ⟨z1,z2,z3⟩:=sviewOk_z hvo
     have h4:=l9At_a hp views[view.toNat] at' [] z1 z2 (by omega) rfl
     have h5:=l1Max_r hp keep views[view.toNat].since
     have h6:=satZ_zsm at' views[view.toNat].pasts views[view.toNat].base z2 (zOk_zsm z1).2
     have h7:=sZOk_r hp (satZ at' views[view.toNat].base views[view.toNat].pasts) ⟨by have:=h6.1; have:=(zOk_row z1).1; simp [big]; omega,h6.2⟩
     rw [show addZ (satZ at' views[view.toNat].base views[view.toNat].pasts) [] = satZ at' views[view.toNat].base views[view.toNat].pasts from rfl] at h4
     clear h6 hvo z1 z2 z3
     generalize views[view.toNat] = v at hge hR h4 h5 h7
     generalize hz : satZ at' v.base v.pasts = z at hR h4 h7
     generalize hm : (if keep > v.since then keep else v.since) = mx at hR h5
     obtain ⟨⟨⟨kind,n,test,cells,a,b',keys,agg,c,kids⟩,l,r,ks⟩,since,base,pasts⟩:=v
     simp only at h5
     conv=>whnf
     refine .inl ⟨_,S.row 0 rfl,rfl,?_⟩
     conv=>whnf
     refine .inl ⟨_,S.row 0 rfl,rfl,?_⟩
     conv=>whnf
     refine ⟨_,hge,hv0,rfl,?_⟩
     conv=>whnf
     refine ⟨_,h5 _,?_⟩
     conv=>whnf
     refine bsel_intro (fun g4=>?_) (fun g4=>?_)
     ·rw [if_pos g4] at hR
      cases hR
      conv=>whnf
      intro k2 a2 hk2 hh2
      replace S:=S.alloc hk2 hh2
      conv=>whnf
      exact ⟨_,rfl,_,_,_,rfl,Owns2 (Sepa.acdDat (Sepa.acdRow S) |>.get 0 rfl) (OwnI _),by simp⟩
     ·rw [if_neg (by rw [g4]; simp)] at hR
      conv=>whnf
      refine .inl ⟨_,S.row 0 rfl,rfl,?_⟩
      conv=>whnf
      refine ⟨_,hge,hv0,rfl,?_⟩
      conv=>whnf
      refine callA S h4 rfl rfl fun v4 q4 F4 S4=>?_
      conv=>whnf
      refine ⟨_,h7.here (snapL1 (Items.ofDat (show AcD _ _ _ _ _ from S4.get 0 rfl).1)) rfl rfl,?_⟩
      conv=>whnf
      refine bsel_intro (fun g5=>?_) (fun g5=>?_)
      ·rw [if_pos g5] at hR
       cases hR
       conv=>whnf
       exact ⟨_,rfl,_,_,_,rfl,Owns2 ((Sepa.acdDat S4).get 0 rfl) (OwnI 0),by rw [List.append_nil]; exact (S4.get' 0 _ rfl).2⟩
      ·rw [if_neg (by rw [g5]; simp)] at hR
       cases hR
       conv=>whnf
       intro k2 a2 hk2 hh2
       replace S4:=S4.alloc hk2 hh2
       conv=>whnf
       exact ⟨_,rfl,_,_,_,rfl,Owns2 (Sepa.acdDat (Sepa.acdRow S4) |>.get 0 rfl) (OwnI _),by simp⟩
 ·subst g0
  simp only [Bool.not_false,if_true,Prod.mk.injEq] at hR
  obtain ⟨rfl,rfl⟩:=hR
  conv=>whnf
  intro k2 a2 hk2 hh2
  replace S:=S.alloc hk2 hh2
  conv=>whnf
  exact ⟨_,rfl,_,_,_,rfl,Owns2 (Sepa.acdDat (Sepa.acdRow S) |>.get 0 rfl) (OwnI _),by simp⟩
end Go.Proofs.YtncgofhhnhebjaaGreat

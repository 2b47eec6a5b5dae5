/- The reference's PlanSame. -/
import Derived.Test.YtebciagembenjaaDoorGH20
set_option linter.unusedVariables false
set_option linter.unusedSimpArgs false
/- The program's tests of cells and tests. -/
set_option maxHeartbeats 4000000
namespace Go.Proofs.YtebciagembenjaaDoor
open Go Go.Am
variable {pr : Prims} (hp : Okp pr)
set_option maxRecDepth 100000
theorem zero_beq (b : Int) : ((0 : Int) == b) = (b == 0):=by rw [BEq.comm]
theorem isPlace_r (hp : Okp pr) (n wide : Int) : Ret pr 86 [i64 n,i64 wide] (.bool (col n wide)):=by
 refine ret_of hp rfl rfl ?_
 have hm : ∀ n,n < (if 6 < wide then 6 else wide) ↔ (n < wide ∧ n < 6):=fun n=>by split <;> omega
 iterate 4
  all_goals (try (conv=>whnf))
  all_goals (first | (refine bsel_intro (fun hb=>?_) (fun hb=>?_)) | skip)
 all_goals exact fin_bool (by simp only [ge_iff_le,decide_eq_true_eq,decide_eq_false_iff_not,hm] at *; first | (simp_all [col]; done) | (simp_all [col]; omega) | (simp_all [col]; intros; omega))
theorem isCell_r (hp : Okp pr) (n : Int) : Ret pr 57 [i64 n] (.bool (isCell n)):=by
 refine ret_of hp rfl rfl ?_
 iterate 3
  all_goals (try (conv=>whnf))
  all_goals (first | (refine bsel_intro (fun hb=>?_) (fun hb=>?_)) | skip)
 all_goals exact fin_bool (by first | (simp_all [isCell]; done) | (simp_all [isCell]; omega) | (simp_all [isCell]; intros; omega))
def tCol : TypeId:=89
def tNum : TypeId:=91
def tSum : TypeId:=93
def reck (c : Cell) : AVal:=
 if c.kind = 1 then .iface tCol (.agg [i64 c.a])
 else if c.kind = 2 then .iface tNum (.agg [i64 c.n])
 else if c.kind = 3 then .iface tSum (.agg [i64 c.a,i64 c.b])
 else .nili
theorem reckoningOf_r (hp : Okp pr) (c : Cell) : Ret pr 50 [c.enc] (reck c):=by
 obtain ⟨k,a,b,n⟩:=c
 refine ret_of hp rfl rfl ?_
 rcases kind3_cases k with rfl | rfl | rfl | ⟨h1,h2,h3⟩
 iterate 3
  ·conv=>whnf
   exact ⟨_,_,rfl,rfl⟩
 ·iterate 4
   all_goals (try (conv=>whnf))
   all_goals (first | (refine bsel_false h1 ?_) | (refine bsel_false h2 ?_) | (refine bsel_false h3 ?_) | (refine bsel_intro (fun hb=>?_) (fun hb=>?_)) | skip)
  have : reck ⟨k,a,b,n⟩ = .nili:=by simp_all [reck]
  rw [this]
  exact ⟨_,_,rfl,rfl⟩
theorem colCell_r (hp : Okp pr) (a : Int) : Ret pr 82 [.agg [i64 a]] (Cell.enc ⟨1,a,0,0⟩):=by
 refine ret_of hp rfl rfl ?_
 conv=>whnf
 exact ⟨_,_,rfl,rfl⟩
theorem numCell_r (hp : Okp pr) (n : Int) : Ret pr 87 [.agg [i64 n]] (Cell.enc ⟨2,0,0,n⟩):=by
 refine ret_of hp rfl rfl ?_
 conv=>whnf
 exact ⟨_,_,rfl,rfl⟩
theorem sumCell_r (hp : Okp pr) (a b : Int) : Ret pr 91 [.agg [i64 a,i64 b]] (Cell.enc ⟨3,a,b,0⟩):=by
 refine ret_of hp rfl rfl ?_
 conv=>whnf
 exact ⟨_,_,rfl,rfl⟩
theorem colOk_r (hp : Okp pr) (a w : Int) : Ret pr 84 [.agg [i64 a],i64 w] (.bool (col a w)):=by
 refine ret_of hp rfl rfl ?_
 iterate 3
  all_goals (try (conv=>whnf))
  all_goals (first | (refine bsel_intro (fun hb=>?_) (fun hb=>?_)) | (refine ⟨_,isPlace_r hp _ _ _,?_⟩) | skip)
 all_goals exact fin_bool hb.symm
theorem numOk_r (hp : Okp pr) (n w : Int) : Ret pr 89 [.agg [i64 n],i64 w] (.bool (isCell n)):=by
 refine ret_of hp rfl rfl ?_
 iterate 3
  all_goals (try (conv=>whnf))
  all_goals (first | (refine bsel_intro (fun hb=>?_) (fun hb=>?_)) | (refine ⟨_,isCell_r hp _ _,?_⟩) | skip)
 all_goals exact fin_bool hb.symm
theorem sumOk_r (hp : Okp pr) (a b w : Int) : Ret pr 93 [.agg [i64 a,i64 b],i64 w] (.bool (col a w && col b w)):=by
 refine ret_of hp rfl rfl ?_
 iterate 5
  all_goals (try (conv=>whnf))
  all_goals (first | (refine bsel_intro (fun hb=>?_) (fun hb=>?_)) | (refine ⟨_,isPlace_r hp _ _ _,?_⟩) | skip)
 all_goals exact fin_bool (by simp_all)
theorem iCellOk_r (hp : Okp pr) (c : Cell) (w : Int) : Ret pr 49 [c.enc,i64 w] (.bool (cellOk c w)):=by
 have h0:=reckoningOf_r hp c
 obtain ⟨k,a,b,n⟩:=c
 refine ret_of hp rfl rfl ?_
 rcases kind3_cases k with rfl | rfl | rfl | ⟨h1,h2,h3⟩
 iterate 3
  ·iterate 8
    all_goals (try (conv=>whnf))
    all_goals (first | (refine bsel_intro (fun hb=>?_) (fun hb=>?_)) | (refine ⟨_,h0 _,?_⟩) | (refine ⟨_,colCell_r hp _ _,?_⟩) | (refine ⟨_,numCell_r hp _ _,?_⟩) | (refine ⟨_,sumCell_r hp _ _ _,?_⟩) | (refine ⟨_,colOk_r hp _ _ _,?_⟩) | (refine ⟨_,numOk_r hp _ _ _,?_⟩) | (refine ⟨_,sumOk_r hp _ _ _ _,?_⟩) | (refine ⟨_,_,eqS_cell,rfl,?_⟩) | skip)
   all_goals exact fin_bool (by clear h0; (try simp only [zero_beq] at *); first | (simp_all [cellOk]; done) | (simp_all [cellOk]; omega))
 ·have hr : reck ⟨k,a,b,n⟩ = .nili:=by simp_all [reck]
  rw [hr] at h0
  conv=>whnf
  refine ⟨_,h0 _,?_⟩
  conv=>whnf
  exact fin_bool (by clear h0; simp_all [cellOk])
theorem iTestOk_r (hp : Okp pr) (t : Test) (wide : Int) : Ret pr 24 [t.enc,i64 wide] (.bool (testOk t wide)):=by
 obtain ⟨k,no,l,r⟩:=t
 refine ret_of hp rfl rfl ?_
 iterate 10
  all_goals (try (conv=>whnf))
  all_goals (first | (refine bsel_intro (fun hb=>?_) (fun hb=>?_)) | (refine ⟨_,iCellOk_r hp l _ _,?_⟩) | (refine ⟨_,iCellOk_r hp r _ _,?_⟩) | skip)
 all_goals exact fin_bool (by first | (simp_all [testOk]; done) | (simp_all [testOk]; omega) | (simp_all [testOk]; intros; omega))
end Go.Proofs.YtebciagembenjaaDoor
/- The program's looks at lists. -/
set_option maxHeartbeats 4000000
namespace Go.Am
open Go
theorem snap_scalar {h : Heap} {n : Nat} {v r : AVal} (hs : snapF h n v = some r) (hr : r.isScalar = true) : v = r:=by
 cases n with
 | zero=>cases hs
 | succ n=>
  cases v <;> (try simp only [snapF] at hs)
  case map id=>
   split at hs
   ·split at hs
    ·cases hs; cases hr
    ·cases hs
   ·cases hs
  case own id st len=>
   split at hs
   ·split at hs
    ·simp only [Option.map_eq_some_iff] at hs; obtain ⟨_,_,rfl⟩:=hs; cases hr
    ·cases hs
   ·cases hs
  case ptr id i off=>
   split at hs
   ·split at hs
    ·simp only [Option.map_eq_some_iff] at hs; obtain ⟨_,_,rfl⟩:=hs; cases hr
    ·cases hs
   ·simp only [Option.map_eq_some_iff] at hs; obtain ⟨_,_,rfl⟩:=hs; cases hr
   ·cases hs
  case func fn a b=>
   split at hs
   ·cases hs; cases hr
   ·cases hs
  case agg cs=>simp only [Option.map_eq_some_iff] at hs; obtain ⟨_,_,rfl⟩:=hs; cases hr
  case tup cs=>simp only [Option.map_eq_some_iff] at hs; obtain ⟨_,_,rfl⟩:=hs; cases hr
  case iface t v=>simp only [Option.map_eq_some_iff] at hs; obtain ⟨_,_,rfl⟩:=hs; cases hr
  all_goals (first | (cases hs; done) | (cases hs; rfl) | (cases hs; cases hr))
end Go.Am
namespace Go.Proofs.YtebciagembenjaaDoor
open Go Go.Am
theorem Ret.some {pr : Prims} {f : FuncId} {args : List AVal} {res : AVal} (hr : Ret pr f args res) (hi : snapL [] args = some args) (hM : modes f = Am.Mode.P:=by rfl) : ∃ v h1,call (cfp pr) f args [] = some (.ret v h1) ∧ snap h1 v = some res:=by
 have h0:=hr []
 have hm : (cfp pr).M f = .P:=hM
 unfold callM at h0
 simp only [hm,hi] at h0
 cases hc : call (cfp pr) f args [] with
 | none=>rw [hc] at h0; cases h0
 | some q=>
  rw [hc] at h0
  cases q with
  | ret v h1=>
   simp only [Option.map_eq_some_iff] at h0
   obtain ⟨w,hw,he⟩:=h0
   cases he
   exact ⟨v,h1,rfl,hw⟩
  | pan v h1=>
   simp only [Option.map_eq_some_iff] at h0
   obtain ⟨w,hw,he⟩:=h0
   cases he
theorem Ret.snapped {pr : Prims} {f : FuncId} {args args' : List AVal} {res : AVal} (hr : Ret pr f args' res) (hs : snapL [] args = Option.some args') (hi : snapL [] args' = Option.some args') (hM : modes f = Am.Mode.P:=by rfl) : Ret pr f args res:=by
 obtain ⟨v,h1,hc,hv⟩:=hr.some hi hM
 intro h
 have hm : (cfp pr).M f = .P:=hM
 unfold callM
 simp only [hm,hs,hc,hv,Option.map_some]
theorem Ret.frozen {pr : Prims} {f : FuncId} {args args' : List AVal} {res : AVal} {h : Heap} (hr : Ret pr f args' res) (hn : snapL [] args = Option.none) (hs : snapL h args = Option.some args') (hi : snapL [] args' = Option.some args') (hres : res.isScalar = true) (hM : modes f = Am.Mode.P:=by rfl) :
  callM (cfp pr) (call (cfp pr)) f args h = Option.some (.ret res h):=by
   obtain ⟨v,h1,hc,hv⟩:=hr.some hi hM
   obtain rfl:=snap_scalar hv hres
   have hm : (cfp pr).M f = .P:=hM
   have hsc : v.scal = true:=by cases v <;> first | exact hres | cases hres
   unfold callM
   simp only [hm,hn,hs,hc,hsc,if_true]
variable {pr : Prims} (hp : Okp pr)
set_option maxRecDepth 100000
end Go.Proofs.YtebciagembenjaaDoor
/- Equality of lists and plans. -/
set_option maxHeartbeats 4000000
namespace Go.Proofs.YtebciagembenjaaDoor
open Go Go.Am
def listEq {α β : Type} (f : α → β → Bool) : List α → List β → Bool
 | [],[]=>true
 | a :: us,b :: vs=>f a b && listEq f us vs
 | _,_=>false
theorem listEq_len {α β : Type} {f : α → β → Bool} : ∀ {us : List α} {vs : List β},listEq f us vs = true → us.length = vs.length
 | [],[],_=>rfl
 | a :: us,b :: vs,h=>by
  simp only [listEq,Bool.and_eq_true] at h
  simp [listEq_len h.2]
 | [],_ :: _,h=>by cases h
 | _ :: _,[],h=>by cases h
theorem listEq_ne {α β : Type} {f : α → β → Bool} {us : List α} {vs : List β} (h : us.length ≠ vs.length) : listEq f us vs = false:=by
 cases hq : listEq f us vs with
 | false=>rfl
 | true=>exact absurd (listEq_len hq) h
theorem listEq_step {α β : Type} {f : α → β → Bool} {us : List α} {vs : List β} {j : Nat} (ha : j < us.length) (hb : j < vs.length) : listEq f (us.drop j) (vs.drop j) = (f us[j] vs[j] && listEq f (us.drop (j + 1)) (vs.drop (j + 1))):=by
 rw [List.drop_eq_getElem_cons ha,List.drop_eq_getElem_cons hb]
 rfl
theorem listEq_end {α β : Type} {f : α → β → Bool} {us : List α} {vs : List β} (h : us.length = vs.length) : listEq f (us.drop us.length) (vs.drop us.length) = true:=by
 rw [List.drop_length,h,List.drop_length]
 rfl
variable {pr : Prims} (hp : Okp pr)
set_option maxRecDepth 100000
def cellEq (c d : Cell) : Bool:=c.kind == d.kind && (c.a == d.a && (c.b == d.b && (c.n == d.n && true)))
def testEq (s t : Test) : Bool:=s.kind == t.kind && (s.no == t.no && (s.l.kind == t.l.kind && (s.l.a == t.l.a && (s.l.b == t.l.b && (s.l.n == t.l.n && (s.r.kind == t.r.kind && (s.r.a == t.r.a && (s.r.b == t.r.b && (s.r.n == t.r.n && true)))))))))
mutual
def planEq : Plan → Plan → Bool
 | .mk kind n test cells a b keys agg c kids,q=>(kind == q.kind && (n == q.n && (testEq test q.test && (a == q.a && (b == q.b && (agg == q.agg && c == q.col)))))) && (listEq cellEq cells q.cells && (listEq (· == ·) keys q.keys && planEqs kids q.kids))
def planEqs : List Plan → List Plan → Bool
 | [],[]=>true
 | p :: ps,q :: qs=>planEq p q && planEqs ps qs
 | _,_=>false
end
end Go.Proofs.YtebciagembenjaaDoor
/- The reference's PlanSame. -/
set_option maxHeartbeats 4000000
namespace Go.Proofs.YtebciagembenjaaDoor
open Go Go.Am
variable {pr : Prims} (hp : Okp pr)
set_option maxRecDepth 100000
def ordL : List Int → List Int → Int
 | x :: xs,y :: ys=>if x < y then -1 else if y < x then 1 else ordL xs ys
 | xs,ys=>(xs.length : Int) - (ys.length : Int)
theorem ordL_zero : ∀ (xs ys : List Int),(ordL xs ys == 0) = listEq (· == ·) xs ys
 | [],[]=>rfl
 | [],y :: ys=>by
  have h : (ordL [] (y :: ys) == 0) = false:=by simp [ordL]; omega
  rw [h]; rfl
 | x :: xs,[]=>by
  have h : (ordL (x :: xs) [] == 0) = false:=by simp [ordL]; omega
  rw [h]; rfl
 | x :: xs,y :: ys=>by
  simp only [ordL,listEq]
  rw [← ordL_zero xs ys]
  rcases Int.lt_trichotomy x y with h | h | h
  ·rw [if_pos h]; simp; omega
  ·subst h; simp
  ·rw [if_neg (by omega),if_pos h]; simp; omega
theorem ordL_end {xs ys : List Int} (h : xs = [] ∨ ys = []) : ordL xs ys = (xs.length : Int) - (ys.length : Int):=by
 rcases h with rfl | rfl
 ·cases ys <;> rfl
 ·cases xs <;> rfl
theorem l1Order_r (hp : Okp pr) (xs ys : List Int) (hx : xs.length ≤ 9223372036854775807) (hy : ys.length ≤ 9223372036854775807) (hl : xs.length ≤ 1000000000) : Ret pr 59 [.sl (xs.map i64),.sl (ys.map i64)] (i64 (ordL xs ys)):=by
 refine ret_of hp rfl rfl ?_
 conv=>whnf
 refine loop_rule (fun m st=>∃ j : Nat,j + m = xs.length ∧ j ≤ ys.length ∧ st.tm 0 = .sl (xs.map i64) ∧ st.tm 1 = .sl (ys.map i64) ∧ st.tm 5 = i64 (j : Nat) ∧ st.hp = [] ∧ ordL xs ys = ordL (xs.drop j) (ys.drop j)) (fun m st hI=>?_) xs.length _ ⟨0,by simp,by simp,rfl,rfl,rfl,rfl,rfl⟩
 obtain ⟨j,hj,hjy,e0,e1,e5,hh,hall⟩:=hI
 obtain ⟨tm,hq⟩:=st
 simp only at e0 e1 e5 hh
 subst hh
 rw [show tm = upd (upd (upd tm 0 (.sl (xs.map i64))) 1 (.sl (ys.map i64))) 5 (i64 (j : Nat)) by rw [upd_id e0,upd_id e1,upd_id e5]]
 clear e0 e1 e5
 have hfin : xs.drop j = [] ∨ ys.drop j = [] → IntKind.i64.wrap (((xs.map i64).length : Int) - ((ys.map i64).length : Int)) = ordL xs ys:=fun h=>by
  rw [hall,ordL_end h,IntKind.wrap_i64]
  simp
  omega
 conv=>whnf
 refine bsel_intro (fun h1=>?_) (fun h1=>?_)
 ·have hjl : j < xs.length:=by simpa using h1
  conv=>whnf
  refine bsel_intro (fun h2=>?_) (fun h2=>?_)
  ·have hjm : j < ys.length:=by simpa using h2
   have g1 : (xs.map i64)[((j : Nat) : Int).toNat]? = some (i64 xs[j]):=by rw [Int.toNat_natCast]; simp [hjl]
   have g2 : (ys.map i64)[((j : Nat) : Int).toNat]? = some (i64 ys[j]):=by rw [Int.toNat_natCast]; simp [hjm]
   rw [List.drop_eq_getElem_cons hjl,List.drop_eq_getElem_cons hjm] at hall
   generalize xs[j] = x at g1 hall
   generalize ys[j] = y at g2 hall
   conv=>whnf
   refine ⟨_,g1,by omega,rfl,?_⟩
   conv=>whnf
   refine ⟨_,g2,by omega,rfl,?_⟩
   conv=>whnf
   refine bsel_intro (fun h3=>?_) (fun h3=>?_)
   ·have h3' : x < y:=by simpa using h3
    conv=>whnf
    exact fin_int (by rw [hall]; simp [ordL,h3'])
   ·have h3' : ¬ x < y:=by simpa using h3
    conv=>whnf
    refine ⟨_,g1,by omega,rfl,?_⟩
    conv=>whnf
    refine ⟨_,g2,by omega,rfl,?_⟩
    conv=>whnf
    refine bsel_intro (fun h4=>?_) (fun h4=>?_)
    ·have h4' : y < x:=by simpa using h4
     conv=>whnf
     exact fin_int (by rw [hall]; simp [ordL,h3',h4'])
    ·have h4' : ¬ y < x:=by simpa using h4
     conv=>whnf
     exact ⟨m - 1,by omega,j + 1,by omega,by omega,rfl,rfl,nat_step j (by omega),rfl,by rw [hall]; simp [ordL,h3',h4']⟩
  ·have hjm : ys.length ≤ j:=by simpa using h2
   conv=>whnf
   exact fin_int (hfin (.inr (List.drop_eq_nil_of_le hjm)))
 ·have hjl : xs.length ≤ j:=by simpa using h1
  conv=>whnf
  exact fin_int (hfin (.inl (List.drop_eq_nil_of_le hjl)))
end Go.Proofs.YtebciagembenjaaDoor

/- The law of selections. -/
import Derived.Test.YtebciagembenjaaDoorGH36
import Derived.Test.YtebciagembenjaaDoorGH32
import Derived.Test.YtebciagembenjaaDoorGH34
import Derived.Test.YtebciagembenjaaDoorGH35
set_option linter.unusedVariables false
set_option linter.unusedSimpArgs false
/- What is drawn for selections. -/
set_option maxHeartbeats 4000000
namespace Go.Proofs.YtebciagembenjaaDoor
open Go Go.Am
variable {pr : Prims} (hp : Okp pr)
set_option maxRecDepth 100000
theorem fin_tc {P : Program} {fn : Func} {st : St} {a d t k : Nat} {u x v : AVal} (hr : fn.results.toList = [.tmp a,.cell d t]) (ha : st.tm a = u) (ht : st.tm d = .ptr k 0 0) (hk : st.hp[k]? = some (.box x)) (hv : partA P t x 0 = some v) : finA P fn (some (.ret st)) = some (.ret (.tup [u,v]) st.hp):=by
 have h1 : resA P st (.cell d t) = some v:=by
  simp only [resA,ht,loadA,hk,if_true,hv]
 have h2 : resA P st (.tmp a) = some u:=by simp only [resA,ha]
 simp only [finA,hr,mapO,h1,h2,Option.map_some]
 rfl
theorem snapF_scal (h : Heap) (n : Nat) : ∀ {l : List AVal},l.all AVal.isScalar = true → mapO (snapF h (n + 1)) l = some l
 | [],_=>rfl
 | x :: xs,hl=>by
  simp only [List.all_cons,Bool.and_eq_true] at hl
  have hx : snapF h (n + 1) x = some x:=by cases x <;> first | rfl | (simp [AVal.isScalar] at hl)
  simp only [mapO,hx,snapF_scal h n hl.2]
theorem snap_tupc {h : Heap} {a a' : AVal} {cs : List AVal} (ha : snapF h 4194303 a = some a') (hc : cs.all AVal.isScalar = true) : Am.snap h (.tup [a,.agg cs]) = some (.tup [a',.agg cs]):=by
 have h1 : snapF h 4194303 (.agg cs) = some (.agg cs):=by
  show (mapO (snapF h 4194302) cs).map AVal.agg = _
  rw [snapF_scal h 4194301 hc]
  rfl
 show (mapO (snapF h 4194303) [a,.agg cs]).map AVal.tup = _
 simp only [mapO,ha,h1]
 rfl
theorem drawWhere (hp : Okp pr) (bs : List Int) (hb : ∀ b ∈ bs,0 ≤ b ∧ b < 256) (hbl : bs.length ≤ 1048576) : ∃ (z : List Item) (t : Test),bentZ z ∧ Ret pr 4 [.sl (bs.map u8)] (.tup [Items.enc z,t.enc]):=by
 suffices hw : wpFL (cfp pr) 4 [.sl (bs.map u8)] [] (fun r=>∃ (z : List Item) (t : Test),bentZ z ∧ ∃ v h1,r = .ret v h1 ∧ snap h1 v = some (.tup [Items.enc z,t.enc])) by
  obtain ⟨r,hr,z,t,hz,v,h1,rfl,hs⟩:=wpFL_sound (hp.out _ rfl) hw
  refine ⟨z,t,hz,fun h=>?_⟩
  have hm : (cfp pr).M 4 = .P:=modes_P (f:=4) rfl
  have ha : snapL [] [AVal.sl (bs.map u8)] = some [.sl (bs.map u8)]:=rfl
  unfold callM
  simp only [hm,ha,hr,hs,Option.map_some]
 have S : Sepa [] []:=Sepa.nil []
 conv=>whnf
 intro k1 a1 hk1 hh1
 replace S:=S.alloc hk1 hh1
 conv=>whnf
 refine callOpen hp bs hb hbl S fun k h1 S1=>?_
 clear S
 conv=>whnf
 refine callL5Wide hp S1 (by omega) fun z wide v F h2 hz hw1 hw2 S=>?_
 clear S1
 conv=>whnf
 refine callL3TestBent hp wide S (by omega) fun t h3 S1=>?_
 clear S
 obtain ⟨t1,t2,⟨c1,c2,c3,c4⟩,⟨d1,d2,d3,d4⟩⟩:=t
 have S:=S1
 clear S1
 conv=>whnf
 refine ⟨_,rfl,rfl,rfl,.inl ⟨_,S.row 2 rfl,rfl,?_⟩⟩
 conv=>whnf
 intro h4 hh_h4
 replace S:=S.set 2 rfl hh_h4
 dsimp only [List.set] at S
 conv=>whnf
 have hs : Am.snap h4 (.tup [v,.agg [i64 t1,.bool t2,i64 c1,i64 c2,i64 c3,i64 c4,i64 d1,i64 d2,i64 d3,i64 d4]]) = some (.tup [Items.enc z,.agg [i64 t1,.bool t2,i64 c1,i64 c2,i64 c3,i64 c4,i64 d1,i64 d2,i64 d3,i64 d4]]):=snap_tupc (Sepa.see3 (S.front 1 rfl)) rfl
 exact ⟨_,fin_tc (u:=v) rfl rfl rfl (S.row 2 rfl) rfl,z,⟨t1,t2,⟨c1,c2,c3,c4⟩,⟨d1,d2,d3,d4⟩⟩,hz,_,_,rfl,hs⟩
end Go.Proofs.YtebciagembenjaaDoor
/- The plain law: selections part items. -/
set_option maxHeartbeats 4000000
set_option pp.deepTerms false
set_option pp.deepTerms.threshold 12
namespace Go.Proofs.YtebciagembenjaaDoor
open Go Go.Am
theorem Rises.filter {z : List Item} (P : Item → Bool) (h : Rises z) : Rises (z.filter P):=by
 induction z with
 | nil=>exact h
 | cons x xs ih=>
  rw [List.filter_cons]
  split
  ·exact ⟨fun y hy=>h.1 y (List.mem_filter.1 hy).1,ih h.2⟩
  ·exact ih h.2
theorem zGo_of : ∀ {z : List Item} {q : Option (List Int)},Rises z → (∀ x ∈ z,rowOk x.row = true ∧ wOk x.w = true) → (∀ r,q = some r → ∀ y ∈ z,rowLess r y.row = true) → zGo q z = true
 | [],_,_,_,_=>rfl
 | x :: xs,q,h1,h2,h3=>by
  simp only [zGo,Bool.and_eq_true]
  refine ⟨⟨(h2 x (by simp)).1,(h2 x (by simp)).2,?_⟩,zGo_of h1.2 (fun y hy=>h2 y (by simp [hy])) fun r hr y hy=>?_⟩
  ·cases q with
   | none=>rfl
   | some r=>exact h3 r rfl x (by simp)
  ·cases hr; exact h1.1 y hy
theorem zOk_of {z : List Item} (h0 : z.length ≤ 100) (h1 : Rises z) (h2 : ∀ x ∈ z,rowOk x.row = true ∧ wOk x.w = true) : zOk z = true:=by
 unfold zOk
 rw [decide_eq_true h0,Bool.true_and]
 exact zGo_of h1 h2 fun r hr=>by cases hr
theorem zOk_filter {z : List Item} (P : Item → Bool) (h : zOk z = true) : zOk (z.filter P) = true:=
 zOk_of (Nat.le_trans (List.length_filter_le _ _) (zOk_row h).1) ((zOk_rises h).filter P) fun x hx=>zOk_rowOk h x (List.mem_filter.1 hx).1
theorem merge_head {x : Item} {a : List Item} : ∀ {c : List Item},(∀ y ∈ c,rowLess x.row y.row = true) → mergeZ (x :: a) c = x :: mergeZ a c
 | [],_=>by rw [mergeZ_nil2,mergeZ_nil2]
 | y :: ys,h=>by
  rw [mergeZ,if_pos ((rowLess_iff _ _).1 (h y (by simp)))]
theorem merge_head2 {y : Item} {c : List Item} : ∀ {a : List Item},(∀ x ∈ a,rowLess y.row x.row = true) → mergeZ a (y :: c) = y :: mergeZ a c
 | [],_=>by rw [mergeZ_nil,mergeZ_nil]
 | x :: xs,h=>by
  have h1:=(rowLess_iff _ _).1 (h x (by simp))
  have h2:=cmpL_anti x.row y.row
  rw [mergeZ,if_neg (by omega),if_pos (by omega)]
theorem merge_parts (P : Item → Bool) : ∀ {z : List Item},Rises z → mergeZ (z.filter P) (z.filter fun x=>!P x) = z
 | [],_=>by simp [mergeZ]
 | x :: xs,h=>by
  rw [List.filter_cons,List.filter_cons]
  cases hp : P x with
  | true=>
   rw [if_pos rfl,if_neg (by simp),merge_head fun y hy=>h.1 y (List.mem_filter.1 hy).1,merge_parts P h.2]
  | false=>
   rw [if_neg (by simp),if_pos (by simp),merge_head2 fun y hy=>h.1 y (List.mem_filter.1 hy).1,merge_parts P h.2]
theorem ahead_cons (x : Item) (xs : List Item) (r : List Int) : ahead (x :: xs) r = if rowLess x.row r then ahead xs r + 1 else 0:=by
 unfold ahead
 rw [List.takeWhile_cons]
 split <;> simp
theorem ahead_ok : ∀ {z : List Item} (r : List Int),Rises z → (∀ i (h : i < z.length),i < ahead z r → cmpL z[i].row r < 0) ∧ ∀ i (h : i < z.length),ahead z r ≤ i → ¬ cmpL z[i].row r < 0
 | [],r,_=>⟨fun i h=>by simp at h,fun i h=>by simp at h⟩
 | x :: xs,r,h=>by
  rw [ahead_cons]
  obtain ⟨g1,g2⟩:=ahead_ok r h.2
  cases hx : rowLess x.row r with
  | true=>
   rw [if_pos rfl]
   refine ⟨fun i hi hj=>?_,fun i hi hj=>?_⟩
   ·cases i with
    | zero=>exact (rowLess_iff _ _).1 hx
    | succ i=>exact g1 i (by simpa using hi) (by omega)
   ·cases i with
    | zero=>omega
    | succ i=>exact g2 i (by simpa using hi) (by omega)
  | false=>
   rw [if_neg (by simp)]
   refine ⟨fun i hi hj=>by omega,fun i hi _ hlt=>?_⟩
   have hx' : ¬ cmpL x.row r < 0:=fun hc=>by rw [(rowLess_iff _ _).2 hc] at hx; cases hx
   cases i with
   | zero=>exact hx' hlt
   | succ i=>
    have:=h.1 _ (List.getElem_mem (show i < xs.length by simpa using hi))
    have h3:=rowLess_trans this ((rowLess_iff _ _).2 hlt)
    exact hx' ((rowLess_iff _ _).1 h3)
theorem hitW_mem : ∀ {z : List Item} {x : Item},Rises z → x ∈ z → hitW x.row z[ahead z x.row]? = x.w
 | [],_,_,hx=>by simp at hx
 | y :: ys,x,h,hx=>by
  rw [ahead_cons]
  rcases List.mem_cons.1 hx with rfl | hx
  ·rw [rowLess_irrefl,if_neg (by simp)]
   simp [hitW,cmpL_self]
  ·rw [h.1 x hx,if_pos rfl,List.getElem?_cons_succ]
   exact hitW_mem h.2 hx
def Test.neg (t : Test) : Test:=⟨t.kind,!t.no,t.l,t.r⟩
theorem testOf_neg (t : Test) (r : List Int) : testOf t.neg r = if (testOf t r).2 then (!(testOf t r).1,true) else (false,false):=by
 unfold testOf Test.neg
 have : testOk ⟨t.kind,!t.no,t.l,t.r⟩ r.length = testOk t r.length:=rfl
 rw [this]
 simp only
 split
 ·simp only [if_true]
  congr 1
  generalize (if t.kind = 2 then _ else _) = b
  cases b <;> cases t.no <;> rfl
 ·simp
theorem listEq_refl' {α : Type} {f : α → α → Bool} (hf : ∀ x,f x x = true) : ∀ l : List α,listEq f l l = true
 | []=>rfl
 | x :: xs=>by simp [listEq,hf x,listEq_refl' hf xs]
theorem itemEq_refl (x : Item) : itemEq x x = true:=by
 unfold itemEq
 rw [beq_self_eq_true,Bool.true_and,rowSame_iff]
theorem same_refl (z : List Item) : listEq itemEq z z = true:=listEq_refl' itemEq_refl z
theorem where_eq (z : List Item) (t : Test) : optZ (whereZ z t) = iwhereZ z t:=by
 unfold whereZ iwhereZ
 split
 ·rename_i h
  simp only [Bool.and_eq_true] at h
  have h1:=zOk_filter (fun x=>(testOf t x.row).1) h.1
  rw [addZ_nil_rises (zOk_rises h1) (zOk_w h1)]
  rfl
 ·rfl
theorem where_parts {z : List Item} {t : Test} (h : (iwhereZ z t).2 = true) :
  zOk z = true ∧ zOk (iwhereZ z t).1 = true ∧ (iwhereZ z t.neg).2 = true ∧ iaddZ (iwhereZ z t).1 (iwhereZ z t.neg).1 = (z,true) ∧ iwhereZ (iwhereZ z t).1 t = ((iwhereZ z t).1,true) ∧
   ∀ x ∈ (iwhereZ z t).1,testOf t x.row = (true,true) ∧ hitW x.row z[ahead z x.row]? = x.w:=by
    unfold iwhereZ at h
    split at h
    ·rename_i hc
     simp only [Bool.and_eq_true] at hc
     obtain ⟨h1,h2⟩:=hc
     have e1 : iwhereZ z t = (z.filter (fun x=>(testOf t x.row).1),true):=by unfold iwhereZ; rw [h1,h2]; rfl
     have e2 : iwhereZ z t.neg = (z.filter (fun x=>!(testOf t x.row).1),true):=by
      have g : z.all (fun x=>(testOf t.neg x.row).2) = true:=by
       rw [List.all_eq_true] at h2 ⊢
       intro x hx
       rw [testOf_neg,h2 x hx]
       rfl
      unfold iwhereZ
      rw [h1,g]
      show (z.filter (fun x=>(testOf t.neg x.row).1),true) = _
      congr 1
      refine List.filter_congr fun x hx=>?_
      rw [testOf_neg,List.all_eq_true.1 h2 x hx]
      rfl
     have h3:=zOk_filter (fun x=>(testOf t x.row).1) h1
     have h4:=zOk_filter (fun x=>!(testOf t x.row).1) h1
     rw [e1,e2]
     refine ⟨h1,h3,rfl,?_,?_,fun x hx=>?_⟩
     ·show iaddZ _ _ = _
      unfold iaddZ
      simp only
      rw [h3,h4,merge_parts _ (zOk_rises h1)]
      unfold toldZ
      rw [h1]
      rfl
     ·simp only
      unfold iwhereZ
      have g : (z.filter (fun x=>(testOf t x.row).1)).all (fun x=>(testOf t x.row).2) = true:=by
       rw [List.all_eq_true] at h2 ⊢
       exact fun x hx=>h2 x (List.mem_filter.1 hx).1
      rw [h3,g,List.filter_filter]
      simp
     ·obtain ⟨hx1,hx2⟩:=List.mem_filter.1 hx
      refine ⟨?_,hitW_mem (zOk_rises h1) hx1⟩
      have:=List.all_eq_true.1 h2 x hx1
      generalize testOf t x.row = q at hx2 this ⊢
      obtain ⟨a,b⟩:=q
      simp only at hx2 this
      rw [hx2,this]
    ·simp at h
end Go.Proofs.YtebciagembenjaaDoor
/- The law of selections. -/
set_option maxHeartbeats 4000000
set_option pp.deepTerms false
set_option pp.deepTerms.threshold 12
namespace Go.Proofs.YtebciagembenjaaDoor
open Go Go.Am
variable {pr : Prims}
set_option maxRecDepth 100000
theorem iwhere_none {z : List Item} {t : Test} (h : (iwhereZ z t).2 = false) : (iwhereZ z t).1 = []:=by
 unfold iwhereZ at h ⊢
 split at h
 ·cases h
 ·rename_i hc
  rw [if_neg hc]
theorem dat_nil {h : Heap} {v : AVal} {F : List Nat} (ho : Own h (Items.d []) v F) : v = .nil ∨ v = .sl [] ∨ ∃ id,v = .own id 0 0:=by
 have h0 : Own h (.s 2 []) v F:=ho
 simp only [Own] at h0
 rcases h0 with ⟨_,_,rfl | rfl⟩ | ⟨id,vs,Fs,rfl,_⟩
 ·exact .inl rfl
 ·exact .inr (.inl rfl)
 ·exact .inr (.inr ⟨id,rfl⟩)
theorem owns_get {h : Heap} {A : List Item} {ws : List AVal} {F : List Nat} {j : Nat} (hj : j < A.length) (ho : Owns h (A.map Item.d) ws F) : ∃ P F1,ws[j]? = some (.agg [P,i64 A[j].w]) ∧ Own h (Ints.d A[j].row) P F1:=by
 have e : A.map Item.d = (A.take j).map Item.d ++ Item.d A[j] :: (A.drop (j + 1)).map Item.d:=by
  rw [← List.map_cons,← List.drop_eq_getElem_cons hj,← List.map_append,List.take_append_drop]
 rw [e] at ho
 obtain ⟨v,F1,h1,h2⟩:=Owns.at ho
 obtain ⟨P,rfl,h3⟩:=Item.open h2
 exact ⟨P,F1,by simpa [Nat.min_eq_left (Nat.le_of_lt hj)] using h1,h3⟩
theorem law_Where (hk : Okg pr) (bs : List Int) (hb : ∀ b ∈ bs,0 ≤ b ∧ b < 256) : ∃ h,call (cfp pr) 3 [.sl (bs.map u8)] [] = some (.ret (.bool true) h):=by
 have hp:=hk.toOkp
 suffices hw : wpFL (cfp pr) 3 [.sl (bs.map u8)] [] (fun r=>∃ h,r = .ret (.bool true) h) by
  obtain ⟨r,hr,h,rfl⟩:=wpFL_sound (hp.out _ rfl) hw
  exact ⟨h,hr⟩
 have S : Sepa [] []:=Sepa.nil []
 conv=>whnf
 rw [List.length_map]
 refine bsel_intro (fun g1=>?_) (fun g1=>?_)
 ·conv=>whnf
  exact ⟨_,rfl,_,rfl⟩
 obtain ⟨z,t,hz,hd⟩:=drawWhere hp bs hb (by simp at g1; omega)
 have c1:=iWhereOf_n hk z t hz.1
 have c2:=sWhereOf_n hp z t hz.1
 rw [where_eq] at c2
 have hparts:=@where_parts z t
 have hnone:=@iwhere_none z t
 have hneg : iwhereZ z t.neg = iwhereZ z ⟨t.kind,!t.no,t.l,t.r⟩:=rfl
 have c3:=iWhereOf_n hk z t.neg hz.1
 have hzr : ∀ x ∈ z,x.row.length ≤ big:=hz.1.2
 have hA : ∀ x ∈ (iwhereZ z t).1,x ∈ z:=fun x hx=>by
  unfold iwhereZ at hx
  split at hx
  ·exact (List.mem_filter.1 hx).1
  ·simp at hx
 have hAl : zsm (iwhereZ z t).1:=⟨by
  unfold iwhereZ
  split
  ·exact Nat.le_trans (List.length_filter_le _ _) hz.1.1
  ·simp,fun x hx=>hzr x (hA x hx)⟩
 have hC : zsm (iwhereZ z t.neg).1:=⟨by
  unfold iwhereZ
  split
  ·exact Nat.le_trans (List.length_filter_le _ _) hz.1.1
  ·simp,fun x hx=>by
  unfold iwhereZ at hx
  split at hx
  ·exact hzr x (List.mem_filter.1 hx).1
  ·simp at hx⟩
 have c4:=iZAdd_n hk.toOkc (iwhereZ z t).1 (iwhereZ z t.neg).1 hAl hC
 have c5:=iWhereOf_n hk (iwhereZ z t).1 t hAl
 have c6:=iZSame_r hp (iwhereZ z t).1 (iwhereZ z t).1 hAl
 have c7:=iZSame_r hp z z hz.1
 rw [same_refl] at c6 c7
 have c8:=fun (x : Item) (hx : x ∈ (iwhereZ z t).1)=>iTestOf_r hk t x.row (hzr x (hA x hx))
 have c9:=fun (x : Item) (hx : x ∈ (iwhereZ z t).1) (hok : zOk z = true)=>iZGet_r hp z x.row hz.1 (hzr x (hA x hx)) fun _=>ahead_ok x.row (zOk_rises hok)
 rcases hW : iwhereZ z t with ⟨A,ok⟩
 rw [hW] at hparts hnone c1 c2 hA hAl c4 c5 c6 c8 c9
 simp only at hparts hnone c1 c2 hA hAl c4 c5 c6 c8 c9
 have hT : ∀ h : Heap,snapL h [Items.enc z,t.enc] = some [Items.enc z,t.enc]:=fun h=>rfl
 have hT2 : ∀ h : Heap,snapL h [Items.enc z,t.neg.enc] = some [Items.enc z,t.neg.enc]:=fun h=>rfl
 cases ok with
 | false=>
  have:=hnone rfl
  subst this
  clear hparts hnone c3 c4 c5 c7 c8 c9 hneg hC hA hAl
  obtain ⟨t1,t2,⟨u1,u2,u3,u4⟩,⟨d1,d2,d3,d4⟩⟩:=t
  conv=>whnf
  refine ⟨_,hd _,?_⟩
  conv=>whnf
  intro k1 a1 hk1 hh1
  replace S:=S.alloc hk1 hh1
  conv=>whnf
  refine ⟨_,rfl,rfl,rfl,.inl ⟨_,S.row 0 rfl,rfl,?_⟩⟩
  conv=>whnf
  intro a2 hh_a2
  replace S:=S.set 0 rfl hh_a2
  dsimp only [List.set] at S
  conv=>whnf
  refine .inl ⟨_,S.row 0 rfl,rfl,?_⟩
  conv=>whnf
  refine callT S c1 rfl (hT _) fun vs q F S1=>?_
  obtain ⟨va,Fa,rfl,S2⟩:=Sepa.two_b S1
  clear S1 S
  conv=>whnf
  refine .inl ⟨_,S2.row 1 rfl,rfl,?_⟩
  conv=>whnf
  refine callT S2 c2 rfl (hT _) fun vs q2 F S1=>?_
  obtain ⟨vb,Fb,rfl,S3⟩:=Sepa.two_b S1
  clear S1
  have s1:=Items.ofDat (S3.get 0 rfl)
  have s2:=Items.ofDat (S3.get 1 rfl)
  have n1:=dat_nil (S3.get 1 rfl)
  conv=>whnf
  refine ⟨_,c6.here (snapL2 s2 s1) rfl rfl,?_⟩
  conv=>whnf
  rcases n1 with rfl | rfl | ⟨id,rfl⟩
  all_goals
   conv=>whnf
   exact ⟨_,rfl,_,rfl⟩
 | true=>
  obtain ⟨p1,p2,p3,p4,p5,p6⟩:=hparts rfl
  rcases hN : iwhereZ z t.neg with ⟨C,okc⟩
  rw [hN] at c3 c4 p3 p4 hC
  simp only at c3 c4 p3 p4 hC
  subst p3
  rw [p4] at c4
  rw [p5] at c5
  simp only at c4 c5
  clear hnone hparts hC hN hneg p4 p5
  have c8' : ∀ x ∈ A,Ret pr 9 [t.enc,.sl (x.row.map i64)] (.tup [.bool true,.bool true]):=fun x hx=>by
   have:=c8 x hx
   rw [(p6 x hx).1] at this
   exact this
  have c9' : ∀ x ∈ A,Ret pr 10 [Items.enc z,.sl (x.row.map i64)] (i64 x.w):=fun x hx=>by
   have:=c9 x hx p1
   rw [if_pos p1,(p6 x hx).2] at this
   exact this
  clear c8 c9 p6
  have hAlen : A.length ≤ 100:=(zOk_row p2).1
  obtain ⟨t1,t2,⟨u1,u2,u3,u4⟩,⟨d1,d2,d3,d4⟩⟩:=t
  cases t2
  all_goals
   conv=>whnf
   refine ⟨_,hd _,?_⟩
   conv=>whnf
   intro k1 a1 hk1 hh1
   replace S:=S.alloc hk1 hh1
   conv=>whnf
   refine ⟨_,rfl,rfl,rfl,.inl ⟨_,S.row 0 rfl,rfl,?_⟩⟩
   conv=>whnf
   intro a2 hh_a2
   replace S:=S.set 0 rfl hh_a2
   dsimp only [List.set] at S
   conv=>whnf
   refine .inl ⟨_,S.row 0 rfl,rfl,?_⟩
   conv=>whnf
   refine callT S c1 rfl (hT _) fun vs q F S1=>?_
   obtain ⟨va,Fa,rfl,S2⟩:=Sepa.two_b S1
   clear S1 S
   conv=>whnf
   refine .inl ⟨_,S2.row 1 rfl,rfl,?_⟩
   conv=>whnf
   refine callT S2 c2 rfl (hT _) fun vs q2 F S1=>?_
   obtain ⟨vb,Fb,rfl,S⟩:=Sepa.two_b S1
   clear S1
   conv=>whnf
   refine ⟨_,c6.here (snapL2 (Items.ofDat (S.get 1 rfl)) (Items.ofDat (S.get 0 rfl))) rfl rfl,?_⟩
   replace S:=S.drop 0
   dsimp only [List.eraseIdx] at S
   conv=>whnf
   refine .inl ⟨_,S.row 1 rfl,rfl,?_⟩
   conv=>whnf
   intro k2 a3 hk2 hh2
   replace S:=S.alloc hk2 hh2
   conv=>whnf
   refine ⟨_,rfl,rfl,rfl,.inl ⟨_,S.row 0 rfl,rfl,?_⟩⟩
   conv=>whnf
   intro a4 hh_a4
   replace S:=S.set 0 rfl hh_a4
   dsimp only [List.set] at S
   conv=>whnf
   refine .inl ⟨_,S.row 2 rfl,rfl,?_⟩
   conv=>whnf
   refine ⟨_,rfl,rfl,rfl,.inl ⟨_,S.row 0 rfl,rfl,?_⟩⟩
   conv=>whnf
   intro a5 hh_a5
   replace S:=S.set 0 rfl hh_a5
   dsimp only [List.set] at S
   conv=>whnf
   refine .inl ⟨_,S.row 0 rfl,rfl,?_⟩
   conv=>whnf
   refine callT S c3 rfl (hT2 _) fun vs q3 F S1=>?_
   obtain ⟨vc,Fc,rfl,S3⟩:=Sepa.two_b S1
   clear S1 S
   conv=>whnf
   refine callT S3 c4 rfl (snapL2 (Items.ofDat (S3.get 2 rfl)) (Items.ofDat (S3.get 0 rfl))) fun vs q4 F S1=>?_
   obtain ⟨vall,Fd,rfl,S⟩:=Sepa.two_b S1
   clear S1 S3
   conv=>whnf
   refine .inl ⟨_,S.row 4 rfl,rfl,?_⟩
   conv=>whnf
   refine callT S c5 rfl (snapL_cons (Items.ofDat (S.get 3 rfl)) rfl) fun vs q5 F S1=>?_
   obtain ⟨vag,Fe,rfl,S3⟩:=Sepa.two_b S1
   clear S1 S
   replace S3:=S3.pick [4,0,1,5] (by decide)
   simp only [pickL,List.getElem?_cons_zero,List.getElem?_cons_succ] at S3
   clear c1 c2 c3 c4 c5 hd hT hT2
   rcases Sepa.open S3 with ⟨hA0,hv,S⟩ | ⟨id,ws,Fs,rfl,rfl,S⟩
   ·have hA1 : A = []:=List.map_eq_nil_iff.1 hA0
    subst hA1
    rcases hv with rfl | rfl
    all_goals
     conv=>whnf
     replace S:=S.drop 2
     refine loopL (fun m tm hp=>∃ (j : Nat),j + m = 0 ∧ tm 16 = i64 (j : Nat) ∧ Sepa hp [.dat (Items.d []) vag Fe,.dat (Items.d z) vall Fd]) (fun m tm hq hfr hI=>?_) (0) ⟨0,by simp,rfl,S⟩
     obtain ⟨j,hj,e16,S2⟩:=hI
     have k3:=hfr 3 (by kernel_rfl)
     conv at k3=>rhs; whnf
     have k4:=hfr 4 (by kernel_rfl)
     conv at k4=>rhs; whnf
     have k5:=hfr 5 (by kernel_rfl)
     conv at k5=>rhs; whnf
     have k11:=hfr 11 (by kernel_rfl)
     conv at k11=>rhs; whnf
     have k12:=hfr 12 (by kernel_rfl)
     conv at k12=>rhs; whnf
     have k13:=hfr 13 (by kernel_rfl)
     conv at k13=>rhs; whnf
     have k14:=hfr 14 (by kernel_rfl)
     conv at k14=>rhs; whnf
     have k15:=hfr 15 (by kernel_rfl)
     conv at k15=>rhs; whnf
     refine ⟨[(3,_),(4,_),(5,_),(11,_),(12,_),(13,_),(14,_),(15,_),(16,_)],⟨k3,k4,k5,k11,k12,k13,k14,k15,e16,trivial⟩,?_⟩
     clear hfr k3 k4 k5 k11 k12 k13 k14 k15 e16
     replace S:=S2
     clear S2
     conv=>whnf
     have hj0 : j = 0:=by omega
     subst hj0
     conv=>whnf
     refine ⟨_,c7.here (snapL2 (Items.ofDat (S.get 1 rfl)) rfl) rfl rfl,?_⟩
     conv=>whnf
     refine ⟨_,c6.here (snapL2 (Items.ofDat (S.get 0 rfl)) rfl) rfl rfl,?_⟩
     conv=>whnf
     exact ⟨_,rfl,_,rfl⟩
   ·rw [List.length_map]
    clear S3
    conv=>whnf
    refine loopL (fun m tm hp=>∃ (j : Nat),j + m = A.length ∧ tm 16 = i64 (j : Nat) ∧ Sepa hp [.row id (.arr 2 ws),.dats (A.map Item.d) ws Fs,.dat (Items.d A) vag Fe,.dat (Items.d z) vall Fd,.row k1 (.box _)]) (fun m tm hq hfr hI=>?_) (A.length) ⟨0,by simp,rfl,S⟩
    obtain ⟨j,hj,e16,S2⟩:=hI
    have k3:=hfr 3 (by kernel_rfl)
    conv at k3=>rhs; whnf
    have k4:=hfr 4 (by kernel_rfl)
    conv at k4=>rhs; whnf
    have k5:=hfr 5 (by kernel_rfl)
    conv at k5=>rhs; whnf
    have k11:=hfr 11 (by kernel_rfl)
    conv at k11=>rhs; whnf
    have k12:=hfr 12 (by kernel_rfl)
    conv at k12=>rhs; whnf
    have k13:=hfr 13 (by kernel_rfl)
    conv at k13=>rhs; whnf
    have k14:=hfr 14 (by kernel_rfl)
    conv at k14=>rhs; whnf
    have k15:=hfr 15 (by kernel_rfl)
    conv at k15=>rhs; whnf
    refine ⟨[(3,_),(4,_),(5,_),(11,_),(12,_),(13,_),(14,_),(15,_),(16,_)],⟨k3,k4,k5,k11,k12,k13,k14,k15,e16,trivial⟩,?_⟩
    clear hfr k3 k4 k5 k11 k12 k13 k14 k15 e16
    replace S:=S2
    clear S2
    conv=>whnf
    refine bsel_intro (fun h3=>?_) (fun h3=>?_)
    ·have hjl : j < A.length:=by simpa using h3
     obtain ⟨P,F1,hge,hP⟩:=owns_get hjl (S.get 1 rfl)
     have hx:=List.getElem_mem hjl
     have e8:=c8' _ hx
     have e9:=c9' _ hx
     generalize A[j] = x at hge hP e8 e9
     have hge' : ws[0 + ((j : Nat) : Int).toNat]? = some (.agg [P,i64 x.w]):=by simpa using hge
     conv=>whnf
     refine .inl ⟨_,S.row 4 rfl,rfl,?_⟩
     conv=>whnf
     refine ⟨_,S.row 0 rfl,⟨by omega,by omega⟩,?_⟩
     conv=>whnf
     refine .inr ⟨_,_,_,S.row 0 rfl,hge',?_⟩
     conv=>whnf
     refine ⟨_,e8.hereT (snapL2 rfl (Ints.snap hP)) rfl rfl,?_⟩
     conv=>whnf
     refine ⟨_,S.row 0 rfl,⟨by omega,by omega⟩,?_⟩
     conv=>whnf
     refine .inr ⟨_,_,_,S.row 0 rfl,hge',?_⟩
     conv=>whnf
     refine ⟨_,e9.here (snapL2 rfl (Ints.snap hP)) rfl rfl,?_⟩
     conv=>whnf
     refine ⟨_,S.row 0 rfl,⟨by omega,by omega⟩,?_⟩
     conv=>whnf
     refine .inr ⟨_,_,_,S.row 0 rfl,hge',?_⟩
     conv=>whnf
     refine bsel_false (show (x.w != x.w) = false by simp) ?_
     conv=>whnf
     exact ⟨m - 1,by omega,j + 1,by omega,nat_step j (by omega),S⟩
    ·have hjl : ¬ j < A.length:=by simpa using h3
     conv=>whnf
     refine ⟨_,c7.here (snapL2 (Items.ofDat (S.get 3 rfl)) rfl) rfl rfl,?_⟩
     conv=>whnf
     have S4:=Sepa.close S (n:=A.length) (by simp)
     refine ⟨_,c6.here (snapL2 (Items.ofDat (S.get 2 rfl)) (Items.ofDat (S4.get 0 rfl))) rfl rfl,?_⟩
     conv=>whnf
     exact ⟨_,rfl,_,rfl⟩
end Go.Proofs.YtebciagembenjaaDoor

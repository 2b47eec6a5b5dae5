/- Items together, runs together: the reference's. -/
import Derived.Test.YtebciagembenjaaDoorGH32
import Derived.Test.YtebciagembenjaaDoorGH33
import Derived.Test.YtebciagembenjaaDoorGH21
import Derived.Test.YtebciagembenjaaDoorGH31
set_option linter.unusedVariables false
set_option linter.unusedSimpArgs false
/- What is reckoned of a row, what is asked of it: the program's. -/
set_option maxHeartbeats 4000000
namespace Go.Proofs.YtebciagembenjaaDoor
open Go Go.Am
set_option maxRecDepth 100000
structure Okg (pr : Prims) : Prop extends Okc pr where
 isNil : Ret pr 51 [.nili,errV] (.bool false)
 isErr : Ret pr 51 [errV,errV] (.bool true)
theorem call_prE {f : FuncId} {p : List AVal → Heap → Option ARes} (hp : prE f = some p) (args : List AVal) (h : Heap) : call (cfp prE) f args h = p args h:=by
 rw [call_eq]
 unfold callB
 have : (cfp prE).pr f = some p:=hp
 simp only [this]
theorem retE_of {α : Type} {f : α → AVal} {sz : Nat} {fn : FuncId} {args : List AVal} {xs : List α} {p : List AVal → Heap → Option ARes} (h2 : pr2 fn = some p) (hE : prE fn = some p) (h : RetG f sz pr2 fn args xs) : RetG f sz prE fn args xs:=by
 obtain ⟨v,h,F,h1,h3⟩:=h
 exact ⟨v,h,F,by rw [call_prE hE]; rw [call_pr2 h2] at h1; exact h1,h3⟩
theorem okgE : Okg prE where
 toOkp:=okE
 cloneI:=fun xs hl=>retE_of (p:=clonePr _) rfl rfl (CloneI2 xs hl)
 isNil:=ret_prim (p:=isPr) rfl rfl rfl (by simp [isPr,errV]; rfl) rfl
 isErr:=ret_prim (p:=isPr) rfl rfl rfl (by simp [isPr,errV]; rfl) rfl
variable {pr : Prims} (hp : Okp pr)
theorem colOf_r (hp : Okp pr) (a : Int) (r : List Int) (h0 : 0 ≤ a) (h1 : a < r.length) : Ret pr 83 [.agg [i64 a],.sl (r.map i64)] (.tup [i64 (at0 r a),.nili]):=by
 have hg:=at0_get h0 h1
 refine retgL hp rfl rfl ?_
 have S : Sepa [] []:=Sepa.nil []
 conv=>whnf
 intro k1 a1 hk1 hh1
 replace S:=S.alloc hk1 hh1
 conv=>whnf
 refine .inl ⟨_,S.row 0 rfl,rfl,?_⟩
 conv=>whnf
 refine ⟨_,hg,h0,rfl,?_⟩
 conv=>whnf
 exact ⟨_,rfl,_,_,rfl,rfl⟩
theorem numOf_r (hp : Okp pr) (n : Int) (r : List Int) : Ret pr 88 [.agg [i64 n],.sl (r.map i64)] (.tup [i64 n,.nili]):=by
 refine retgL hp rfl rfl ?_
 have S : Sepa [] []:=Sepa.nil []
 conv=>whnf
 intro k1 a1 hk1 hh1
 replace S:=S.alloc hk1 hh1
 conv=>whnf
 refine .inl ⟨_,S.row 0 rfl,rfl,?_⟩
 conv=>whnf
 exact ⟨_,rfl,_,_,rfl,rfl⟩
theorem sumOf_r (hp : Okp pr) (a b : Int) (r : List Int) (h0 : 0 ≤ a) (h1 : a < r.length) (g0 : 0 ≤ b) (g1 : b < r.length) : Ret pr 92 [.agg [i64 a,i64 b],.sl (r.map i64)]
  (if isCell (addW (at0 r a) (at0 r b)) then .tup [i64 (addW (at0 r a) (at0 r b)),.nili] else .tup [i64 0,errV]):=by
   have hg:=at0_get h0 h1
   have hg2:=at0_get g0 g1
   have hc:=isCell_r hp (addW (at0 r a) (at0 r b))
   have e : IntKind.i64.wrap (at0 r a + at0 r b) = addW (at0 r a) (at0 r b):=rfl
   refine retgL hp rfl (by first | rfl | (split <;> rfl)) ?_
   have S : Sepa [] []:=Sepa.nil []
   conv=>whnf
   intro k1 a1 hk1 hh1
   replace S:=S.alloc hk1 hh1
   conv=>whnf
   refine .inl ⟨_,S.row 0 rfl,rfl,?_⟩
   conv=>whnf
   refine ⟨_,hg,h0,rfl,?_⟩
   conv=>whnf
   refine .inl ⟨_,S.row 0 rfl,rfl,?_⟩
   conv=>whnf
   refine ⟨_,hg2,g0,rfl,?_⟩
   conv=>whnf
   refine ⟨_,hc _,?_⟩
   conv=>whnf
   refine bsel_intro (fun g3=>?_) (fun g3=>?_)
   ·rw [if_pos g3]
    conv=>whnf
    exact ⟨_,rfl,_,_,rfl,rfl⟩
   ·rw [if_neg (by rw [g3]; simp)]
    conv=>whnf
    exact ⟨_,rfl,_,_,rfl,rfl⟩
theorem rowOk_at {r : List Int} {i : Int} (h : rowOk r = true) (h0 : 0 ≤ i) (h1 : i < r.length) : isCell (at0 r i) = true:=by
 simp only [rowOk,Bool.and_eq_true] at h
 have hl : i.toNat < r.length:=by omega
 have : at0 r i = r[i.toNat]:=by simp [at0,hl]
 rw [this]
 exact List.all_eq_true.1 h.2.2 _ (List.getElem_mem hl)
theorem iCellOf_r (hk : Okg pr) (c : Cell) (r : List Int) (hl : r.length ≤ big) : Ret pr 25 [c.enc,.sl (r.map i64)] (.tup [i64 (cellOf c r).1,.bool (cellOf c r).2]):=by
 have hp:=hk.toOkp
 have h1:=iRowOk_r hp r hl
 have h2:=iCellOk_r hp c r.length
 have h3:=reckoningOf_r hp c
 have hi:=@cell_idx c r
 have hn:=hk.isNil
 have he:=hk.isErr
 have hres : cellOf c r = cellOf c r:=rfl
 conv at hres=>rhs; unfold cellOf
 generalize cellOf c r = res at hres ⊢
 obtain ⟨k,a,b,n⟩:=c
 simp only at hi
 refine retgL hp rfl rfl ?_
 have S : Sepa [] []:=Sepa.nil []
 conv=>whnf
 intro k1 a1 hk1 hh1
 replace S:=S.alloc hk1 hh1
 conv=>whnf
 refine ⟨_,h1 _,?_⟩
 conv=>whnf
 refine bsel_intro (fun g1=>?_) (fun g1=>?_)
 rotate_left
 ·conv=>whnf
  exact g_tupc (e:=(0,false)) (by rw [hres]; simp [g1])
 conv=>whnf
 refine .inl ⟨_,S.row 0 rfl,rfl,?_⟩
 conv=>whnf
 rw [List.length_map]
 refine ⟨_,h2 _,?_⟩
 conv=>whnf
 refine bsel_intro (fun g2=>?_) (fun g2=>?_)
 rotate_left
 ·conv=>whnf
  exact g_tupc (e:=(0,false)) (by rw [hres]; simp [g1,g2])
 obtain ⟨hia,hib⟩:=hi g2
 conv=>whnf
 refine .inl ⟨_,S.row 0 rfl,rfl,?_⟩
 conv=>whnf
 refine ⟨_,h3 _,?_⟩
 rcases kind3_cases k with rfl | rfl | rfl | ⟨e1,e2,e3⟩
 ·obtain ⟨hia1,hia2⟩:=hia (.inl rfl)
  have hc:=rowOk_at g1 hia1 hia2
  have hv : cellVal ⟨1,a,b,n⟩ r = at0 r a:=rfl
  conv=>whnf
  refine ⟨_,colOf_r hp a r hia1 hia2 _,?_⟩
  conv=>whnf
  refine ⟨_,hn _,?_⟩
  conv=>whnf
  exact g_tupc (e:=(at0 r a,true)) (by rw [hres]; simp [g1,g2,hv,hc])
 ·have hc : isCell n = true:=by simp [cellOk] at g2; exact g2.2.2
  have hv : cellVal ⟨2,a,b,n⟩ r = n:=rfl
  conv=>whnf
  refine ⟨_,numOf_r hp n r _,?_⟩
  conv=>whnf
  refine ⟨_,hn _,?_⟩
  conv=>whnf
  exact g_tupc (e:=(n,true)) (by rw [hres]; simp [g1,g2,hv,hc])
 ·obtain ⟨hia1,hia2⟩:=hia (.inr rfl)
  obtain ⟨hib1,hib2⟩:=hib rfl
  have hv : cellVal ⟨3,a,b,n⟩ r = addW (at0 r a) (at0 r b):=rfl
  have hs:=sumOf_r hp a b r hia1 hia2 hib1 hib2
  generalize addW (at0 r a) (at0 r b) = v at hs hv
  cases hc : isCell v with
  | true=>
   rw [if_pos hc] at hs
   conv=>whnf
   refine ⟨_,hs _,?_⟩
   conv=>whnf
   refine ⟨_,hn _,?_⟩
   conv=>whnf
   exact g_tupc (e:=(v,true)) (by rw [hres]; simp [g1,g2,hv,hc])
  | false=>
   rw [if_neg (by rw [hc]; simp)] at hs
   conv=>whnf
   refine ⟨_,hs _,?_⟩
   conv=>whnf
   refine ⟨_,he _,?_⟩
   conv=>whnf
   exact g_tupc (e:=(0,false)) (by rw [hres]; simp [g1,g2,hv,hc])
 ·exfalso
  simp [cellOk] at g2
  simp_all
theorem iTestOf_r (hk : Okg pr) (t : Test) (r : List Int) (hl : r.length ≤ big) : Ret pr 9 [t.enc,.sl (r.map i64)] (.tup [.bool (testOf t r).1,.bool (testOf t r).2]):=by
 have hp:=hk.toOkp
 have h2:=iTestOk_r hp t r.length
 have h3:=iCellOf_r hk t.l r hl
 have h4:=iCellOf_r hk t.r r hl
 have hrow : (cellOf t.l r).2 = true → rowOk r = true:=fun h=>by
  unfold cellOf at h
  split at h
  ·rename_i hh; simp at hh; exact hh.1
  ·simp at h
 have hv : testOf t r = testOf t r:=rfl
 conv at hv=>rhs; unfold testOf
 generalize testOf t r = res at hv ⊢
 generalize cellOf t.l r = u at h3 hv hrow
 generalize cellOf t.r r = w at h4 hv
 obtain ⟨k,no,⟨lk,la,lb,ln⟩,⟨rk,ra,rb,rn⟩⟩:=t
 obtain ⟨u1,u2⟩:=u
 obtain ⟨w1,w2⟩:=w
 simp only at h3 h4 hv hrow
 refine retgL hp rfl rfl ?_
 have S : Sepa [] []:=Sepa.nil []
 conv=>whnf
 intro k1 a1 hk1 hh1
 replace S:=S.alloc hk1 hh1
 conv=>whnf
 refine .inl ⟨_,S.row 0 rfl,rfl,?_⟩
 conv=>whnf
 rw [List.length_map]
 refine ⟨_,h2 _,?_⟩
 conv=>whnf
 refine bsel_intro (fun g2=>?_) (fun g2=>?_)
 ·conv=>whnf
  refine .inl ⟨_,S.row 0 rfl,rfl,?_⟩
  conv=>whnf
  refine ⟨_,h3 _,?_⟩
  iterate 14
   all_goals (try (conv=>whnf))
   all_goals (first | (intro ka_ ha_ hk_ hh_; replace S:=S.alloc hk_ hh_) | (refine .inl ⟨_,S.row 0 rfl,rfl,?_⟩) | (refine ⟨_,rfl,rfl,rfl,.inl ⟨_,S.row 0 rfl,rfl,?_⟩⟩; (conv=>whnf); intro ha_ hh_; replace S:=S.set 0 rfl hh_; dsimp only [List.set] at S) | (refine bsel_intro (fun hb=>?_) (fun hb=>?_)) | (refine ⟨_,h4 _,?_⟩) | skip)
  all_goals (try (conv=>whnf))
  all_goals exact g_tupb (by rw [hv]; simp_all)
 ·conv=>whnf
  exact g_tupb (by rw [hv]; simp [g2])
end Go.Proofs.YtebciagembenjaaDoor
/- Selections, items together, weights looked up: the program's. -/
set_option maxHeartbeats 4000000
set_option pp.deepTerms false
set_option pp.deepTerms.threshold 12
namespace Go.Proofs.YtebciagembenjaaDoor
open Go Go.Am
variable {pr : Prims} (hp : Okp pr)
set_option maxRecDepth 100000
theorem snap_tupS {h : Heap} {n : Nat} {v : AVal} {ws : List AVal} (hs : snapF h n v = some (.tup ws)) (hw : ws.all AVal.isScalar = true) : v = .tup ws:=by
 cases n with
 | zero=>cases hs
 | succ n=>
  cases v <;> (try simp only [snapF] at hs)
  case map id=>
   split at hs
   ·split at hs
    ·cases hs
    ·cases hs
   ·cases hs
  case own id st len=>
   split at hs
   ·split at hs
    ·simp only [Option.map_eq_some_iff] at hs; obtain ⟨_,_,e⟩:=hs; cases e
    ·cases hs
   ·cases hs
  case ptr id i off=>
   split at hs
   ·split at hs
    ·simp only [Option.map_eq_some_iff] at hs; obtain ⟨_,_,e⟩:=hs; cases e
    ·cases hs
   ·simp only [Option.map_eq_some_iff] at hs; obtain ⟨_,_,e⟩:=hs; cases e
   ·cases hs
  case func fn a b=>
   split at hs
   ·cases hs
   ·cases hs
  case iface t v=>simp only [Option.map_eq_some_iff] at hs; obtain ⟨_,_,e⟩:=hs; cases e
  case agg cs=>simp only [Option.map_eq_some_iff] at hs; obtain ⟨_,_,e⟩:=hs; cases e
  case tup vs=>
   simp only [Option.map_eq_some_iff] at hs
   obtain ⟨us,hu,e⟩:=hs
   cases e
   have key : ∀ (l r : List AVal),mapO (snapF h n) l = some r → r.all AVal.isScalar = true → l = r:=by
    intro l
    induction l with
    | nil=>intro r hr _; cases hr; rfl
    | cons x xs ih=>
     intro r hr hsc
     simp only [mapO] at hr
     split at hr
     ·rename_i y ys e1 e2
      cases hr
      simp only [List.all_cons,Bool.and_eq_true] at hsc
      rw [snap_scalar e1 hsc.1,ih _ e2 hsc.2]
     ·cases hr
   rw [key vs ws hu hw]
  all_goals (cases hs)
theorem Ret.hereT {pr : Prims} {f : FuncId} {args args' : List AVal} {ws : List AVal} {h : Heap} (hr : Ret pr f args' (.tup ws)) (hs : snapL h args = Option.some args') (hi : snapL [] args' = Option.some args') (hres : ws.all AVal.isScalar = true) (hM : modes f = Am.Mode.P:=by rfl) :
  callM (cfp pr) (call (cfp pr)) f args h = Option.some (.ret (.tup ws) h):=by
   cases hn : snapL [] args with
   | none=>
    obtain ⟨v,h1,hc,hv⟩:=hr.some hi hM
    obtain rfl:=snap_tupS hv hres
    have hm : (cfp pr).M f = .P:=hM
    have hsc : (AVal.tup ws).scal = true:=hres
    unfold callM
    simp only [hm,hn,hs,hc,hsc,if_true]
   | some as2=>
    have:=snapL_any h hn
    rw [hs] at this
    cases this
    exact hr.snapped hn hi hM h
theorem accI_snap {h : Heap} {L : List Chunk} {z : List Item} {v : AVal} (S : Sepa h (.acc Item.enc 2 z v :: L)) : Am.snap h v = some (Items.enc z):=by
 have h0 : AccP Item.enc 2 h z v:=S.get 0 rfl
 rcases h0 with ⟨rfl,rfl⟩ | ⟨id,rfl,h1⟩
 ·rfl
 ·have:=snap_ownk (es:=z.map Item.enc) h1 (fun x hx=>by obtain ⟨y,_,rfl⟩:=List.mem_map.1 hx; rfl)
  rw [List.length_map] at this
  exact this
theorem isnoc_filter (P : Item → Bool) {z : List Item} {j : Nat} (h : j < z.length) : (z.take (j + 1)).filter P = if P z[j] then (z.take j).filter P ++ [z[j]] else (z.take j).filter P:=by
 rw [take_snoc h,List.filter_append]
 split <;> simp_all
theorem isnoc_all (Q : Item → Bool) {z : List Item} {j : Nat} (h : j < z.length) : (z.take (j + 1)).all Q = ((z.take j).all Q && Q z[j]):=by
 rw [take_snoc h,List.all_append]
 simp
theorem i_bad {Q : Item → Bool} {z : List Item} {j : Nat} (h : j < z.length) (hb : Q z[j] = false) : z.all Q = false:=by
 rw [List.all_eq_false]
 exact ⟨_,List.getElem_mem h,by rw [hb]; simp⟩
theorem iN (h : Heap) : Owns h [Items.d [],.b false] [.nil,.bool false] ([] ++ []) ∧ (([] : List Nat) ++ []).Nodup:=⟨Owns2 (OwnNil 2) (OwnB false),by simp⟩
def iwhereZ (z : List Item) (t : Test) : List Item × Bool:=if zOk z && z.all (fun x=>(testOf t x.row).2) then (z.filter (fun x=>(testOf t x.row).1),true) else ([],false)
theorem iWhereOf_n (hk : Okg pr) (z : List Item) (t : Test) (hz : zsm z) : RetT pr 5 [Items.enc z,t.enc] [Items.d (iwhereZ z t).1,.b (iwhereZ z t).2]:=by
 have hp:=hk.toOkp
 have h1:=iZOk_r hp z hz
 have h2:=fun (x : Item) (hx : x ∈ z)=>iTestOf_r hk t x.row (hz.2 x hx)
 have hcp : zOk z = true → RetD pr 15 [Items.enc (z.filter (fun x=>(testOf t x.row).1))] (Items.d (z.filter (fun x=>(testOf t x.row).1))):=fun h=>by
  obtain ⟨g1,g2⟩:=zOk_row h
  refine iCopyItems_n hk.toOkc _ ⟨Nat.le_trans (List.length_filter_le _ _) hz.1,fun x hx=>by have:=g2 x (List.mem_filter.1 hx).1; omega⟩
 have hres : iwhereZ z t = iwhereZ z t:=rfl
 conv at hres=>rhs; unfold iwhereZ
 generalize iwhereZ z t = res at hres ⊢
 have hl:=hz.1
 refine retTL_of hp rfl ?_
 have S : Sepa [] []:=Sepa.nil []
 conv=>whnf
 intro k1 a1 hk1 hh1
 replace S:=S.alloc hk1 hh1
 conv=>whnf
 refine ⟨_,h1 _,?_⟩
 conv=>whnf
 refine bsel_intro (fun g1=>?_) (fun g1=>?_)
 rotate_left
 ·have hr2 : res = ([],false):=by rw [hres,if_neg]; simp [g1]
  subst hr2
  conv=>whnf
  exact ⟨_,rfl,_,_,_,rfl,iN _⟩
 replace hcp:=hcp g1
 rw [g1,Bool.true_and] at hres
 conv=>whnf
 replace S:=Sepa.accNil Item.enc 2 S
 refine loopL (fun m tm hp=>∃ (j : Nat) (D : AVal),j + m = z.length ∧ tm 6 = D ∧ tm 16 = i64 (j : Nat) ∧ Sepa hp [.acc Item.enc 2 ((z.take j).filter fun x=>(testOf t x.row).1) D,.row k1 (.box t.enc)] ∧ ((z.take j).all (fun x=>(testOf t x.row).2) = true)) (fun m tm hq hfr hI=>?_) (z.length) ⟨0,.nil,by simp,rfl,rfl,S,(rfl)⟩
 obtain ⟨j,D,hj,e6,e16,S2,hall⟩:=hI
 have k3:=hfr 3 (by kernel_rfl)
 conv at k3=>rhs; whnf
 have k14:=hfr 14 (by kernel_rfl)
 conv at k14=>rhs; whnf
 have k15:=hfr 15 (by kernel_rfl)
 conv at k15=>rhs; whnf
 refine ⟨[(3,_),(14,_),(15,_),(6,_),(16,_)],⟨k3,k14,k15,e6,e16,trivial⟩,?_⟩
 clear hfr k3 k14 k15 e6 e16
 replace S:=S2
 clear S2
 conv=>whnf
 have hjb : j < 4611686018427387904:=by simp [big] at hl; omega
 refine bsel_intro (fun h3=>?_) (fun h3=>?_)
 ·have h1:=h3
  have hjl : j < z.length:=by simpa using h1
  have hge : (z.map Item.enc)[((j : Nat) : Int).toNat]? = some (Item.enc z[j]):=by rw [Int.toNat_natCast]; simp [hjl]
  have ht:=h2 _ (List.getElem_mem hjl)
  have hst:=isnoc_filter (fun x=>(testOf t x.row).1) hjl
  have hst2:=isnoc_all (fun x=>(testOf t x.row).2) hjl
  have hbad:=i_bad (Q:=fun x=>(testOf t x.row).2) hjl
  have hfl : ((z.take j).filter fun x=>(testOf t x.row).1).length ≤ z.length:=Nat.le_trans (List.length_filter_le _ _) (by simp; omega)
  generalize z[j] = x at hge ht hst hst2 hbad
  obtain ⟨row,w⟩:=x
  simp only at ht hst hst2 hbad
  rw [hall,Bool.true_and] at hst2
  rcases hab : testOf t row with ⟨a,b⟩
  rw [hab] at ht hst hst2 hbad
  simp only at ht hst hst2 hbad
  conv=>whnf
  refine ⟨_,hge,by omega,rfl,?_⟩
  conv=>whnf
  intro k2 a2 hk2 hh2
  replace S:=S.alloc hk2 hh2
  conv=>whnf
  refine ⟨_,rfl,rfl,rfl,.inl ⟨_,S.row 0 rfl,rfl,?_⟩⟩
  conv=>whnf
  intro a3 hh_a3
  replace S:=S.set 0 rfl hh_a3
  dsimp only [List.set] at S
  conv=>whnf
  refine .inl ⟨_,S.row 2 rfl,rfl,?_⟩
  conv=>whnf
  refine .inl ⟨_,S.row 0 rfl,rfl,?_⟩
  conv=>whnf
  refine ⟨_,ht _,?_⟩
  cases b with
  | false=>
   have hr2 : res = ([],false):=by rw [hres,hbad rfl]; rfl
   subst hr2
   conv=>whnf
   refine bsel_intro (fun g3=>?_) (fun g3=>?_)
   all_goals
    conv=>whnf
    exact ⟨_,rfl,_,_,_,rfl,iN _⟩
  | true=>
   cases a with
   | false=>
    rw [if_neg (by simp)] at hst
    conv=>whnf
    exact ⟨m - 1,by omega,j + 1,D,by omega,rfl,nat_step j hjb,by rw [hst]; exact S.drop 0,hst2⟩
   | true=>
    rw [if_pos rfl] at hst
    conv=>whnf
    refine .inl ⟨_,S.row 0 rfl,rfl,?_⟩
    conv=>whnf
    intro kv_ hv_ hkv_ hhv_
    replace S:=S.alloc hkv_ hhv_
    conv=>whnf
    refine ⟨trivial,?_⟩
    conv=>whnf
    refine ⟨[_],elems_row1 (S.row 0 rfl),elem_agg rfl rfl,?_⟩
    replace S:=S.drop 0
    dsimp only [List.eraseIdx] at S
    replace S:=S.drop 0
    dsimp only [List.eraseIdx] at S
    refine appAcc (f:=Item.enc) (x:=⟨row,w⟩) S (by simp [sizeLim,big] at *; omega) fun k4 h4 S2 _=>?_
    conv=>whnf
    exact ⟨m - 1,by omega,j + 1,_,by omega,rfl,nat_step j hjb,by rw [hst]; exact S2,hst2⟩
 ·have h1:=h3
  have hjl : j = z.length:=by
   have : ¬ j < z.length:=by simpa using h1
   omega
  subst hjl
  rw [List.take_length] at S hall
  rw [hall,if_pos rfl] at hres
  subst hres
  conv=>whnf
  refine callD S hcp rfl (snapL1 (accI_snap S)) fun A q1 F1 o1 S1=>?_
  conv=>whnf
  exact ⟨_,rfl,_,_,_,rfl,Owns2 o1 (OwnB true),by rw [List.append_nil]; exact (S1.get' 0 _ rfl).2⟩
def iaddZ (a b : List Item) : List Item × Bool:=if zOk a && zOk b then toldZ (mergeZ a b) else ([],false)
theorem iZAdd_n (hk : Okc pr) (a b : List Item) (ha : zsm a) (hb : zsm b) : RetT pr 8 [Items.enc a,Items.enc b] [Items.d (iaddZ a b).1,.b (iaddZ a b).2]:=by
 have hp:=hk.toOkp
 have h1:=iZOk_r hp a ha
 have h2:=iZOk_r hp b hb
 have h3:=together_r hp a b ha hb
 have h4 : zOk a = true → zOk b = true → RetT pr 22 [.sl ((mergeZ a b).map Item.enc)] [Items.d (toldZ (mergeZ a b)).1,.b (toldZ (mergeZ a b)).2]:=fun ga gb=>told_n hk _ (mergeZ_zsm ha hb (by have:=(zOk_row ga).1; have:=(zOk_row gb).1; simp [big]; omega))
 have hres : iaddZ a b = iaddZ a b:=rfl
 conv at hres=>rhs; unfold iaddZ
 generalize iaddZ a b = res at hres ⊢
 refine retTL_of hp rfl ?_
 have S : Sepa [] []:=Sepa.nil []
 conv=>whnf
 refine ⟨_,h1 _,?_⟩
 conv=>whnf
 refine bsel_intro (fun g1=>?_) (fun g1=>?_)
 rotate_left
 ·have hr2 : res = ([],false):=by rw [hres,if_neg]; simp [g1]
  subst hr2
  conv=>whnf
  exact ⟨_,rfl,_,_,_,rfl,iN _⟩
 conv=>whnf
 refine ⟨_,h2 _,?_⟩
 conv=>whnf
 refine bsel_intro (fun g2=>?_) (fun g2=>?_)
 rotate_left
 ·have hr2 : res = ([],false):=by rw [hres,if_neg]; simp [g2]
  subst hr2
  conv=>whnf
  exact ⟨_,rfl,_,_,_,rfl,iN _⟩
 rw [g1,g2,Bool.true_and,if_pos rfl] at hres
 subst hres
 replace h4:=h4 g1 g2
 generalize toldZ (mergeZ a b) = q at h4 ⊢
 obtain ⟨tz,tb⟩:=q
 cases tb
 all_goals
  conv=>whnf
  refine ⟨_,h3 _,?_⟩
  conv=>whnf
  refine callT S h4 rfl rfl fun vs q F1 S1=>?_
  obtain ⟨v1,F2,rfl,S2⟩:=Sepa.two_b S1
  conv=>whnf
  exact ⟨_,rfl,_,_,_,rfl,Owns2 (S2.get 0 rfl) (OwnB _),by rw [List.append_nil]; exact (S2.get' 0 _ rfl).2⟩
def getF : AVal:=.func (.func 27) [] []
theorem getF_r (hp : Okp pr) (x : Item) (r : List Int) (hx : x.row.length ≤ big) (hr : r.length ≤ big) : Ret pr 27 [x.enc,.sl (r.map i64)] (i64 (cmpL x.row r)):=by
 have h1:=compare_r hp x.row r hx hr
 obtain ⟨row,w⟩:=x
 refine retgL hp rfl rfl ?_
 have S : Sepa [] []:=Sepa.nil []
 conv=>whnf
 intro k1 a1 hk1 hh1
 replace S:=S.alloc hk1 hh1
 conv=>whnf
 refine .inl ⟨_,S.row 0 rfl,rfl,?_⟩
 conv=>whnf
 refine ⟨_,h1 _,?_⟩
 conv=>whnf
 exact ⟨_,rfl,_,_,rfl,rfl⟩
theorem half_add (lo hi : Nat) (h : lo ≤ 1000000000) (h2 : hi ≤ 1000000000) : IntKind.i64.wrap ((IntKind.u64.wrap (IntKind.i64.wrap ((lo : Int) + hi))).fdiv (2 ^ min (1 : Int).toNat IntKind.u64.bits)) = (((lo + hi) / 2 : Nat) : Int):=by
 have e1 : IntKind.i64.wrap ((lo : Int) + hi) = ((lo + hi : Nat) : Int):=by rw [IntKind.wrap_i64]; omega
 have e2 : IntKind.u64.wrap ((lo + hi : Nat) : Int) = ((lo + hi : Nat) : Int):=by
  show ((lo + hi : Nat) : Int) % 18446744073709551616 = _
  omega
 rw [e1,e2]
 have e3 : ((lo + hi : Nat) : Int).fdiv (2 ^ min (1 : Int).toNat IntKind.u64.bits) = ((lo + hi : Nat) : Int) / 2:=by
  show ((lo + hi : Nat) : Int).fdiv 2 = _
  exact Int.fdiv_eq_ediv_of_nonneg _ (by omega)
 rw [e3,IntKind.wrap_i64]
 omega
def hit (r : List Int) : Option Item → Bool
 | some x=>cmpL x.row r == 0
 | none=>false
theorem search_r (hp : Okp pr) (z : List Item) (r : List Int) (hz : zsm z) (hr : r.length ≤ big) (n : Nat) (hn : n ≤ z.length) (hA : ∀ i (h : i < z.length),i < n → cmpL z[i].row r < 0) (hB : ∀ i (h : i < z.length),n ≤ i → ¬ cmpL z[i].row r < 0) :
  Ret pr 26 [Items.enc z,.sl (r.map i64),getF] (.tup [i64 n,.bool (hit r z[n]?)]):=by
   have h1:=fun (x : Item) (hx : x ∈ z)=>getF_r hp x r (hz.2 x hx) hr
   have hl:=hz.1
   refine retgL hp rfl rfl ?_
   have S : Sepa [] []:=Sepa.nil []
   conv=>whnf
   rw [List.length_map]
   refine loopL (fun m tm hp=>∃ (j : Nat) (lo : Nat) (hi : Nat),j + m = z.length ∧ tm 9 = i64 (lo : Nat) ∧ tm 10 = i64 (hi : Nat) ∧ (lo ≤ n ∧ n ≤ hi ∧ hi ≤ z.length ∧ (hi - lo) + j ≤ z.length)) (fun m tm hq hfr hI=>?_) (z.length) ⟨0,0,z.length,by simp,rfl,rfl,(⟨by omega,by omega,by omega,by omega⟩)⟩
   obtain ⟨j,lo,hi,hj,e9,e10,hb⟩:=hI
   have k0:=hfr 0 (by kernel_rfl)
   conv at k0=>rhs; whnf
   have k1:=hfr 1 (by kernel_rfl)
   conv at k1=>rhs; whnf
   have k2:=hfr 2 (by kernel_rfl)
   conv at k2=>rhs; whnf
   have k8:=hfr 8 (by kernel_rfl)
   conv at k8=>rhs; whnf
   refine ⟨[(0,_),(1,_),(2,_),(8,_),(9,_),(10,_)],⟨k0,k1,k2,k8,e9,e10,trivial⟩,?_⟩
   clear hfr k0 k1 k2 k8 e9 e10
   have S : Sepa hq []:=Sepa.nil hq
   conv=>whnf
   obtain ⟨b1,b2,b3,b4⟩:=hb
   refine bsel_intro (fun g1=>?_) (fun g1=>?_)
   ·have hlt : lo < hi:=by simpa using g1
    have hh:=half_add lo hi (by simp [big] at hl; omega) (by simp [big] at hl; omega)
    have hml : (lo + hi) / 2 < z.length:=by omega
    have hge : (z.map Item.enc)[(((lo + hi) / 2 : Nat) : Int).toNat]? = some (Item.enc z[(lo + hi) / 2]):=by rw [Int.toNat_natCast]; simp [hml]
    have hm1 : lo ≤ (lo + hi) / 2 ∧ (lo + hi) / 2 < hi:=by omega
    have ha:=hA _ hml
    have hb:=hB _ hml
    have h2:=h1 _ (List.getElem_mem hml)
    generalize (lo + hi) / 2 = mid at hh hml hge hm1 ha hb h2
    generalize z[mid] = x at hge ha hb h2
    obtain ⟨row,w⟩:=x
    conv=>whnf
    rw [hh]
    refine ⟨_,hge,by omega,rfl,?_⟩
    conv=>whnf
    refine ⟨_,h2 _,?_⟩
    conv=>whnf
    refine bsel_intro (fun g2=>?_) (fun g2=>?_)
    ·have g2 : cmpL row r < 0:=by simpa using g2
     have hmn : mid < n:=by
      by_cases h : mid < n
      ·exact h
      ·exact absurd g2 (hb (by omega))
     conv=>whnf
     exact ⟨m - 1,by omega,j + 1,mid + 1,hi,by omega,nat_step mid (by simp [big] at hl; omega),rfl,by omega,by omega,by omega,by omega⟩
    ·have g2 : ¬ cmpL row r < 0:=by simpa using g2
     have hmn : n ≤ mid:=by
      by_cases h : mid < n
      ·exact absurd (ha h) g2
      ·omega
     conv=>whnf
     exact ⟨m - 1,by omega,j + 1,lo,mid,by omega,rfl,rfl,by omega,by omega,by omega,by omega⟩
   ·have hlt : ¬ lo < hi:=by simpa using g1
    have hln : lo = n:=by omega
    subst hln
    cases hz0 : z[lo]? with
    | none=>
     have hle : z.length ≤ lo:=by simpa using hz0
     conv=>whnf
     refine bsel_false (by simp; omega) ?_
     conv=>whnf
     exact ⟨_,rfl,_,_,rfl,rfl⟩
    | some x=>
     have hlt2 : lo < z.length:=(List.getElem?_eq_some_iff.1 hz0).1
     have hge : (z.map Item.enc)[((lo : Nat) : Int).toNat]? = some (Item.enc x):=by rw [Int.toNat_natCast,List.getElem?_map,hz0]; rfl
     have h2:=h1 x (List.mem_of_getElem? hz0)
     obtain ⟨row,w⟩:=x
     simp only at h2
     conv=>whnf
     refine bsel_true (by simp; omega) ?_
     conv=>whnf
     refine ⟨_,hge,by omega,rfl,?_⟩
     conv=>whnf
     refine ⟨_,h2 _,?_⟩
     conv=>whnf
     refine bsel_intro (fun g3=>?_) (fun g3=>?_)
     ·conv=>whnf
      exact g_tup (by rw [show hit r (some ⟨row,w⟩) = true from g3]; rfl) rfl
     ·conv=>whnf
      exact g_tup (by rw [show hit r (some ⟨row,w⟩) = false from g3]; rfl) rfl
def hitW (r : List Int) : Option Item → Int
 | some x=>if cmpL x.row r == 0 then x.w else 0
 | none=>0
def ahead (z : List Item) (r : List Int) : Nat:=(z.takeWhile fun x=>rowLess x.row r).length
theorem iZGet_r (hp : Okp pr) (z : List Item) (r : List Int) (hz : zsm z) (hr : r.length ≤ big) (hs : zOk z = true → (∀ i (h : i < z.length),i < ahead z r → cmpL z[i].row r < 0) ∧ ∀ i (h : i < z.length),ahead z r ≤ i → ¬ cmpL z[i].row r < 0) :
  Ret pr 10 [Items.enc z,.sl (r.map i64)] (i64 (if zOk z then (hitW r z[ahead z r]?) else 0)):=by
   have h1:=iZOk_r hp z hz
   have hle : ahead z r ≤ z.length:=(List.takeWhile_sublist _).length_le
   have h2 : zOk z = true → _:=fun h=>search_r hp z r hz hr (ahead z r) hle (hs h).1 (hs h).2
   refine retgL hp rfl rfl ?_
   have S : Sepa [] []:=Sepa.nil []
   conv=>whnf
   refine ⟨_,h1 _,?_⟩
   conv=>whnf
   refine bsel_intro (fun g1=>?_) (fun g1=>?_)
   rotate_left
   ·rw [g1]
    conv=>whnf
    exact ⟨_,rfl,_,_,rfl,rfl⟩
   replace h2:=h2 g1
   rw [if_pos g1]
   cases hz0 : z[ahead z r]? with
   | none=>
    rw [hz0] at h2
    conv=>whnf
    refine ⟨_,h2 _,?_⟩
    conv=>whnf
    exact ⟨_,rfl,_,_,rfl,rfl⟩
   | some x=>
    have hge : (z.map Item.enc)[((ahead z r : Nat) : Int).toNat]? = some (Item.enc x):=by rw [Int.toNat_natCast,List.getElem?_map,hz0]; rfl
    rw [hz0] at h2
    obtain ⟨row,w⟩:=x
    unfold hit at h2
    unfold hitW
    simp only at h2 ⊢
    conv=>whnf
    refine ⟨_,h2 _,?_⟩
    conv=>whnf
    refine bsel_intro (fun g2=>?_) (fun g2=>?_)
    ·rw [if_pos g2]
     conv=>whnf
     refine ⟨_,hge,by omega,rfl,?_⟩
     conv=>whnf
     exact ⟨_,rfl,_,_,rfl,rfl⟩
    ·rw [if_neg (by rw [g2]; simp)]
     conv=>whnf
     exact ⟨_,rfl,_,_,rfl,rfl⟩
end Go.Proofs.YtebciagembenjaaDoor
/- Items together, runs together: the reference's. -/
set_option maxHeartbeats 4000000
namespace Go.Proofs.YtebciagembenjaaDoor
open Go Go.Am
variable {pr : Prims} (hp : Okp pr)
set_option maxRecDepth 100000
theorem snap_ints (h : Heap) (xs : List Int) : Am.snap h (.sl (xs.map i64)) = some (.sl (xs.map i64)):=rfl
end Go.Proofs.YtebciagembenjaaDoor

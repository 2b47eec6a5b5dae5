/- Draws: rows, items, cells, tests. -/
import Derived.Test.YtebciagembenjaaDoorGH33
import Derived.Test.YtebciagembenjaaDoorGH34
import Derived.Test.YtebciagembenjaaDoorGH32
set_option linter.unusedVariables false
set_option linter.unusedSimpArgs false
/- What is asked of items, what is reckoned of them, together, once: the reference's. -/
set_option maxHeartbeats 4000000
namespace Go.Proofs.YtebciagembenjaaDoor
open Go Go.Am
variable {pr : Prims} (hp : Okp pr)
set_option maxRecDepth 100000
def optZ : Option (List Item) → List Item × Bool
 | some z=>(z,true)
 | none=>([],false)
theorem finZ {h : Heap} {L : List Chunk} {z : List Item} {v : AVal} {F : List Nat} (S : Sepa h (.acd 2 (z.map Item.d) v F :: L)) (b : Bool) : Owns h [Items.d z,.b b] [v,.bool b] (F ++ []) ∧ (F ++ []).Nodup:=
 ⟨Owns2 ((Sepa.acdDat S).get 0 rfl) (OwnB b),by rw [List.append_nil]; exact (S.get' 0 _ rfl).2⟩
theorem finN (h : Heap) : Owns h [Items.d [],.b false] [.nil,.bool false] ([] ++ []) ∧ (([] : List Nat) ++ []).Nodup:=⟨Owns2 (OwnNil 2) (OwnB false),by simp⟩
theorem filt_step (P : Item → Bool) {z : List Item} {j : Nat} (h : j < z.length) : (z.take (j + 1)).filter P = if P z[j] then (z.take j).filter P ++ [z[j]] else (z.take j).filter P:=by
 rw [take_snoc h,List.filter_append]
 split <;> simp_all
theorem all_step (Q : Item → Bool) {z : List Item} {j : Nat} (h : j < z.length) : (z.take (j + 1)).all Q = ((z.take j).all Q && Q z[j]):=by
 rw [take_snoc h,List.all_append]
 simp
theorem all_bad {Q : Item → Bool} {z : List Item} {j : Nat} (h : j < z.length) (hb : Q z[j] = false) : z.all Q = false:=by
 rw [List.all_eq_false]
 exact ⟨_,List.getElem_mem h,by rw [hb]; simp⟩
theorem addZ_snoc (a b : List Item) (x : Item) : addZ a (b ++ [x]) = putZ (addZ a b) x.row x.w:=by simp [addZ,List.foldl_append]
theorem addZ_le {b : List Item} (hb : zsm b) : (addZ [] b).length ≤ b.length ∧ ∀ x ∈ addZ [] b,x.row.length ≤ big:=by
 have:=addZ_zsm (a:=[]) (b:=b) (by simp) hb.2
 simpa using this
theorem filt_zsm {z : List Item} (P : Item → Bool) (j : Nat) (hz : zsm z) : zsm ((z.take j).filter P):=
 ⟨Nat.le_trans (List.length_filter_le _ _) (Nat.le_trans (List.length_take_le' _ _) hz.1),fun x hx=>hz.2 x (List.mem_of_mem_take (List.mem_filter.1 hx).1)⟩
def whereZ (z : List Item) (t : Test) : Option (List Item):=if zOk z && z.all (fun x=>(testOf t x.row).2) then some (addZ [] (z.filter fun x=>(testOf t x.row).1)) else none
theorem sWhereOf_n (hp : Okp pr) (z : List Item) (t : Test) (hz : zsm z) : RetT pr 6 [Items.enc z,t.enc] [Items.d (optZ (whereZ z t)).1,.b (optZ (whereZ z t)).2]:=by
 have h1:=sZOk_r hp z hz
 have h2:=fun (x : Item) (hx : x ∈ z)=>sTestOf_r hp t x.row (hz.2 x hx)
 have hres : whereZ z t = whereZ z t:=rfl
 conv at hres=>rhs; unfold whereZ
 generalize whereZ z t = res at hres ⊢
 have hl:=hz.1
 refine retTL_of hp rfl ?_
 have S : Sepa [] []:=Sepa.nil []
 conv=>whnf
 intro k1 a1 hk1 hh1
 replace S:=S.alloc hk1 hh1
 conv=>whnf
 refine ⟨_,h1 _,?_⟩
 conv=>whnf
 refine bsel_intro (fun g1=>?_) (fun g1=>?_)
 ·rw [g1,Bool.true_and] at hres
  conv=>whnf
  replace S:=Sepa.acd0 2 S
  refine loopL (fun m tm hp=>∃ (j : Nat) (D : AVal) (F : List Nat),j + m = z.length ∧ tm 6 = D ∧ tm 7 = i64 (j : Nat) ∧ Sepa hp [.acd 2 ((addZ [] ((z.take j).filter fun x=>(testOf t x.row).1)).map Item.d) D F,.row k1 (.box t.enc)] ∧ ((z.take j).all (fun x=>(testOf t x.row).2) = true)) (fun m tm hq hfr hI=>?_) (z.length) ⟨0,.nil,[],by simp,rfl,rfl,S,(rfl)⟩
  obtain ⟨j,D,F,hj,e6,e7,S2,hall⟩:=hI
  have k0:=hfr 0 (by kernel_rfl)
  conv at k0=>rhs; whnf
  have k3:=hfr 3 (by kernel_rfl)
  conv at k3=>rhs; whnf
  refine ⟨[(0,_),(3,_),(6,_),(7,_)],⟨k0,k3,e6,e7,trivial⟩,?_⟩
  clear hfr k0 k3 e6 e7
  replace S:=S2
  clear S2
  conv=>whnf
  have hjb : j < 4611686018427387904:=by simp [big] at hl; omega
  refine bsel_intro (fun h1=>?_) (fun h1=>?_)
  ·have hjl : j < z.length:=by simpa using h1
   have hge : (z.map Item.enc)[((j : Nat) : Int).toNat]? = some (Item.enc z[j]):=by rw [Int.toNat_natCast]; simp [hjl]
   have ht:=h2 _ (List.getElem_mem hjl)
   have hst:=filt_step (fun x=>(testOf t x.row).1) hjl
   have hst2:=all_step (fun x=>(testOf t x.row).2) hjl
   have hbad:=all_bad (Q:=fun x=>(testOf t x.row).2) hjl
   have hz1:=addZ_le (filt_zsm (fun x=>(testOf t x.row).1) j hz)
   have hz2:=(filt_zsm (fun x=>(testOf t x.row).1) j hz).1
   have hrow:=hz.2 _ (List.getElem_mem hjl)
   generalize z[j] = x at hge ht hst hst2 hbad hrow
   obtain ⟨row,w⟩:=x
   simp only at ht hst hst2 hbad hrow
   rw [hall,Bool.true_and] at hst2
   rcases hab : testOf t row with ⟨a,b⟩
   rw [hab] at ht hst hst2 hbad
   simp only at ht hst hst2 hbad
   conv=>whnf
   refine .inl ⟨_,S.row 1 rfl,rfl,?_⟩
   conv=>whnf
   refine ⟨_,hge,by omega,rfl,?_⟩
   conv=>whnf
   refine ⟨_,ht _,?_⟩
   cases b with
   | false=>
    have : res = none:=by rw [hres,hbad rfl]; rfl
    subst this
    iterate 4
     all_goals (try (conv=>whnf))
     all_goals (first | (intro ka_ ha_ hk_ hh_; replace S:=S.alloc hk_ hh_) | (refine .inl ⟨_,S.row 0 rfl,rfl,?_⟩) | (refine ⟨_,rfl,rfl,rfl,.inl ⟨_,S.row 0 rfl,rfl,?_⟩⟩; (conv=>whnf); intro ha_ hh_; replace S:=S.set 0 rfl hh_; dsimp only [List.set] at S) | (refine bsel_intro (fun hb=>?_) (fun hb=>?_)) | skip)
    all_goals (try (conv=>whnf))
    all_goals exact ⟨_,rfl,_,_,_,rfl,finN _⟩
   | true=>
    cases a with
    | false=>
     rw [if_neg (by simp)] at hst
     conv=>whnf
     exact ⟨m - 1,by omega,j + 1,D,F,by omega,rfl,nat_step j hjb,by rw [hst]; exact S,hst2⟩
    | true=>
     rw [if_pos rfl] at hst
     conv=>whnf
     refine ⟨_,hge,by omega,rfl,?_⟩
     conv=>whnf
     refine ⟨_,hge,by omega,rfl,?_⟩
     conv=>whnf
     refine callPut hp _ row w _ (by omega) hz1.2 hrow S (fun h' _=>snap_ints h' row) fun v' h' F' S1=>?_
     conv=>whnf
     exact ⟨m - 1,by omega,j + 1,_,_,by omega,rfl,nat_step j hjb,by rw [hst,addZ_snoc]; exact S1,hst2⟩
  ·have hjl : j = z.length:=by
    have : ¬ j < z.length:=by simpa using h1
    omega
   subst hjl
   rw [List.take_length] at S hall
   rw [hall,if_pos rfl] at hres
   subst hres
   conv=>whnf
   exact ⟨_,rfl,_,_,_,rfl,finZ S true⟩
 ·rw [g1] at hres
  have : res = none:=by rw [hres]; rfl
  subst this
  conv=>whnf
  exact ⟨_,rfl,_,_,_,rfl,finN _⟩
end Go.Proofs.YtebciagembenjaaDoor
/- Draws: the reader, a number of a range, one of a list. -/
set_option maxHeartbeats 4000000
namespace Go.Proofs.YtebciagembenjaaDoor
open Go Go.Am
variable {pr : Prims} (hp : Okp pr)
set_option maxRecDepth 100000
def u8 (n : Int) : AVal:=.int .u8 n
def rdP (k n : Nat) (h : Heap) : Prop:=∃ (bs : List Int) (p : Int),h[k]? = some (.box (.agg [.sl (bs.map u8),i64 p])) ∧ bs.length ≤ 2000 ∧ (∀ b ∈ bs,0 ≤ b ∧ b < 256) ∧ 0 ≤ p ∧ p ≤ n
def _root_.Go.Am.Chunk.rd (k n : Nat) : Chunk:=⟨[k],rdP k n,fun h h' hp hf=>by
 obtain ⟨bs,p,h1,h2⟩:=hp
 exact ⟨bs,p,by rw [hf k (by simp)]; exact h1,h2⟩,fun h hp id hid=>by
 obtain ⟨bs,p,h1,h2⟩:=hp
 simp at hid; subst hid; exact get_lt h1⟩
theorem Sepa.rdOpen {h : Heap} {L : List Chunk} {k n : Nat} (S : Sepa h (.rd k n :: L)) : ∃ (bs : List Int) (p : Int),Sepa h (.row k (.box (.agg [.sl (bs.map u8),i64 p])) :: L) ∧ bs.length ≤ 2000 ∧ (∀ b ∈ bs,0 ≤ b ∧ b < 256) ∧ 0 ≤ p ∧ p ≤ n:=by
 obtain ⟨bs,p,h1,h2⟩ : rdP k n h:=S.get 0 rfl
 exact ⟨bs,p,S.is (c':=.row k (.box (.agg [.sl (bs.map u8),i64 p]))) h1 rfl,h2⟩
theorem Sepa.rdClose {h : Heap} {L : List Chunk} {k n : Nat} {bs : List Int} {p : Int} (S : Sepa h (.row k (.box (.agg [.sl (bs.map u8),i64 p])) :: L)) (h1 : bs.length ≤ 2000) (h2 : ∀ b ∈ bs,0 ≤ b ∧ b < 256) (h3 : 0 ≤ p) (h4 : p ≤ n) : Sepa h (.rd k n :: L):=
 S.is (c':=.rd k n) ⟨bs,p,S.row 0 rfl,h1,h2,h3,h4⟩ rfl
theorem Sepa.rdMore {h : Heap} {L : List Chunk} {k n m : Nat} (S : Sepa h (.rd k n :: L)) (hm : n ≤ m) : Sepa h (.rd k m :: L):=by
 obtain ⟨bs,p,S1,h1,h2,h3,h4⟩:=Sepa.rdOpen S
 exact Sepa.rdClose S1 h1 h2 h3 (by omega)
def inR (x a : Int) : Prop:=0 ≤ x ∧ (x < a ∨ (a < 1 ∧ x = 0))
theorem g8 {bs : List Int} (h2 : ∀ b ∈ bs,0 ≤ b ∧ b < 256) {p : Int} (h0 : 0 ≤ p) (h1 : p < bs.length) : ∃ b : Int,(bs.map u8)[p.toNat]? = some (u8 b) ∧ 0 ≤ b ∧ b < 256:=by
 have hl : p.toNat < bs.length:=by omega
 exact ⟨bs[p.toNat],by simp [hl],h2 _ (List.getElem_mem hl)⟩
theorem tmod_in {x a : Int} (hx : 0 ≤ x) (ha : 1 ≤ a) : inR (x.tmod a) a:=⟨Int.tmod_nonneg _ hx,.inl (Int.tmod_lt_of_pos _ (by omega))⟩
theorem wrapS {x : Int} (h1 : -4611686018427387904 ≤ x) (h2 : x ≤ 4611686018427387904) : IntKind.i64.wrap x = x:=by rw [IntKind.wrap_i64]; omega
theorem xor_pos {x y : Int} (hx : 0 ≤ x) (hx2 : x < 4611686018427387904) (hy : 0 ≤ y) (hy2 : y < 4611686018427387904) : 0 ≤ IntKind.i64.wrap (((BitVec.ofInt IntKind.i64.bits x) ^^^ (BitVec.ofInt IntKind.i64.bits y)).toNat : Int):=by
 change 0 ≤ IntKind.i64.wrap (((BitVec.ofInt 64 x) ^^^ (BitVec.ofInt 64 y)).toNat : Int)
 have e : ∀ z : Int,0 ≤ z → z < 4611686018427387904 → (BitVec.ofInt 64 z).toNat = z.toNat:=fun z h1 h2=>by
  rw [BitVec.toNat_ofInt]
  omega
 rw [BitVec.toNat_xor,e x hx hx2,e y hy hy2]
 have h:=Nat.xor_lt_two_pow (n:=62) (x:=x.toNat) (y:=y.toNat) (by omega) (by omega)
 rw [IntKind.wrap_i64]
 omega
theorem callPick (hp : Okp pr) (a : Int) {h : Heap} {L : List Chunk} {k n : Nat} (S : Sepa h (.rd k n :: L)) (hn : n ≤ 1000000000000) {K : ARes → Prop} (hK : ∀ x h',inR x a → Sepa h' (.rd k (n + 1) :: L) → K (.ret (i64 x) h')) :
  ∃ r,callM (cfp pr) (call (cfp pr)) 29 [.ptr k 0 0,i64 a] h = some r ∧ K r:=by
   obtain ⟨bs,p,S1,h1,h2,h3,h4⟩:=Sepa.rdOpen S
   clear S
   have S:=S1
   clear S1
   rw [callF rfl]
   refine wpFL_sound (hp.out _ rfl) ?_
   conv=>whnf
   refine .inl ⟨_,S.row 0 rfl,rfl,?_⟩
   conv=>whnf
   refine ⟨_,rfl,rfl,rfl,.inl ⟨_,S.row 0 rfl,rfl,?_⟩⟩
   conv=>whnf
   intro h5 hh_h5
   replace S:=S.set 0 rfl hh_h5
   dsimp only [List.set] at S
   conv=>whnf
   have hw : IntKind.i64.wrap (p + 1) = p + 1:=by rw [IntKind.wrap_i64]; omega
   rw [hw] at S
   clear hh_h5
   have hn1 : p + 1 ≤ ((n + 1 : Nat) : Int):=by omega
   refine bsel_intro (fun g1=>?_) (fun g1=>?_)
   ·conv=>whnf
    refine ⟨_,rfl,hK 0 _ ⟨by omega,by simp at g1; omega⟩ (Sepa.rdClose S h1 h2 (by omega) hn1)⟩
   have g1 : ¬ a < 1:=by simpa using g1
   conv=>whnf
   refine .inl ⟨_,S.row 0 rfl,rfl,?_⟩
   conv=>whnf
   rw [List.length_map]
   refine bsel_intro (fun g2=>?_) (fun g2=>?_)
   ·conv=>whnf
    refine ⟨_,rfl,hK 0 _ ⟨by omega,by omega⟩ (Sepa.rdClose S h1 h2 (by omega) hn1)⟩
   have g2 : 0 < bs.length:=by simp at g2; exact List.length_pos_iff.2 g2
   conv=>whnf
   refine .inl ⟨_,S.row 0 rfl,rfl,?_⟩
   conv=>whnf
   have hw2 : IntKind.i64.wrap (p + 1 - 1) = p:=by rw [IntKind.wrap_i64]; omega
   rw [hw2]
   refine .inl ⟨_,S.row 0 rfl,rfl,?_⟩
   conv=>whnf
   rw [List.length_map]
   refine bsel_intro (fun g3=>?_) (fun g3=>?_)
   ·conv=>whnf
    refine .inl ⟨_,S.row 0 rfl,rfl,?_⟩
    conv=>whnf
    have hg:=g8 h2 h3 (by simpa using g3)
    obtain ⟨b,hb,hb1,hb2⟩:=hg
    refine ⟨_,hb,h3,rfl,?_⟩
    conv=>whnf
    refine ⟨rfl,by omega,?_⟩
    conv=>whnf
    refine ⟨_,rfl,hK _ _ (tmod_in (by rw [IntKind.wrap_i64]; omega) (by omega)) (Sepa.rdClose S h1 h2 (by omega) hn1)⟩
   ·conv=>whnf
    refine .inl ⟨_,S.row 0 rfl,rfl,?_⟩
    conv=>whnf
    refine .inl ⟨_,S.row 0 rfl,rfl,?_⟩
    conv=>whnf
    rw [List.length_map]
    refine ⟨rfl,by omega,?_⟩
    conv=>whnf
    obtain ⟨b,hb,hb1,hb2⟩:=g8 h2 (p:=p.tmod bs.length) (Int.tmod_nonneg _ h3) (Int.tmod_lt_of_pos _ (by omega))
    refine ⟨_,hb,Int.tmod_nonneg _ h3,rfl,?_⟩
    conv=>whnf
    refine .inl ⟨_,S.row 0 rfl,rfl,?_⟩
    conv=>whnf
    refine .inl ⟨_,S.row 0 rfl,rfl,?_⟩
    conv=>whnf
    rw [List.length_map]
    refine ⟨rfl,by omega,?_⟩
    conv=>whnf
    have hw3 : IntKind.i64.wrap (IntKind.i64.wrap (p * 7) + 3) = p * 7 + 3:=by rw [IntKind.wrap_i64,IntKind.wrap_i64]; omega
    rw [hw3]
    obtain ⟨c,hc,hc1,hc2⟩:=g8 h2 (p:=(p * 7 + 3).tmod bs.length) (Int.tmod_nonneg _ (by omega)) (Int.tmod_lt_of_pos _ (by omega))
    refine ⟨_,hc,Int.tmod_nonneg _ (by omega),rfl,?_⟩
    conv=>whnf
    refine .inl ⟨_,S.row 0 rfl,rfl,?_⟩
    conv=>whnf
    rw [List.length_map]
    refine ⟨rfl,by omega,?_⟩
    conv=>whnf
    refine ⟨rfl,by omega,?_⟩
    conv=>whnf
    have hq1 : 0 ≤ p.tdiv bs.length:=Int.tdiv_nonneg h3 (by omega)
    have hq2 : p.tdiv bs.length ≤ p:=Int.tdiv_le_self _ h3
    generalize p.tdiv bs.length = q at hq1 hq2 ⊢
    have hX : IntKind.i64.wrap (IntKind.i64.wrap (IntKind.i64.wrap (IntKind.i64.wrap (IntKind.i64.wrap b * 131) + IntKind.i64.wrap (IntKind.i64.wrap c * 1117)) + IntKind.i64.wrap (p * 29)) + IntKind.i64.wrap (IntKind.i64.wrap q * 53)) = b * 131 + c * 1117 + p * 29 + q * 53:=by
     rw [wrapS (x:=b) (by omega) (by omega),wrapS (x:=c) (by omega) (by omega),wrapS (x:=q) (by omega) (by omega),wrapS (x:=b * 131) (by omega) (by omega),wrapS (x:=c * 1117) (by omega) (by omega),wrapS (x:=p * 29) (by omega) (by omega),wrapS (x:=q * 53) (by omega) (by omega),
      wrapS (x:=b * 131 + c * 1117) (by omega) (by omega),wrapS (x:=b * 131 + c * 1117 + p * 29) (by omega) (by omega),wrapS (by omega) (by omega)]
    rw [hX]
    have hX1 : 0 ≤ b * 131 + c * 1117 + p * 29 + q * 53:=by omega
    have hX2 : b * 131 + c * 1117 + p * 29 + q * 53 < 4611686018427387904:=by omega
    generalize b * 131 + c * 1117 + p * 29 + q * 53 = X at hX1 hX2 ⊢
    have hY1 : 0 ≤ X.tdiv 64:=Int.tdiv_nonneg hX1 (by omega)
    have hY2 : X.tdiv 64 ≤ X:=Int.tdiv_le_self _ hX1
    rw [wrapS (x:=X.tdiv 64) (by omega) (by omega)]
    refine ⟨rfl,by omega,?_⟩
    conv=>whnf
    refine ⟨_,rfl,hK _ _ (tmod_in (xor_pos hX1 hX2 hY1 (by omega)) (by omega)) (Sepa.rdClose S h1 h2 (by omega) hn1)⟩
theorem callNum (hp : Okp pr) (xs : List Int) (hx : 0 < xs.length) (hxl : xs.length ≤ 100) {h : Heap} {L : List Chunk} {k n id : Nat} (S : Sepa h (.rd k n :: .row id (.arr 1 (xs.map i64)) :: L)) (hn : n ≤ 1000000000000) {K : ARes → Prop} (hK : ∀ x h',x ∈ xs → Sepa h' (.rd k (n + 1) :: L) → K (.ret (i64 x) h')) :
  ∃ r,callM (cfp pr) (call (cfp pr)) 33 [.ptr k 0 0,.own id 0 xs.length] h = some r ∧ K r:=by
   rw [callF rfl]
   refine wpFL_sound (hp.out _ rfl) ?_
   conv=>whnf
   refine callPick hp _ S hn fun x h' hx S1=>?_
   clear S
   have S:=S1
   clear S1
   have hx1 : 0 ≤ x ∧ x < xs.length:=by unfold inR at hx; omega
   have hge : (xs.map i64)[0 + x.toNat]? = some (i64 xs[x.toNat]):=by simp [show x.toNat < xs.length by omega]
   have hmem : xs[x.toNat] ∈ xs:=List.getElem_mem (by omega)
   generalize xs[x.toNat] = y at hge hmem
   conv=>whnf
   refine ⟨_,S.row 1 rfl,⟨hx1.1,hx1.2⟩,?_⟩
   conv=>whnf
   refine .inr ⟨_,_,_,S.row 1 rfl,hge,LoadG_intro (v:=i64 y) rfl ?_⟩
   conv=>whnf
   exact ⟨_,rfl,hK _ _ hmem (S.drop 1)⟩
theorem callOpen (hp : Okp pr) (bs : List Int) (hb : ∀ b ∈ bs,0 ≤ b ∧ b < 256) (hbl : bs.length ≤ 1048576) {h : Heap} {L : List Chunk} (S : Sepa h L) {K : ARes → Prop} (hK : ∀ k h',Sepa h' (.rd k 0 :: L) → K (.ret (.ptr k 0 0) h')) :
  ∃ r,callM (cfp pr) (call (cfp pr)) 11 [.sl (bs.map u8)] h = some r ∧ K r:=by
   rw [callF rfl]
   refine wpFL_sound (hp.out _ rfl) ?_
   conv=>whnf
   rw [List.length_map]
   refine bsel_intro (fun g1=>?_) (fun g1=>?_)
   ·conv=>whnf
    refine ⟨⟨by simp,by simp,by simp at g1 ⊢; omega,by rw [List.all_eq_true]; intro y hy; obtain ⟨z,_,rfl⟩:=List.mem_map.1 hy; rfl⟩,?_⟩
    have hc : ((bs.map u8).drop ((none : Option Int).getD 0).toNat).take (((some 2000).getD ((bs.map u8).length : Int)).toNat - ((none : Option Int).getD 0).toNat) = (bs.take 2000).map u8:=by simp [List.map_take]
    conv=>whnf
    intro k1 a1 hk1 hh1
    replace S:=S.alloc hk1 hh1
    conv=>whnf
    refine ⟨_,rfl,hK _ _ (Sepa.rdClose (bs:=bs.take 2000) (p:=0) ?_ (by simp; omega) (fun b hb'=>hb b (List.mem_of_mem_take hb')) (Int.le_refl _) (Int.le_refl _))⟩
    rw [← hc]
    exact S
   ·conv=>whnf
    intro k1 a1 hk1 hh1
    replace S:=S.alloc hk1 hh1
    conv=>whnf
    exact ⟨_,rfl,hK _ _ (Sepa.rdClose S (by simp at g1; omega) hb (Int.le_refl _) (Int.le_refl _))⟩
end Go.Proofs.YtebciagembenjaaDoor
/- Draws: rows, items, cells, tests. -/
set_option maxHeartbeats 4000000
namespace Go.Proofs.YtebciagembenjaaDoor
open Go Go.Am
variable {pr : Prims} (hp : Okp pr)
set_option maxRecDepth 100000
theorem callL1Row (hp : Okp pr) (wide : Int) (hw : wide ≤ 10) {h : Heap} {L : List Chunk} {k n : Nat} (S : Sepa h (.rd k n :: L)) (hn : n ≤ 900000000000) {K : ARes → Prop}
  (hK : ∀ (xs : List Int) v h',(xs.length : Int) = max 0 wide → (∀ x ∈ xs,-1 ≤ x ∧ x ≤ 5) → Sepa h' (.rd k (n + 10) :: .acc i64 1 xs v :: L) → K (.ret v h')) :
  ∃ r,callM (cfp pr) (call (cfp pr)) 53 [.ptr k 0 0,i64 wide] h = some r ∧ K r:=by
   rw [callF rfl]
   refine wpFL_sound (hp.out _ rfl) ?_
   conv=>whnf
   replace S:=(Sepa.accNil i64 1 S).swap
   refine loopL (fun m tm hp=>∃ (j : Nat) (D : AVal) (xs : List Int),j + m = wide.toNat ∧ tm 5 = D ∧ tm 6 = i64 (j : Nat) ∧ Sepa hp (.rd k (n + j) :: .acc i64 1 xs D :: L) ∧ (xs.length = j) ∧ (∀ x ∈ xs,-1 ≤ x ∧ x ≤ 5)) (fun m tm hq hfr hI=>?_) (wide.toNat) ⟨0,.nil,[],by simp,rfl,rfl,S,(rfl),(by simp)⟩
   obtain ⟨j,D,xs,hj,e5,e6,S2,hxl,hxb⟩:=hI
   have k0:=hfr 0 (by kernel_rfl)
   conv at k0=>rhs; whnf
   have k1:=hfr 1 (by kernel_rfl)
   conv at k1=>rhs; whnf
   refine ⟨[(0,_),(1,_),(5,_),(6,_)],⟨k0,k1,e5,e6,trivial⟩,?_⟩
   clear hfr k0 k1 e5 e6
   replace S:=S2
   clear S2
   conv=>whnf
   refine bsel_intro (fun h1=>?_) (fun h1=>?_)
   ·have hjb : j < 4611686018427387904:=by simp at h1; omega
    have hj10 : j < 10:=by simp at h1; omega
    conv=>whnf
    intro k1 a1 hk1 hh1
    replace S:=S.alloc hk1 hh1
    conv=>whnf
    replace S:=S.swap
    refine callNum hp [0,1,2,3,1,2,-1,5] (by simp) (by simp) S (by omega) fun x h' hx S1=>?_
    clear S
    have S:=S1.swap
    clear S1
    conv=>whnf
    intro kv_ hv_ hkv_ hhv_
    replace S:=S.alloc hkv_ hhv_
    conv=>whnf
    refine ⟨trivial,?_⟩
    conv=>whnf
    refine ⟨[_],elems_row1 (S.row 0 rfl),elem_cell rfl rfl,?_⟩
    replace S:=S.drop 0
    dsimp only [List.eraseIdx] at S
    refine appAcc (f:=i64) (x:=x) S (by simp [sizeLim]; omega) fun k2 h2' S2 _=>?_
    conv=>whnf
    refine ⟨m - 1,by simp at h1; omega,j + 1,_,xs ++ [x],by simp at h1; omega,rfl,nat_step j hjb,S2.swap,by simp [hxl],fun y hy=>?_⟩
    rcases List.mem_append.1 hy with hy | hy
    ·exact hxb y hy
    ·simp at hy hx
     omega
   ·conv=>whnf
    refine ⟨_,rfl,hK xs _ _ ?_ hxb (Sepa.rdMore S ?_)⟩
    ·simp at h1; omega
    ·simp at h1; omega
def drawnZ (wide : Int) (most : Nat) (z : List Item) : Prop:=z.length ≤ most ∧ ∀ x ∈ z,(x.row.length : Int) = max 0 wide ∧ ∀ c ∈ x.row,-1 ≤ c ∧ c ≤ 5
theorem drawnZ_put {wide : Int} {most : Nat} {z : List Item} {r : List Int} {w : Int} (hz : drawnZ wide most z) (hr : (r.length : Int) = max 0 wide) (hc : ∀ c ∈ r,-1 ≤ c ∧ c ≤ 5) : drawnZ wide (most + 1) (putZ z r w):=by
 refine ⟨Nat.le_trans (putZ_len _ _ _) (by have:=hz.1; omega),fun x hx=>?_⟩
 rcases putZ_mem x hx with e | ⟨y,hy,e⟩
 ·rw [e]; exact ⟨hr,hc⟩
 ·rw [e]; exact hz.2 y hy
theorem drawnZ_big {wide : Int} {most : Nat} {z : List Item} (hz : drawnZ wide most z) (hw : wide ≤ 10) : ∀ x ∈ z,x.row.length ≤ big:=fun x hx=>by
 have:=(hz.2 x hx).1
 simp [big]; omega
theorem callL2Z (hp : Okp pr) (wide : Int) (most : Nat) (hw : wide ≤ 10) (hm : most ≤ 20) {h : Heap} {L : List Chunk} {k n : Nat} (S : Sepa h (.rd k n :: L)) (hn : n ≤ 800000000000) {K : ARes → Prop}
  (hK : ∀ (z : List Item) v F h',drawnZ wide most z → Sepa h' (.rd k (n + 400) :: .acd 2 (z.map Item.d) v F :: L) → K (.ret v h')) :
  ∃ r,callM (cfp pr) (call (cfp pr)) 31 [.ptr k 0 0,i64 wide,i64 most] h = some r ∧ K r:=by
   rw [callF rfl]
   refine wpFL_sound (hp.out _ rfl) ?_
   conv=>whnf
   have hwm : IntKind.i64.wrap ((most : Int) + 1) = ((most + 1 : Nat) : Int):=by rw [IntKind.wrap_i64]; omega
   rw [hwm]
   refine callPick hp _ S (by omega) fun c h1 hc S1=>?_
   clear S
   have S:=(Sepa.acd0 2 S1).swap
   clear S1
   have hc1 : 0 ≤ c ∧ c ≤ most:=by unfold inR at hc; omega
   conv=>whnf
   refine loopL (fun m tm hp=>∃ (j : Nat) (D : AVal) (F : List Nat) (z : List Item) (e : Int),j + m = c.toNat ∧ tm 7 = D ∧ tm 8 = i64 e ∧ Sepa hp (.rd k (n + 1 + 11 * j) :: .acd 2 (z.map Item.d) D F :: L) ∧ (drawnZ wide j z) ∧ (e = c - (j : Int))) (fun m tm hq hfr hI=>?_) (c.toNat) ⟨0,.nil,[],[],c,by simp,rfl,rfl,S,(⟨by simp,by simp⟩),(by simp)⟩
   obtain ⟨j,D,F,z,e,hj,e7,e8,S2,hz,he⟩:=hI
   have k0:=hfr 0 (by kernel_rfl)
   conv at k0=>rhs; whnf
   have k1:=hfr 1 (by kernel_rfl)
   conv at k1=>rhs; whnf
   refine ⟨[(0,_),(1,_),(7,_),(8,_)],⟨k0,k1,e7,e8,trivial⟩,?_⟩
   clear hfr k0 k1 e7 e8
   replace S:=S2
   clear S2
   conv=>whnf
   refine bsel_intro (fun g1=>?_) (fun g1=>?_)
   ·have hj : (j : Int) < c:=by simp at g1; omega
    conv=>whnf
    refine callL1Row hp wide hw S (by omega) fun xs rv h2 hx1 hx2 S1=>?_
    clear S
    conv=>whnf
    intro k1 a1 hk1 hh1
    replace S1:=S1.alloc hk1 hh1
    conv=>whnf
    replace S1:=S1.swap
    refine callNum hp [1,1,1,2,-1,3,-2] (by simp) (by simp) S1 (by omega) fun w h3 hw1 S2=>?_
    clear S1
    have S:=S2.front 2 rfl
    dsimp only [List.eraseIdx] at S
    clear S2
    conv=>whnf
    refine callPut hp z xs w _ (by have:=hz.1; simp [big]; omega) (drawnZ_big hz hw) (by simp [big]; omega) S (fun h' S'=>Ints.snap ((Sepa.accInts (S'.front 1 rfl)).get 0 rfl)) fun v' h4 F' S1=>?_
    clear S
    have S:=(S1.drop 2).swap
    dsimp only [List.eraseIdx] at S
    clear S1
    conv=>whnf
    exact ⟨m - 1,by omega,j + 1,_,_,_,_,by omega,rfl,rfl,Sepa.rdMore S (by omega),drawnZ_put hz hx1 hx2,by rw [IntKind.wrap_i64]; omega⟩
   ·conv=>whnf
    have hj : (j : Int) ≥ c:=by simp at g1; omega
    exact ⟨_,rfl,hK z _ _ _ ⟨by have:=hz.1; omega,hz.2⟩ (Sepa.rdMore S (by omega))⟩
theorem callL3Cell (hp : Okp pr) (wide : Int) {h : Heap} {L : List Chunk} {k n : Nat} (S : Sepa h (.rd k n :: L)) (hn : n ≤ 800000000000) {K : ARes → Prop}
  (hK : ∀ (c : Cell) h',Sepa h' (.rd k (n + 3) :: L) → K (.ret c.enc h')) :
  ∃ r,callM (cfp pr) (call (cfp pr)) 54 [.ptr k 0 0,i64 wide] h = some r ∧ K r:=by
   rw [callF rfl]
   refine wpFL_sound (hp.out _ rfl) ?_
   conv=>whnf
   intro k1 a1 hk1 hh1
   replace S:=(S.alloc hk1 hh1).swap
   conv=>whnf
   refine callPick hp _ S (by omega) fun x h2 hx S1=>?_
   clear S
   conv=>whnf
   refine bsel_intro (fun g1=>?_) (fun g1=>?_)
   ·conv=>whnf
    intro k2 a2 hk2 hh2
    have S:=(S1.alloc hk2 hh2).swap
    clear S1
    conv=>whnf
    refine callNum hp [0,1,2,-1,5] (by simp) (by simp) S (by omega) fun y h3 hy S1=>?_
    clear S
    have S:=S1
    clear S1
    conv=>whnf
    refine ⟨_,rfl,rfl,rfl,.inl ⟨_,S.row 1 rfl,rfl,?_⟩⟩
    conv=>whnf
    intro h4 hh_h4
    replace S:=S.set 1 rfl hh_h4
    dsimp only [List.set] at S
    conv=>whnf
    exact ⟨_,fin_cell rfl rfl (S.row 1 rfl) rfl,hK ⟨2,0,0,y⟩ _ (Sepa.rdMore (S.drop 1) (by omega))⟩
   conv=>whnf
   refine bsel_intro (fun g2=>?_) (fun g2=>?_)
   ·conv=>whnf
    refine callPick hp _ S1 (by omega) fun y h3 hy S=>?_
    clear S1
    conv=>whnf
    refine callPick hp _ S (by omega) fun z h4 hz S1=>?_
    clear S
    have S:=S1
    clear S1
    conv=>whnf
    refine ⟨_,rfl,rfl,rfl,.inl ⟨_,S.row 1 rfl,rfl,?_⟩⟩
    conv=>whnf
    intro h5 hh_h5
    replace S:=S.set 1 rfl hh_h5
    dsimp only [List.set] at S
    conv=>whnf
    exact ⟨_,fin_cell rfl rfl (S.row 1 rfl) rfl,hK ⟨3,y,z,0⟩ _ (Sepa.rdMore (S.drop 1) (by omega))⟩
   conv=>whnf
   refine callPick hp _ S1 (by omega) fun y h3 hy S=>?_
   clear S1
   conv=>whnf
   refine ⟨_,rfl,rfl,rfl,.inl ⟨_,S.row 1 rfl,rfl,?_⟩⟩
   conv=>whnf
   intro h5 hh_h5
   replace S:=S.set 1 rfl hh_h5
   dsimp only [List.set] at S
   conv=>whnf
   exact ⟨_,fin_cell rfl rfl (S.row 1 rfl) rfl,hK ⟨1,y,0,0⟩ _ (Sepa.rdMore (S.drop 1) (by omega))⟩
theorem callL3Test (hp : Okp pr) (wide : Int) {h : Heap} {L : List Chunk} {k n : Nat} (S : Sepa h (.rd k n :: L)) (hn : n ≤ 700000000000) {K : ARes → Prop}
  (hK : ∀ (t : Test) h',Sepa h' (.rd k (n + 8) :: L) → K (.ret t.enc h')) :
  ∃ r,callM (cfp pr) (call (cfp pr)) 32 [.ptr k 0 0,i64 wide] h = some r ∧ K r:=by
   rw [callF rfl]
   refine wpFL_sound (hp.out _ rfl) ?_
   conv=>whnf
   intro k1 a1 hk1 hh1
   replace S:=(S.alloc hk1 hh1).swap
   conv=>whnf
   refine callPick hp _ S (by omega) fun x h2 hx S1=>?_
   clear S
   conv=>whnf
   refine callPick hp _ S1 (by omega) fun y h3 hy S=>?_
   clear S1
   conv=>whnf
   refine bsel_intro (fun g1=>?_) (fun g1=>?_)
   all_goals
    conv=>whnf
    refine callL3Cell hp wide S (by omega) fun c h4 S1=>?_
    clear S
    conv=>whnf
    refine callL3Cell hp wide S1 (by omega) fun d h5 S=>?_
    clear S1
    obtain ⟨c1,c2,c3,c4⟩:=c
    obtain ⟨d1,d2,d3,d4⟩:=d
    conv=>whnf
    refine ⟨_,rfl,rfl,rfl,.inl ⟨_,S.row 1 rfl,rfl,?_⟩⟩
    conv=>whnf
    intro h6 hh_h6
    replace S:=S.set 1 rfl hh_h6
    dsimp only [List.set] at S
    conv=>whnf
    exact ⟨_,fin_cell rfl rfl (S.row 1 rfl) rfl,hK ⟨_,_,⟨c1,c2,c3,c4⟩,⟨d1,d2,d3,d4⟩⟩ _ (Sepa.rdMore (S.drop 1) (by omega))⟩
end Go.Proofs.YtebciagembenjaaDoor

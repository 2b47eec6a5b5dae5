/- Draws: items, some bent; what is asked of items. -/
import Derived.Test.YtebciagembenjaaDoorGH35
set_option linter.unusedVariables false
set_option linter.unusedSimpArgs false
/- Draws: cells, tests and items, some bent; what is asked of items. -/
set_option maxHeartbeats 4000000
namespace Go.Proofs.YtebciagembenjaaDoor
open Go Go.Am
variable {pr : Prims} (hp : Okp pr)
set_option maxRecDepth 100000
theorem callL3CellBent (hp : Okp pr) (wide : Int) {h : Heap} {L : List Chunk} {k n : Nat} (S : Sepa h (.rd k n :: L)) (hn : n ≤ 700000000000) {K : ARes → Prop}
  (hK : ∀ (c : Cell) h',Sepa h' (.rd k (n + 8) :: L) → K (.ret c.enc h')) :
  ∃ r,callM (cfp pr) (call (cfp pr)) 34 [.ptr k 0 0,i64 wide] h = some r ∧ K r:=by
   rw [callF rfl]
   refine wpFL_sound (hp.out _ rfl) ?_
   conv=>whnf
   intro k1 a1 hk1 hh1
   replace S:=(S.alloc hk1 hh1).swap
   conv=>whnf
   refine callL3Cell hp wide S (by omega) fun c h2 S1=>?_
   clear S
   obtain ⟨c1,c2,c3,c4⟩:=c
   conv=>whnf
   intro k2 a2 hk2 hh2
   have S:=(S1.alloc hk2 hh2).swap
   clear S1
   conv=>whnf
   refine ⟨_,rfl,rfl,rfl,.inl ⟨_,S.row 1 rfl,rfl,?_⟩⟩
   conv=>whnf
   intro h3 hh_h3
   replace S:=S.set 1 rfl hh_h3
   dsimp only [List.set] at S
   conv=>whnf
   refine callPick hp _ S (by omega) fun x h4 hx S1=>?_
   clear S hx hk1 hk2 hh1 hh2 hh_h3
   have S:=S1
   clear S1
   conv=>whnf
   refine bsel_intro (fun g1=>?_) (fun g1=>?_)
   ·conv=>whnf
    intro k3 a3 hk3 hh3
    replace S:=(S.alloc hk3 hh3).swap
    conv=>whnf
    refine callNum hp [0,4,1,2] (by simp) (by simp) S (by omega) fun y h5 hy S1=>?_
    clear S
    have S:=S1
    clear S1
    conv=>whnf
    refine ⟨_,rfl,rfl,rfl,.inl ⟨_,S.row 1 rfl,rfl,?_⟩⟩
    conv=>whnf
    intro h6 hh_h6
    replace S:=S.set 1 rfl hh_h6
    dsimp only [List.set] at S
    conv=>whnf
    refine .inl ⟨_,S.row 1 rfl,rfl,?_⟩
    conv=>whnf
    refine ⟨_,rfl,rfl,rfl,.inl ⟨_,S.row 2 rfl,rfl,?_⟩⟩
    conv=>whnf
    intro h7 hh_h7
    replace S:=S.set 2 rfl hh_h7
    dsimp only [List.set] at S
    conv=>whnf
    exact ⟨_,fin_cell rfl rfl (S.row 2 rfl) rfl,hK ⟨y,c2,c3,c4⟩ _ (Sepa.rdMore ((S.drop 1).drop 1) (by omega))⟩
   conv=>whnf
   refine bsel_intro (fun g1=>?_) (fun g1=>?_)
   ·conv=>whnf
    intro k3 a3 hk3 hh3
    replace S:=(S.alloc hk3 hh3).swap
    conv=>whnf
    refine callNum hp [-1,wide,6] (by simp) (by simp) S (by omega) fun y h5 hy S1=>?_
    clear S
    have S:=S1
    clear S1
    conv=>whnf
    refine ⟨_,rfl,rfl,rfl,.inl ⟨_,S.row 1 rfl,rfl,?_⟩⟩
    conv=>whnf
    intro h6 hh_h6
    replace S:=S.set 1 rfl hh_h6
    dsimp only [List.set] at S
    conv=>whnf
    refine .inl ⟨_,S.row 1 rfl,rfl,?_⟩
    conv=>whnf
    refine ⟨_,rfl,rfl,rfl,.inl ⟨_,S.row 2 rfl,rfl,?_⟩⟩
    conv=>whnf
    intro h7 hh_h7
    replace S:=S.set 2 rfl hh_h7
    dsimp only [List.set] at S
    conv=>whnf
    exact ⟨_,fin_cell rfl rfl (S.row 2 rfl) rfl,hK ⟨c1,y,c3,c4⟩ _ (Sepa.rdMore ((S.drop 1).drop 1) (by omega))⟩
   conv=>whnf
   refine bsel_intro (fun g1=>?_) (fun g1=>?_)
   ·conv=>whnf
    intro k3 a3 hk3 hh3
    replace S:=(S.alloc hk3 hh3).swap
    conv=>whnf
    refine callNum hp [1000000001,1,-1000000000] (by simp) (by simp) S (by omega) fun y h5 hy S1=>?_
    clear S
    have S:=S1
    clear S1
    conv=>whnf
    refine ⟨_,rfl,rfl,rfl,.inl ⟨_,S.row 1 rfl,rfl,?_⟩⟩
    conv=>whnf
    intro h6 hh_h6
    replace S:=S.set 1 rfl hh_h6
    dsimp only [List.set] at S
    conv=>whnf
    refine .inl ⟨_,S.row 1 rfl,rfl,?_⟩
    conv=>whnf
    refine ⟨_,rfl,rfl,rfl,.inl ⟨_,S.row 2 rfl,rfl,?_⟩⟩
    conv=>whnf
    intro h7 hh_h7
    replace S:=S.set 2 rfl hh_h7
    dsimp only [List.set] at S
    conv=>whnf
    exact ⟨_,fin_cell rfl rfl (S.row 2 rfl) rfl,hK ⟨c1,c2,c3,y⟩ _ (Sepa.rdMore ((S.drop 1).drop 1) (by omega))⟩
   conv=>whnf
   refine bsel_intro (fun g1=>?_) (fun g1=>?_)
   ·conv=>whnf
    intro k3 a3 hk3 hh3
    replace S:=(S.alloc hk3 hh3).swap
    conv=>whnf
    refine callNum hp [1,-1,6] (by simp) (by simp) S (by omega) fun y h5 hy S1=>?_
    clear S
    have S:=S1
    clear S1
    conv=>whnf
    refine ⟨_,rfl,rfl,rfl,.inl ⟨_,S.row 1 rfl,rfl,?_⟩⟩
    conv=>whnf
    intro h6 hh_h6
    replace S:=S.set 1 rfl hh_h6
    dsimp only [List.set] at S
    conv=>whnf
    refine .inl ⟨_,S.row 1 rfl,rfl,?_⟩
    conv=>whnf
    refine ⟨_,rfl,rfl,rfl,.inl ⟨_,S.row 2 rfl,rfl,?_⟩⟩
    conv=>whnf
    intro h7 hh_h7
    replace S:=S.set 2 rfl hh_h7
    dsimp only [List.set] at S
    conv=>whnf
    exact ⟨_,fin_cell rfl rfl (S.row 2 rfl) rfl,hK ⟨c1,c2,y,c4⟩ _ (Sepa.rdMore ((S.drop 1).drop 1) (by omega))⟩
   conv=>whnf
   refine .inl ⟨_,S.row 1 rfl,rfl,?_⟩
   conv=>whnf
   refine ⟨_,rfl,rfl,rfl,.inl ⟨_,S.row 2 rfl,rfl,?_⟩⟩
   conv=>whnf
   intro h7 hh_h7
   replace S:=S.set 2 rfl hh_h7
   dsimp only [List.set] at S
   conv=>whnf
   exact ⟨_,fin_cell rfl rfl (S.row 2 rfl) rfl,hK ⟨c1,c2,c3,c4⟩ _ (Sepa.rdMore ((S.drop 1).drop 1) (by omega))⟩
theorem callL3TestBent (hp : Okp pr) (wide : Int) {h : Heap} {L : List Chunk} {k n : Nat} (S : Sepa h (.rd k n :: L)) (hn : n ≤ 600000000000) {K : ARes → Prop}
  (hK : ∀ (t : Test) h',Sepa h' (.rd k (n + 20) :: L) → K (.ret t.enc h')) :
  ∃ r,callM (cfp pr) (call (cfp pr)) 13 [.ptr k 0 0,i64 wide] h = some r ∧ K r:=by
   rw [callF rfl]
   refine wpFL_sound (hp.out _ rfl) ?_
   conv=>whnf
   intro k1 a1 hk1 hh1
   replace S:=(S.alloc hk1 hh1).swap
   conv=>whnf
   refine callL3Test hp wide S (by omega) fun t h2 S1=>?_
   clear S
   obtain ⟨t1,t2,⟨c1,c2,c3,c4⟩,⟨d1,d2,d3,d4⟩⟩:=t
   conv=>whnf
   intro k2 a2 hk2 hh2
   have S:=(S1.alloc hk2 hh2).swap
   clear S1
   conv=>whnf
   refine ⟨_,rfl,rfl,rfl,.inl ⟨_,S.row 1 rfl,rfl,?_⟩⟩
   conv=>whnf
   intro h3 hh_h3
   replace S:=S.set 1 rfl hh_h3
   dsimp only [List.set] at S
   conv=>whnf
   refine callPick hp _ S (by omega) fun x h4 hx S1=>?_
   clear S hx hk1 hk2 hh1 hh2 hh_h3
   have S:=S1
   clear S1
   conv=>whnf
   refine bsel_intro (fun g1=>?_) (fun g1=>?_)
   ·conv=>whnf
    intro k3 a3 hk3 hh3
    replace S:=(S.alloc hk3 hh3).swap
    conv=>whnf
    refine callNum hp [0,3] (by simp) (by simp) S (by omega) fun y h5 hy S1=>?_
    clear S
    have S:=S1
    clear S1
    conv=>whnf
    refine ⟨_,rfl,rfl,rfl,.inl ⟨_,S.row 1 rfl,rfl,?_⟩⟩
    conv=>whnf
    intro h6 hh_h6
    replace S:=S.set 1 rfl hh_h6
    dsimp only [List.set] at S
    conv=>whnf
    refine .inl ⟨_,S.row 1 rfl,rfl,?_⟩
    conv=>whnf
    refine ⟨_,rfl,rfl,rfl,.inl ⟨_,S.row 2 rfl,rfl,?_⟩⟩
    conv=>whnf
    intro h7 hh_h7
    replace S:=S.set 2 rfl hh_h7
    dsimp only [List.set] at S
    conv=>whnf
    exact ⟨_,fin_cell rfl rfl (S.row 2 rfl) rfl,hK ⟨y,t2,⟨c1,c2,c3,c4⟩,⟨d1,d2,d3,d4⟩⟩ _ (Sepa.rdMore ((S.drop 1).drop 1) (by omega))⟩
   conv=>whnf
   refine bsel_intro (fun g1=>?_) (fun g1=>?_)
   ·conv=>whnf
    refine callL3CellBent hp wide S (by omega) fun c h5 S1=>?_
    clear S
    have S:=S1
    clear S1
    obtain ⟨e1,e2,e3,e4⟩:=c
    conv=>whnf
    refine ⟨_,rfl,rfl,rfl,.inl ⟨_,S.row 1 rfl,rfl,?_⟩⟩
    conv=>whnf
    intro h6 hh_h6
    replace S:=S.set 1 rfl hh_h6
    dsimp only [List.set] at S
    conv=>whnf
    refine .inl ⟨_,S.row 1 rfl,rfl,?_⟩
    conv=>whnf
    refine ⟨_,rfl,rfl,rfl,.inl ⟨_,S.row 2 rfl,rfl,?_⟩⟩
    conv=>whnf
    intro h7 hh_h7
    replace S:=S.set 2 rfl hh_h7
    dsimp only [List.set] at S
    conv=>whnf
    exact ⟨_,fin_cell rfl rfl (S.row 2 rfl) rfl,hK ⟨t1,t2,⟨e1,e2,e3,e4⟩,⟨d1,d2,d3,d4⟩⟩ _ (Sepa.rdMore ((S.drop 1).drop 1) (by omega))⟩
   conv=>whnf
   refine bsel_intro (fun g1=>?_) (fun g1=>?_)
   ·conv=>whnf
    refine callL3CellBent hp wide S (by omega) fun c h5 S1=>?_
    clear S
    have S:=S1
    clear S1
    obtain ⟨e1,e2,e3,e4⟩:=c
    conv=>whnf
    refine ⟨_,rfl,rfl,rfl,.inl ⟨_,S.row 1 rfl,rfl,?_⟩⟩
    conv=>whnf
    intro h6 hh_h6
    replace S:=S.set 1 rfl hh_h6
    dsimp only [List.set] at S
    conv=>whnf
    refine .inl ⟨_,S.row 1 rfl,rfl,?_⟩
    conv=>whnf
    refine ⟨_,rfl,rfl,rfl,.inl ⟨_,S.row 2 rfl,rfl,?_⟩⟩
    conv=>whnf
    intro h7 hh_h7
    replace S:=S.set 2 rfl hh_h7
    dsimp only [List.set] at S
    conv=>whnf
    exact ⟨_,fin_cell rfl rfl (S.row 2 rfl) rfl,hK ⟨t1,t2,⟨c1,c2,c3,c4⟩,⟨e1,e2,e3,e4⟩⟩ _ (Sepa.rdMore ((S.drop 1).drop 1) (by omega))⟩
   conv=>whnf
   refine .inl ⟨_,S.row 1 rfl,rfl,?_⟩
   conv=>whnf
   refine ⟨_,rfl,rfl,rfl,.inl ⟨_,S.row 2 rfl,rfl,?_⟩⟩
   conv=>whnf
   intro h7 hh_h7
   replace S:=S.set 2 rfl hh_h7
   dsimp only [List.set] at S
   conv=>whnf
   exact ⟨_,fin_cell rfl rfl (S.row 2 rfl) rfl,hK ⟨t1,t2,⟨c1,c2,c3,c4⟩,⟨d1,d2,d3,d4⟩⟩ _ (Sepa.rdMore ((S.drop 1).drop 1) (by omega))⟩
end Go.Proofs.YtebciagembenjaaDoor
/- Draws: items, some bent; what is asked of items. -/
set_option maxHeartbeats 4000000
namespace Go.Proofs.YtebciagembenjaaDoor
open Go Go.Am
variable {pr : Prims} (hp : Okp pr)
set_option maxRecDepth 100000
def seeP (v x : AVal) (F : List Nat) (h : Heap) : Prop:=(∀ id ∈ F,id < h.length) ∧ ∀ h',(∀ id ∈ F,h'[id]? = h[id]?) → snapF h' 4194303 v = some x
def _root_.Go.Am.Chunk.see (v x : AVal) (F : List Nat) : Chunk:=⟨F,seeP v x F,fun h h' hp hf=>⟨fun id hid=>by
 have h1:=hp.1 id hid
 have h2:=hf id hid
 rw [List.getElem?_eq_getElem h1] at h2
 exact get_lt h2,fun h2 h3=>hp.2 h2 fun id hid=>(h3 id hid).trans (hf id hid)⟩,fun h hp=>hp.1⟩
theorem Sepa.see {h : Heap} {L : List Chunk} {v x : AVal} {F : List Nat} (S : Sepa h (.see v x F :: L)) : Am.snap h v = some x:=by
 have h1 : seeP v x F h:=S.get 0 rfl
 exact snapF_mono h 4194303 v x (h1.2 h fun _ _=>rfl)
theorem Sepa.see3 {h : Heap} {L : List Chunk} {v x : AVal} {F : List Nat} (S : Sepa h (.see v x F :: L)) : snapF h 4194303 v = some x:=by
 have h1 : seeP v x F h:=S.get 0 rfl
 exact h1.2 h fun _ _=>rfl
theorem items_dep (ds : List Item) : Dat.deps (ds.map Item.d) ≤ 3:=by
 induction ds with
 | nil=>simp [Dat.deps]
 | cons x xs ih=>
  have hi : ∀ ys : List Int,Dat.deps (ys.map Dat.i) ≤ 1:=fun ys=>by induction ys with | nil=>simp [Dat.deps] | cons y ys ih=>simp only [List.map_cons,Dat.deps,Dat.dep]; omega
  have:=hi x.row
  simp only [List.map_cons,Dat.deps,Item.d,Dat.dep,Ints.d]
  omega
theorem Items.ofDat3 {h : Heap} {z : List Item} {v : AVal} {F : List Nat} (ho : Own h (Items.d z) v F) : snapF h 4194303 v = some (Items.enc z):=by
 have:=((dat_snap (h:=h) _).1 (Items.d z) v F 4194302 (Nat.le_refl _) ho (by have:=items_dep z; simp only [Items.d,Dat.dep]; omega)).1
 rw [Items.d_enc] at this
 exact this
theorem Sepa.acdSee {h : Heap} {L : List Chunk} {z : List Item} {v : AVal} {F : List Nat} (S : Sepa h (.acd 2 (z.map Item.d) v F :: L)) : Sepa h (.see v (Items.enc z) F :: L):=by
 have h1 : AcD 2 h (z.map Item.d) v F:=S.get 0 rfl
 exact S.is (c':=.see v (Items.enc z) F) ⟨Own.lt h1.1,fun h' hf=>Items.ofDat3 (Own.frame h1.1 hf)⟩ rfl
def bentZ (z : List Item) : Prop:=zsm z ∧ z.length ≤ 200 ∧ (zOk z = false ∨ ∃ w : Nat,∀ x ∈ z,x.row.length = w)
theorem drawnZ_bent {wide : Int} {most : Nat} {z : List Item} (hz : drawnZ wide most z) (hw : wide ≤ 10) (hm : most ≤ 20) : bentZ z:=
 ⟨⟨by have:=hz.1; simp [big]; omega,drawnZ_big hz hw⟩,by have:=hz.1; omega,.inr ⟨wide.toNat,fun x hx=>by have:=(hz.2 x hx).1; omega⟩⟩
theorem zGo_rowOk : ∀ (z : List Item) (q : Option (List Int)),zGo q z = true → ∀ x ∈ z,rowOk x.row = true ∧ wOk x.w = true
 | [],_,_,x,hx=>by simp at hx
 | y :: ys,q,hq,x,hx=>by
  simp only [zGo,Bool.and_eq_true] at hq
  rcases List.mem_cons.1 hx with rfl | hx
  ·exact ⟨hq.1.1,hq.1.2.1⟩
  ·exact zGo_rowOk ys _ hq.2 x hx
theorem zOk_rowOk {z : List Item} (h : zOk z = true) : ∀ x ∈ z,rowOk x.row = true ∧ wOk x.w = true:=by
 simp only [zOk,Bool.and_eq_true] at h
 exact zGo_rowOk z none h.2
theorem zOk_no_empty {A B : List Item} {w : Int} : zOk (A ++ ⟨[],w⟩ :: B) = false:=by
 cases h : zOk (A ++ ⟨[],w⟩ :: B) with
 | false=>rfl
 | true=>
  have:=(zOk_rowOk h ⟨[],w⟩ (by simp)).1
  simp [rowOk] at this
theorem zOk_long {z : List Item} (h : 100 < z.length) : zOk z = false:=by
 unfold zOk
 rw [decide_eq_false (by omega)]
 rfl
theorem split_at {z : List Item} {y : Int} (h0 : 0 ≤ y) (h1 : y < z.length) : ∃ A b B,z = A ++ b :: B ∧ A.length = y.toNat:=by
 have hl : y.toNat < z.length:=by omega
 exact ⟨z.take y.toNat,z[y.toNat],z.drop (y.toNat + 1),by rw [← List.drop_eq_getElem_cons hl,List.take_append_drop],by simp; omega⟩
theorem putZ_new {z : List Item} {r : List Int} {w : Int} (hw : (w == 0) = false) (h : ∀ x ∈ z,rowSame x.row r = false) : (putZ z r w).length = z.length + 1:=by
 induction z with
 | nil=>unfold putZ; rw [hw]; rfl
 | cons x xs ih=>
  unfold putZ
  rw [h x (by simp),hw]
  split
  ·rw [List.length_cons,ih fun y hy=>h y (by simp [hy]),List.length_cons]
  ·rfl
theorem rowSame_hd {a b : Int} {r s : List Int} (h : a ≠ b) : rowSame (a :: r) (b :: s) = false:=by
 simp [rowSame,listEq,h]
theorem mapO_mem {f : AVal → Option AVal} : ∀ {l r : List AVal} {i : Nat} {x y : AVal},mapO f l = some r → l[i]? = some x → r[i]? = some y → f x = some y:=fun h h1 h2=>(mapO_some h).2 _ _ _ h1 h2
theorem twice_see {h : Heap} {z : List Item} {b : Item} {vs : List AVal} {e : AVal} {Fs : List Nat} {L : List Chunk} {k : Nat} (S : Sepa h (.row k (.arr 2 (vs ++ [e])) :: .dats (z.map Item.d) vs Fs :: L)) (hb : z[0]? = some b) (he : vs[0]? = some e) :
  Sepa h (.see (.own k 0 (vs ++ [e]).length) (Items.enc (z ++ [b])) (k :: Fs) :: L):=by
   refine S.merge (e:=.see (.own k 0 (vs ++ [e]).length) (Items.enc (z ++ [b])) (k :: Fs)) ⟨fun id hid=>?_,fun h' hf=>?_⟩ (fun id hid=>?_) ?_
   ·rcases List.mem_cons.1 hid with rfl | hid
    ·exact get_lt (S.row 0 rfl)
    ·exact S.lt 1 rfl id hid
   ·have hk : h'[k]? = some (.arr 2 (vs ++ [e])):=by rw [hf k (by simp)]; exact S.row 0 rfl
    have ho : Owns h' (z.map Item.d) vs Fs:=Owns.frame (show Owns h (z.map Item.d) vs Fs from S.get 1 rfl) fun id hid=>hf id (by simp [hid])
    have hm:=(dat_snap (h:=h') _).2.1 (z.map Item.d) vs Fs 4194301 (Nat.le_refl _) ho (by have:=items_dep z; omega)
    rw [encs_dat Item.d_enc] at hm
    have h1 : snapF h' 4194302 e = some b.enc:=mapO_mem hm he (by rw [List.getElem?_map,hb]; rfl)
    show (match h'[k]? with
     | some (.arr _ es')=>if 0 + (vs ++ [e]).length ≤ es'.length then (mapO (snapF h' 4194302) ((es'.drop 0).take (vs ++ [e]).length)).map AVal.sl else none
     | _=>none) = _
    rw [hk]
    simp only [Nat.zero_add,Nat.le_refl,if_true,List.drop_zero,List.take_length]
    rw [mapO_app _ vs [e] hm (show mapO (snapF h' 4194302) [e] = some [b.enc] by simp only [mapO,h1])]
    simp [Items.enc]
   ·rcases List.mem_cons.1 hid with rfl | hid
    ·exact .inl (by simp [Chunk.row])
    ·exact .inr hid
   ·refine List.nodup_cons.2 ⟨fun hm=>?_,(S.get' 1 _ rfl).2⟩
    exact S.apart 0 1 _ _ (by omega) rfl rfl k (by simp [Chunk.row]) hm
theorem callL2Bent (hp : Okp pr) {h : Heap} {L : List Chunk} {k n : Nat} (S : Sepa h (.rd k n :: L)) (hn : n ≤ 700000000000) {K : ARes → Prop}
  (hK : ∀ (z : List Item) v F h',bentZ z → Sepa h' (.rd k (n + 410) :: .see v (Items.enc z) F :: L) → K (.ret v h')) :
  ∃ r,callM (cfp pr) (call (cfp pr)) 30 [.ptr k 0 0] h = some r ∧ K r:=by
   rw [callF rfl]
   refine wpFL_sound (hp.out _ rfl) ?_
   conv=>whnf
   refine callPick hp _ S (by omega) fun x h1 hx S1=>?_
   clear S
   conv=>whnf
   have hw : IntKind.i64.wrap (1 + x) = 1 + x:=by unfold inR at hx; rw [IntKind.wrap_i64]; omega
   rw [hw]
   have hx3 : 1 + x ≤ 10:=by unfold inR at hx; omega
   refine callL2Z hp (1 + x) 6 hx3 (by omega) S1 (by omega) fun z D F h2 hz S=>?_
   clear S1
   have hb:=drawnZ_bent hz hx3 (by omega)
   rcases Sepa.acdOpen S.swap with ⟨h0,rfl,S1⟩ | ⟨id,vs,Fs,rfl,S1⟩
   ·conv=>whnf
    exact ⟨_,rfl,hK z _ _ _ hb (Sepa.rdMore (S.front 1 rfl |> Sepa.acdSee |> Sepa.swap) (by omega))⟩
   rw [List.length_map] at *
   have hvl : vs.length = z.length:=by have:=Owns_len (S1.get 1 rfl); simpa using this
   conv=>whnf
   refine bsel_intro (fun g1=>?_) (fun g1=>?_)
   ·conv=>whnf
    exact ⟨_,rfl,hK z _ _ _ hb (Sepa.rdMore (S.front 1 rfl |> Sepa.acdSee |> Sepa.swap) (by omega))⟩
   have hzl : 0 < z.length:=by simp at g1; exact List.length_pos_iff.2 g1
   clear S
   have S:=S1.front 2 rfl
   dsimp only [List.eraseIdx] at S
   clear S1
   conv=>whnf
   refine callPick hp _ S (by omega) fun y h3 hy S1=>?_
   clear S
   conv=>whnf
   refine callPick hp _ S1 (by omega) fun c h4 hc S=>?_
   clear S1
   have hy1 : 0 ≤ y ∧ y < z.length:=by unfold inR at hy; omega
   have hzr:=drawnZ_big hz hx3
   have hzl2 : z.length ≤ 6:=hz.1
   conv=>whnf
   refine bsel_intro (fun g2=>?_) (fun g2=>?_)
   ·obtain ⟨A,b,B,rfl,hA⟩:=split_at hy1.1 hy1.2
    conv=>whnf
    intro k3 a3 hk3 hh3
    replace S:=(S.alloc hk3 hh3).swap
    conv=>whnf
    refine callNum hp [0,10000,10001,-10000] (by simp) (by simp) S (by omega) fun w h5 hw1 S1=>?_
    clear S hk3 hh3
    have S:=S1.front 2 rfl
    dsimp only [List.eraseIdx] at S
    obtain ⟨VA,P,VB,F0,G,F2,rfl,hVA,S2⟩:=Sepa.datsAt S
    clear S S1
    have S:=S2.front 4 rfl
    dsimp only [List.eraseIdx] at S
    clear S2
    have hidx : 0 + y.toNat = VA.length:=by rw [hVA,hA]; simp
    have hll : (A ++ b :: B).length = A.length + (B.length + 1):=by simp
    conv=>whnf
    refine ⟨_,S.row 0 rfl,⟨by omega,by omega⟩,?_⟩
    conv=>whnf
    refine ⟨_,rfl,rfl,rfl,.inr ⟨_,_,_,S.row 0 rfl,rowGet hidx,?_⟩⟩
    conv=>whnf
    intro h6 hh_h6
    replace S:=S.setRow 0 (e':=(.agg [P,i64 w])) rfl hidx hh_h6
    clear hh_h6
    dsimp only [List.set] at S
    conv=>whnf
    have S2:=((S.front 3 rfl).front 3 rfl).front 3 rfl
    dsimp only [List.eraseIdx] at S2
    obtain ⟨F3,S3⟩:=Sepa.datsOf (w:=w) S2
    have S4:=Sepa.acdSee (Sepa.acdClose (n:=(A ++ b :: B).length) S3.swap (by simp))
    refine ⟨_,rfl,hK (A ++ ⟨b.row,w⟩ :: B) _ _ _ ⟨⟨by simp [big] at *; omega,fun x hx=>?_⟩,by simp at *; omega,?_⟩ (Sepa.rdMore S4.swap (by omega))⟩
    ·rcases List.mem_append.1 hx with h | h
     ·exact hzr x (by simp [h])
     ·rcases List.mem_cons.1 h with rfl | h
      ·exact hzr b (by simp)
      ·exact hzr x (by simp [h])
    ·refine .inr ⟨(1 + x).toNat,fun x' hx'=>?_⟩
     have hzz:=hz.2
     rcases List.mem_append.1 hx' with h | h
     ·have:=(hzz x' (by simp [h])).1; omega
     ·rcases List.mem_cons.1 h with rfl | h
      ·have:=(hzz b (by simp)).1; show b.row.length = _; omega
      ·have:=(hzz x' (by simp [h])).1; omega
   conv=>whnf
   refine bsel_intro (fun g3=>?_) (fun g3=>?_)
   ·obtain ⟨A,b,B,rfl,hA⟩:=split_at hy1.1 hy1.2
    replace S:=S.front 2 rfl
    dsimp only [List.eraseIdx] at S
    obtain ⟨VA,P,VB,F0,G,F2,rfl,hVA,S2⟩:=Sepa.datsAt S
    clear S
    have S:=S2.front 4 rfl
    dsimp only [List.eraseIdx] at S
    clear S2
    have hidx : 0 + y.toNat = VA.length:=by rw [hVA,hA]; simp
    have hll : (A ++ b :: B).length = A.length + (B.length + 1):=by simp
    conv=>whnf
    refine ⟨_,S.row 0 rfl,⟨by omega,by omega⟩,?_⟩
    conv=>whnf
    refine ⟨_,rfl,rfl,rfl,.inr ⟨_,_,_,S.row 0 rfl,rowGet hidx,?_⟩⟩
    conv=>whnf
    intro h6 hh_h6
    replace S:=S.setRow 0 (e':=(.agg [.nil,i64 b.w])) rfl hidx hh_h6
    clear hh_h6
    dsimp only [List.set] at S
    conv=>whnf
    have S2:=((S.drop 2).more (c:=.dat (Ints.d []) .nil []) (List.prefix_refl _) (by show Own _ _ _ _; simp [Ints.d,Own]) (by simp [Chunk.dat]) (by simp [Chunk.dat]))
    dsimp only [List.eraseIdx] at S2
    replace S2:=S2.front 2 rfl
    dsimp only [List.eraseIdx] at S2
    replace S2:=((S2.front 3 rfl).front 2 rfl).front 2 rfl
    dsimp only [List.eraseIdx] at S2
    obtain ⟨F3,S3⟩:=Sepa.datsOf (w:=b.w) S2
    have S4:=Sepa.acdSee (Sepa.acdClose (n:=(A ++ b :: B).length) S3.swap (by simp))
    refine ⟨_,rfl,hK (A ++ ⟨[],b.w⟩ :: B) _ _ _ ⟨⟨by simp [big] at *; omega,fun x hx=>?_⟩,by simp at *; omega,.inl zOk_no_empty⟩ (Sepa.rdMore S4.swap (by omega))⟩
    rcases List.mem_append.1 hx with h | h
    ·exact hzr x (by simp [h])
    ·rcases List.mem_cons.1 h with rfl | h
     ·simp
     ·exact hzr x (by simp [h])
   conv=>whnf
   refine bsel_intro (fun g4=>?_) (fun g4=>?_)
   ·cases z with
    | nil=>simp at hzl
    | cons b B=>
    obtain ⟨P,F1,hv0,hP⟩:=dats_at (A:=[]) (x:=b) (B:=B) (S.drop 0)
    conv=>whnf
    refine ⟨_,S.row 1 rfl,⟨by omega,by simp⟩,?_⟩
    conv=>whnf
    refine .inr ⟨_,_,_,S.row 1 rfl,hv0,LoadG_intro (v:=.agg [P,i64 b.w]) rfl ?_⟩
    conv=>whnf
    intro kv_ hv_ hkv_ hhv_
    replace S:=S.alloc hkv_ hhv_
    conv=>whnf
    refine ⟨trivial,?_⟩
    conv=>whnf
    refine ⟨[_],elems_row1 (S.row 0 rfl),elem_agg rfl (allc hP.cell.2 rfl),?_⟩
    replace S:=S.drop 0
    dsimp only [List.eraseIdx] at S
    rw [← hvl]
    refine AppR_own (i:=1) S rfl (by simp [sizeLim]; omega) fun k6 h6 S1=>?_
    dsimp only [List.eraseIdx] at S1
    have S2:=twice_see (S1.front 2 rfl |> Sepa.swap) (b:=b) rfl hv0
    conv=>whnf
    refine ⟨_,rfl,hK (b :: B ++ [b]) _ _ _ ⟨⟨by simp [big] at *; omega,fun x hx=>?_⟩,by simp at *; omega,.inr ⟨(1 + x).toNat,fun x' hx'=>?_⟩⟩ (Sepa.rdMore S2.swap (by omega))⟩
    ·rcases List.mem_append.1 hx with h | h
     ·exact hzr x h
     ·simp at h; subst h; exact hzr _ (by simp)
    ·have hzz:=hz.2
     rcases List.mem_append.1 hx' with h | h
     ·have:=(hzz x' h).1; omega
     ·simp at h; subst h
      have:=(hzz x' (by simp)).1; omega
   conv=>whnf
   refine bsel_intro (fun g5=>?_) (fun g5=>?_)
   ·conv=>whnf
    have S1:=Sepa.acdClose (n:=z.length) (S.front 2 rfl |> fun S=>S.front 2 rfl) (by simp)
    clear S
    have S : Sepa h4 (.rd k (n + 403) :: .acd 2 (z.map Item.d) (.own id 0 z.length) (id :: Fs) :: L):=S1.swap
    clear S1
    have hz5 : ∀ x ∈ z,∀ c ∈ x.row,c ≤ 5:=fun x hx c hc=>((hz.2 x hx).2 c hc).2
    have hrl : ∀ x ∈ z,x.row.length ≤ big:=hzr
    refine loopL (fun m tm hp=>∃ (j : Nat) (D : AVal) (F : List Nat) (y : List Item),j + m = 101 ∧ tm 3 = D ∧ tm 5 = i64 (j : Nat) ∧ Sepa hp (.rd k (n + 403) :: .acd 2 (y.map Item.d) D F :: L) ∧ (y.length = z.length + j ∧ (∀ x ∈ y,x.row.length ≤ big) ∧ ∀ x ∈ y,(∀ c ∈ x.row,c ≤ 5) ∨ ∃ i : Nat,i < j ∧ x.row = [10 + (i : Int)])) (fun m tm hq hfr hI=>?_) (101) ⟨0,.own id 0 z.length,id :: Fs,z,by simp,rfl,rfl,S,(⟨rfl,hrl,fun x hx=>.inl (hz5 x hx)⟩)⟩
    obtain ⟨j,D,F,y,hj,e3,e5,S2,hy⟩:=hI
    have k0:=hfr 0 (by kernel_rfl)
    conv at k0=>rhs; whnf
    refine ⟨[(0,_),(3,_),(5,_)],⟨k0,e3,e5,trivial⟩,?_⟩
    clear hfr k0 e3 e5
    replace S:=S2
    clear S2
    conv=>whnf
    obtain ⟨hy1,hy2,hy3⟩:=hy
    refine bsel_intro (fun g6=>?_) (fun g6=>?_)
    ·have hjb : j < 4611686018427387904:=by simp at g6; omega
     have hj : j < 101:=by simp at g6; omega
     have hw10 : IntKind.i64.wrap (10 + (j : Int)) = 10 + (j : Int):=by rw [IntKind.wrap_i64]; omega
     conv=>whnf
     rw [hw10]
     intro k7 a7 hk7 hh7
     have S1:=S.alloc hk7 hh7
     replace S1 : Sepa a7 (.acc i64 1 [10 + (j : Int)] (.own k7 0 1) :: _):=S1.is (c':=.acc i64 1 [10 + (j : Int)] (.own k7 0 1)) (.inr ⟨k7,rfl,S1.row 0 rfl⟩) rfl
     have S2:=S1.front 2 rfl
     dsimp only [List.eraseIdx] at S2
     clear S1 S
     have hne : ∀ x ∈ y,rowSame x.row [10 + (j : Int)] = false:=fun x hx=>by
      rcases hy3 x hx with h | ⟨i,hi,e⟩
      ·cases hxr : x.row with
       | nil=>rfl
       | cons c cs=>
        have:=h c (by rw [hxr]; simp)
        exact rowSame_hd (by omega)
      ·rw [e]
       exact rowSame_hd (by omega)
     conv=>whnf
     refine callPut hp y [10 + (j : Int)] 1 _ (by simp [big]; omega) hy2 (by simp [big]) S2 (fun h' S'=>Ints.snap ((Sepa.accInts S').get 0 rfl)) fun v' h8 F' S3=>?_
     conv=>whnf
     refine ⟨m - 1,by omega,j + 1,_,_,_,by omega,rfl,nat_step j hjb,(S3.drop 1).swap,?_,putZ_zsm hy2 (by simp [big]),fun x hx=>?_⟩
     ·rw [putZ_new rfl hne]; omega
     ·rcases putZ_mem x hx with e | ⟨u,hu,e⟩
      ·exact .inr ⟨j,by omega,e⟩
      ·rw [e]
       rcases hy3 u hu with h | ⟨i,hi,e⟩
       ·exact .inl h
       ·exact .inr ⟨i,by omega,e⟩
    ·have hj : j = 101:=by simp at g6; omega
     subst hj
     conv=>whnf
     exact ⟨_,rfl,hK y _ _ _ ⟨⟨by simp [big]; omega,hy2⟩,by omega,.inl (zOk_long (by omega))⟩ (Sepa.rdMore (Sepa.acdSee S.swap).swap (by omega))⟩
   conv=>whnf
   have S1:=Sepa.acdSee (Sepa.acdClose (n:=z.length) (S.front 2 rfl |> fun S=>S.front 2 rfl) (by simp))
   exact ⟨_,rfl,hK z _ _ _ hb (Sepa.rdMore S1.swap (by omega))⟩
theorem callL5Wide (hp : Okp pr) {h : Heap} {L : List Chunk} {k n : Nat} (S : Sepa h (.rd k n :: L)) (hn : n ≤ 600000000000) {K : ARes → Prop}
  (hK : ∀ (z : List Item) (wide : Int) v F h',bentZ z → 1 ≤ wide → wide ≤ 3 → Sepa h' (.rd k (n + 500) :: .see v (Items.enc z) F :: L) → K (.ret (.tup [v,i64 wide]) h')) :
  ∃ r,callM (cfp pr) (call (cfp pr)) 12 [.ptr k 0 0] h = some r ∧ K r:=by
   rw [callF rfl]
   refine wpFL_sound (hp.out _ rfl) ?_
   conv=>whnf
   refine callPick hp _ S (by omega) fun x h1 hx S1=>?_
   clear S
   have hx3 : 0 ≤ x ∧ x < 3:=by unfold inR at hx; omega
   conv=>whnf
   have hw : IntKind.i64.wrap (1 + x) = 1 + x:=by rw [IntKind.wrap_i64]; omega
   rw [hw]
   refine callPick hp _ S1 (by omega) fun y h2 hy S=>?_
   clear S1
   conv=>whnf
   refine bsel_intro (fun g1=>?_) (fun g1=>?_)
   ·conv=>whnf
    refine callL2Bent hp S (by omega) fun z v F h3 hz S1=>?_
    conv=>whnf
    exact ⟨_,rfl,hK z (1 + x) v F _ hz (by omega) (by omega) (Sepa.rdMore S1 (by omega))⟩
   ·conv=>whnf
    refine callL2Z hp (1 + x) 7 (by omega) (by omega) S (by omega) fun z D F h2 hz S1=>?_
    conv=>whnf
    exact ⟨_,rfl,hK z (1 + x) D F _ (drawnZ_bent hz (by omega) (by omega)) (by omega) (by omega) (Sepa.rdMore (Sepa.acdSee S1.swap).swap (by omega))⟩
end Go.Proofs.YtebciagembenjaaDoor

/- The reference's rows and items; items put into items of one's own. -/
import Derived.Test.YtncgofhhnhebjaaGreatGH33
import Derived.Test.YtncgofhhnhebjaaGreatGH32
set_option linter.unusedVariables false
set_option linter.unusedSimpArgs false
/- Copies of items. -/
set_option maxHeartbeats 4000000
namespace Go.Proofs.YtncgofhhnhebjaaGreat
open Go Go.Am
variable {pr : Prims} (hp : Okp pr)
set_option maxRecDepth 100000
theorem item_of {h : Heap} {L : List Chunk} {row : List Int} {w : Int} {A : AVal} {F : List Nat} (S : Sepa h (.dat (Ints.d row) A F :: L)) : Sepa h (.dat (Item.d ⟨row,w⟩) (.agg [A,i64 w]) (F ++ []) :: L):=
 S.is (c':=.dat (Item.d ⟨row,w⟩) (.agg [A,i64 w]) (F ++ [])) (Own_g.2 ⟨_,rfl,OwnC_one (S.get 0 rfl) (OwnC_int OwnC_no)⟩) (by simp [Chunk.dat])
theorem iCopyItems_n (hp : Okc pr) (z : List Item) (hz : z.length ≤ big ∧ ∀ x ∈ z,x.row.length ≤ 1048576) : RetD pr 75 [.sl (z.map Item.enc)] (Items.d z):=by
 obtain ⟨hl,hr⟩:=hz
 refine retD_of hp.toOkp rfl ?_
 have S : Sepa [] []:=Sepa.nil []
 conv=>whnf
 replace S:=Sepa.acd0 2 S
 refine loopG (fun m tm hp=>∃ (j : Nat) (D : AVal) (F : List Nat),j + m = z.length ∧ tm 8 = i64 (j : Nat) ∧ tm 3 = D ∧ Sepa hp [.acd 2 ((z.take j).map Item.d) D F]) (fun m tm hq hfr hI=>?_) (z.length) ⟨0,.nil,[],by simp,(by first | rfl | kernel_rfl | simp),(by first | rfl | kernel_rfl | simp),S⟩
 obtain ⟨j,D,F,hj,e8,e3,S2⟩:=hI
 have k6:=hfr 6 (by kernel_rfl)
 conv at k6=>rhs; whnf
 rw [← upd_id k6]
 have k7:=hfr 7 (by kernel_rfl)
 conv at k7=>rhs; whnf
 rw [← upd_id k7]
 rw [← upd_id e8]
 rw [← upd_id e3]
 clear hfr k6 k7 e8 e3
 clear S
 have S:=S2
 clear S2
 conv=>whnf
 have hjb : j < 4611686018427387904:=by simp [big] at hl; omega
 refine bsel_intro (fun h1=>?_) (fun h1=>?_)
 ·have hjl : j < z.length:=by simpa using h1
  have hge : (z.map Item.enc)[((j : Nat) : Int).toNat]? = some (Item.enc z[j]):=by rw [Int.toNat_natCast]; simp [hjl]
  have hih:=RetL.toD (hp.cloneI z[j].row (hr _ (List.getElem_mem hjl)))
  have htk:=congrArg (List.map Item.d) (take_snoc hjl)
  rw [List.map_append] at htk
  generalize z[j] = x at hge hih htk
  obtain ⟨row,w⟩:=x
  conv=>whnf
  refine ⟨_,hge,by omega,rfl,?_⟩
  iterate 4
   all_goals (try (conv=>whnf))
   all_goals (first | (intro ka_ ha_ hk_ hh_; replace S:=S.alloc hk_ hh_) | (refine .inl ⟨_,S.row 0 rfl,rfl,?_⟩) | (refine .inl ⟨_,S.row 1 rfl,rfl,?_⟩) | (refine .inl ⟨_,S.row 2 rfl,rfl,?_⟩) | (refine .inl ⟨_,S.row 3 rfl,rfl,?_⟩) | (refine .inl ⟨_,S.row 4 rfl,rfl,?_⟩) | (refine ⟨_,rfl,rfl,rfl,.inl ⟨_,S.row 0 rfl,rfl,?_⟩⟩; (conv=>whnf); intro ha_ hh_; replace S:=S.set 0 rfl hh_; dsimp only [List.set] at S) | (refine ⟨_,rfl,rfl,rfl,.inl ⟨_,S.row 1 rfl,rfl,?_⟩⟩; (conv=>whnf); intro ha_ hh_; replace S:=S.set 1 rfl hh_; dsimp only [List.set] at S) | (refine ⟨_,rfl,rfl,rfl,.inl ⟨_,S.row 2 rfl,rfl,?_⟩⟩; (conv=>whnf); intro ha_ hh_; replace S:=S.set 2 rfl hh_; dsimp only [List.set] at S) | (refine ⟨_,rfl,rfl,rfl,.inl ⟨_,S.row 3 rfl,rfl,?_⟩⟩; (conv=>whnf); intro ha_ hh_; replace S:=S.set 3 rfl hh_; dsimp only [List.set] at S) | (refine ⟨_,rfl,rfl,rfl,.inl ⟨_,S.row 4 rfl,rfl,?_⟩⟩; (conv=>whnf); intro ha_ hh_; replace S:=S.set 4 rfl hh_; dsimp only [List.set] at S) | (refine bsel_intro (fun hb=>?_) (fun hb=>?_)) | skip)
  refine callD S hih rfl rfl fun A q1 F1 o1 S1=>?_
  replace S:=S1
  clear S1
  iterate 2
   all_goals (try (conv=>whnf))
   all_goals (first | (refine cellsG_intro o1.cell.1 ?_) | (intro ka_ ha_ hk_ hh_; replace S:=S.alloc hk_ hh_) | (refine .inl ⟨_,S.row 0 rfl,rfl,?_⟩) | (refine .inl ⟨_,S.row 1 rfl,rfl,?_⟩) | (refine .inl ⟨_,S.row 2 rfl,rfl,?_⟩) | (refine .inl ⟨_,S.row 3 rfl,rfl,?_⟩) | (refine .inl ⟨_,S.row 4 rfl,rfl,?_⟩) | (refine ⟨_,rfl,rfl,rfl,.inl ⟨_,S.row 0 rfl,rfl,?_⟩⟩; (conv=>whnf); intro ha_ hh_; replace S:=S.set 0 rfl hh_; dsimp only [List.set] at S) | (refine ⟨_,rfl,rfl,rfl,.inl ⟨_,S.row 1 rfl,rfl,?_⟩⟩; (conv=>whnf); intro ha_ hh_; replace S:=S.set 1 rfl hh_; dsimp only [List.set] at S) | (refine ⟨_,rfl,rfl,rfl,.inl ⟨_,S.row 2 rfl,rfl,?_⟩⟩; (conv=>whnf); intro ha_ hh_; replace S:=S.set 2 rfl hh_; dsimp only [List.set] at S) | (refine ⟨_,rfl,rfl,rfl,.inl ⟨_,S.row 3 rfl,rfl,?_⟩⟩; (conv=>whnf); intro ha_ hh_; replace S:=S.set 3 rfl hh_; dsimp only [List.set] at S) | (refine ⟨_,rfl,rfl,rfl,.inl ⟨_,S.row 4 rfl,rfl,?_⟩⟩; (conv=>whnf); intro ha_ hh_; replace S:=S.set 4 rfl hh_; dsimp only [List.set] at S) | (refine bsel_intro (fun hb=>?_) (fun hb=>?_)) | skip)
  conv=>whnf
  intro kv hv hkv hhv
  replace S:=S.alloc hkv hhv
  conv=>whnf
  refine ⟨trivial,?_⟩
  conv=>whnf
  refine ⟨[_],elems_row1 (S.row 0 rfl),elem_agg rfl (allc o1.cell.2 rfl),?_⟩
  replace S:=S.pick [3,1] (by decide)
  simp only [pickL,List.getElem?_cons_zero,List.getElem?_cons_succ] at S
  replace S:=(item_of (w:=w) S.swap).swap
  refine appD S (by simp [sizeLim,big] at *; omega) fun k h2 F2 S2=>?_
  conv=>whnf
  exact ⟨m - 1,by omega,j + 1,_,_,by omega,nat_step j hjb,rfl,by rw [htk]; exact S2⟩
 ·have hjl : j = z.length := by have : ¬ j < z.length := by simpa using h1
                                omega
  subst hjl
  conv=>whnf
  rw [List.take_length] at S
  exact ⟨_,rfl,_,_,_,rfl,(Sepa.acdDat S).get 0 rfl,(S.get' 0 _ rfl).2⟩
theorem Sepa.accRow {α : Type} (f : α → AVal) {h : Heap} {L : List Chunk} {sz k : Nat} (s : Sepa h (.row k (.arr sz []) :: L)) : Sepa h (.acc f sz [] (.own k 0 0) :: L):=
 s.is (c':=.acc f sz [] (.own k 0 0)) (.inr ⟨k,rfl,by simpa using s.row 0 rfl⟩) rfl
theorem Sepa.accInts {h : Heap} {L : List Chunk} {xs : List Int} {v : AVal} (s : Sepa h (.acc i64 1 xs v :: L)) : Sepa h (.dat (Ints.d xs) v (accF v) :: L):=
 s.is (c':=.dat (Ints.d xs) v (accF v)) (by
  show Own h (.s 1 (xs.map Dat.i)) v (accF v)
  refine OwnL_i.1 ?_
  have h0 : AccP i64 1 h xs v:=s.get 0 rfl
  rcases h0 with ⟨rfl,rfl⟩ | ⟨id,rfl,h1⟩
  ·exact .inl ⟨rfl,rfl,.inl rfl⟩
  ·exact .inr ⟨id,rfl,h1,rfl⟩) rfl
theorem intsOk (xs : List Int) : (xs.map i64).all (elemOk 1) = true:=by
 rw [List.all_eq_true]; intro y hy; obtain ⟨q,_,rfl⟩:=List.mem_map.1 hy; rfl
theorem l1Copy_n (hp : Okp pr) (xs : List Int) (hl : xs.length ≤ big) : RetD pr 124 [.sl (xs.map i64)] (Ints.d xs):=by
 refine retD_of hp rfl ?_
 have S : Sepa [] []:=Sepa.nil []
 conv=>whnf
 intro k1 a1 hk1 hh1
 replace S:=S.alloc hk1 hh1
 conv=>whnf
 refine ⟨trivial,?_⟩
 conv=>whnf
 refine ⟨_,rfl,intsOk xs,?_⟩
 refine appAccs (ys:=xs) (Sepa.accRow i64 S) (by simp [sizeLim,big] at *; omega) fun D1 w1 hD1 S1=>?_
 conv=>whnf
 exact ⟨_,rfl,_,_,_,rfl,(Sepa.accInts S1).get 0 rfl,((Sepa.accInts S1).get' 0 _ rfl).2⟩
theorem l2Copy_a (hp : Okp pr) (z : List Item) (hz : zsm z) : RetA pr 77 [.sl (z.map Item.enc)] 2 (z.map Item.d):=by
 obtain ⟨hl,hr⟩:=hz
 have hjb : ∀ j,j ≤ z.length → j < 4611686018427387904:=fun j h=>by simp [big] at hl; omega
 refine retA_of hp rfl ?_
 have S : Sepa [] []:=Sepa.nil []
 conv=>whnf
 intro k1 a1 hk1 hh1
 replace S:=Sepa.acdRow (S.alloc hk1 hh1)
 conv=>whnf
 refine loopG (fun m tm hp=>∃ (j : Nat) (D : AVal) (F : List Nat),j + m = z.length ∧ tm 3 = D ∧ tm 4 = i64 (j : Nat) ∧ Sepa hp [.acd 2 ((z.take j).map Item.d) D F]) (fun m tm hq hfr hI=>?_) (z.length) ⟨0,.own k1 0 0,[k1],by simp,(by first | rfl | kernel_rfl | simp),(by first | rfl | kernel_rfl | simp),S⟩
 obtain ⟨j,D,F,hj,e3,e4,S2⟩:=hI
 have k0:=hfr 0 (by kernel_rfl)
 conv at k0=>rhs; whnf
 rw [← upd_id k0]
 rw [← upd_id e3]
 rw [← upd_id e4]
 clear hfr k0 e3 e4
 clear S
 have S:=S2
 clear S2
 conv=>whnf
 have hjb:=hjb j (by omega)
 refine bsel_intro (fun h1=>?_) (fun h1=>?_)
 ·have hjl : j < z.length:=by simpa using h1
  have hge : (z.map Item.enc)[((j : Nat) : Int).toNat]? = some (Item.enc z[j]):=by rw [Int.toNat_natCast]; simp [hjl]
  have hih:=l1Copy_n hp z[j].row (hr _ (List.getElem_mem hjl))
  have htk:=congrArg (List.map Item.d) (take_snoc hjl)
  rw [List.map_append] at htk
  generalize z[j] = x at hge hih htk
  obtain ⟨row,w⟩:=x
  conv=>whnf
  refine ⟨_,hge,by omega,rfl,?_⟩
  conv=>whnf
  refine callD S hih rfl rfl fun A q1 F1 o1 S1=>?_
  replace S:=S1
  clear S1
  conv=>whnf
  refine ⟨_,hge,by omega,rfl,?_⟩
  conv=>whnf
  refine cellsG_intro o1.cell.1 ?_
  conv=>whnf
  intro kv_ hv_ hkv_ hhv_
  replace S:=S.alloc hkv_ hhv_
  conv=>whnf
  refine ⟨trivial,?_⟩
  conv=>whnf
  refine ⟨[_],elems_row1 (S.row 0 rfl),elem_agg rfl (allc o1.cell.2 rfl),?_⟩
  replace S:=S.drop 0
  dsimp only [List.eraseIdx] at S
  replace S:=(item_of (w:=w) S).swap
  refine appD S (by simp [sizeLim,big] at *; omega) fun k_ h2 F2 S2=>?_
  conv=>whnf
  exact ⟨m - 1,by omega,j + 1,_,_,by omega,rfl,nat_step j hjb,by rw [htk]; exact S2⟩
 ·have hjl : j = z.length:=by
   have : ¬ j < z.length:=by simpa using h1
   omega
  subst hjl
  conv=>whnf
  rw [List.take_length] at S
  exact ⟨_,rfl,_,_,_,rfl,S.get 0 rfl,(S.get' 0 _ rfl).2⟩
end Go.Proofs.YtncgofhhnhebjaaGreat
/- The program's told, together, at. -/
set_option maxHeartbeats 4000000
namespace Go.Am
open Go
end Go.Am
namespace Go.Proofs.YtncgofhhnhebjaaGreat
open Go Go.Am
variable {pr : Prims} (hp : Okp pr)
set_option maxRecDepth 100000
theorem Items.ofDat {h : Heap} {z : List Item} {v : AVal} {F : List Nat} (ho : Own h (Items.d z) v F) : snap h v = some (Items.enc z):=by
 have:=ho.snap (by
  have : ∀ ds : List Item,Dat.deps (ds.map Item.d) ≤ 3:=fun ds=>by
   induction ds with
   | nil=>simp [Dat.deps]
   | cons x xs ih=>
    have hi : ∀ ys : List Int,Dat.deps (ys.map Dat.i) ≤ 1:=fun ys=>by induction ys with | nil=>simp [Dat.deps] | cons y ys ih=>simp only [List.map_cons,Dat.deps,Dat.dep]; omega
    have:=hi x.row
    simp only [List.map_cons,Dat.deps,Item.d,Dat.dep,Ints.d]
    omega
  have:=this z
  simp only [Items.d,Dat.dep]
  omega)
 rw [this,Items.d_enc]
def toldZ (z : List Item) : List Item × Bool:=if zOk z then (z,true) else ([],false)
theorem zOk_row {z : List Item} (h : zOk z = true) : z.length ≤ 100 ∧ ∀ x ∈ z,x.row.length ≤ 6:=by
 simp only [zOk,Bool.and_eq_true,decide_eq_true_iff] at h
 refine ⟨h.1,?_⟩
 have key : ∀ (z : List Item) (q : Option (List Int)),zGo q z = true → ∀ x ∈ z,x.row.length ≤ 6:=by
  intro z
  induction z with
  | nil=>intro q _ x hx; simp at hx
  | cons y ys ih=>
   intro q hq x hx
   simp only [zGo,Bool.and_eq_true] at hq
   rcases List.mem_cons.1 hx with rfl | hx
   ·have:=hq.1.1
    simp only [rowOk,Bool.and_eq_true,decide_eq_true_iff] at this
    exact this.2.1
   ·exact ih _ hq.2 x hx
 exact key z none h.2
theorem zOk_zsm {z : List Item} (h : zOk z = true) : zsm z:=by
 obtain ⟨h1,h2⟩:=zOk_row h
 exact ⟨by simp [big]; omega,fun x hx=>by have:=h2 x hx; simp [big]; omega⟩
theorem Owns2 {h : Heap} {d1 d2 : Dat} {v1 v2 : AVal} {F1 F2 : List Nat} (h1 : Own h d1 v1 F1) (h2 : Own h d2 v2 F2) : Owns h [d1,d2] [v1,v2] (F1 ++ F2):=by
 simp only [Owns]
 exact ⟨v1,[v2],F1,F2,rfl,rfl,h1,v2,[],F2,[],rfl,by simp,h2,rfl,rfl⟩
theorem OwnB {h : Heap} (b : Bool) : Own h (.b b) (.bool b) []:=by unfold Own; exact ⟨rfl,rfl⟩
theorem OwnI {h : Heap} (x : Int) : Own h (.i x) (i64 x) []:=by unfold Own; exact ⟨rfl,rfl⟩
theorem OwnNil {h : Heap} (sz : Nat) : Own h (.s sz []) .nil []:=by unfold Own; exact .inl ⟨rfl,rfl,.inl rfl⟩
theorem told_n (hp : Okc pr) (z : List Item) (hz : zsm z) : RetT pr 27 [.sl (z.map Item.enc)] [Items.d (toldZ z).1,.b (toldZ z).2]:=by
 have h1:=iZOk_r hp.toOkp z hz
 have h2 : zOk z = true → RetD pr 75 [.sl (z.map Item.enc)] (Items.d z):=fun h=>by
  obtain ⟨g1,g2⟩:=zOk_row h
  exact iCopyItems_n hp z ⟨hz.1,fun x hx=>by have:=g2 x hx; omega⟩
 unfold toldZ
 refine retT_of hp.toOkp rfl ?_
 have S : Sepa [] []:=Sepa.nil []
 conv=>whnf
 refine ⟨_,h1 _,?_⟩
 conv=>whnf
 refine bsel_intro (fun g1=>?_) (fun g1=>?_)
 ·rw [if_pos g1]
  conv=>whnf
  refine callD S (h2 g1) rfl rfl fun A q1 F1 o1 S1=>?_
  conv=>whnf
  exact ⟨_,rfl,_,_,_,rfl,Owns2 o1 (OwnB true),by rw [List.append_nil]; exact (S1.get' 0 _ rfl).2⟩
 ·rw [g1]
  conv=>whnf
  exact ⟨_,rfl,_,_,_,rfl,Owns2 (OwnNil 2) (OwnB false),by simp⟩
theorem together_r (hp : Okp pr) (a b : List Item) (ha : zsm a) (hb : zsm b) : Ret pr 76 [.sl (a.map Item.enc),.sl (b.map Item.enc)] (.sl ((mergeZ a b).map Item.enc)):=by
 have h:=merged_r hp a b ha hb
 refine retg hp rfl rfl ?_
 have S : Sepa [] []:=Sepa.nil []
 conv=>whnf
 refine ⟨_,h _,?_⟩
 conv=>whnf
 exact ⟨_,rfl,_,_,rfl,rfl⟩
theorem mergeZ_zsm {a b : List Item} (ha : zsm a) (hb : zsm b) (hl : a.length + b.length ≤ big) : zsm (mergeZ a b):=by
 refine ⟨Nat.le_trans (mergeZ_len _ a b (Nat.le_refl _)) hl,fun x hx=>?_⟩
 obtain ⟨y,hy,e⟩:=mergeZ_mem _ a b (Nat.le_refl _) x hx
 rw [e]
 rcases hy with hy | hy
 ·exact ha.2 y hy
 ·exact hb.2 y hy
def atZ (at' : Int) : List Item → List Past → List Item
 | z,[]=>z
 | z,p :: ps=>atZ at' (if p.at' ≤ at' then mergeZ z p.out else z) ps
theorem viewAt_r (hp : Okp pr) (v : View) (at' : Int) (hb : zOk v.base = true) (ho : ∀ p ∈ v.pasts,zOk p.out = true) (hl : v.pasts.length ≤ 1000000) : Ret pr 28 [v.enc,i64 at'] (.sl ((atZ at' v.base v.pasts).map Item.enc)):=by
 obtain ⟨⟨⟨kind,n,test,cells,a,b,keys,agg,col,kids⟩,l,r,ks⟩,since,base,pasts⟩:=v
 simp only at hb ho hl
 refine retg hp rfl rfl ?_
 have S : Sepa [] []:=Sepa.nil []
 conv=>whnf
 intro k1 a1 hk1 hh1
 replace S:=S.alloc hk1 hh1
 iterate 3
  all_goals (try (conv=>whnf))
  all_goals (first | (intro ka_ ha_ hk_ hh_; replace S:=S.alloc hk_ hh_) | (refine .inl ⟨_,S.row 0 rfl,rfl,?_⟩) | (refine .inl ⟨_,S.row 1 rfl,rfl,?_⟩) | (refine .inl ⟨_,S.row 2 rfl,rfl,?_⟩) | (refine .inl ⟨_,S.row 3 rfl,rfl,?_⟩) | (refine .inl ⟨_,S.row 4 rfl,rfl,?_⟩) | (refine ⟨_,rfl,rfl,rfl,.inl ⟨_,S.row 0 rfl,rfl,?_⟩⟩; (conv=>whnf); intro ha_ hh_; replace S:=S.set 0 rfl hh_; dsimp only [List.set] at S) | (refine ⟨_,rfl,rfl,rfl,.inl ⟨_,S.row 1 rfl,rfl,?_⟩⟩; (conv=>whnf); intro ha_ hh_; replace S:=S.set 1 rfl hh_; dsimp only [List.set] at S) | (refine ⟨_,rfl,rfl,rfl,.inl ⟨_,S.row 2 rfl,rfl,?_⟩⟩; (conv=>whnf); intro ha_ hh_; replace S:=S.set 2 rfl hh_; dsimp only [List.set] at S) | (refine ⟨_,rfl,rfl,rfl,.inl ⟨_,S.row 3 rfl,rfl,?_⟩⟩; (conv=>whnf); intro ha_ hh_; replace S:=S.set 3 rfl hh_; dsimp only [List.set] at S) | (refine ⟨_,rfl,rfl,rfl,.inl ⟨_,S.row 4 rfl,rfl,?_⟩⟩; (conv=>whnf); intro ha_ hh_; replace S:=S.set 4 rfl hh_; dsimp only [List.set] at S) | (refine bsel_intro (fun hb=>?_) (fun hb=>?_)) | skip)
 have hz0 : zsm base ∧ base.length ≤ 100 + 100 * 0:=⟨zOk_zsm hb,by have:=(zOk_row hb).1; omega⟩
 conv=>whnf
 refine loopG (fun m tm hp=>∃ (j : Nat) (z : List Item),j + m = pasts.length ∧ tm 5 = Items.enc z ∧ tm 13 = i64 (j : Nat) ∧ (zsm z ∧ z.length ≤ 100 + 100 * j) ∧ (atZ at' base pasts = atZ at' z (pasts.drop j))) (fun m tm hq hfr hI=>?_) (pasts.length) ⟨0,base,by simp,(by first | rfl | kernel_rfl | simp),(by first | rfl | kernel_rfl | simp),(hz0),(rfl)⟩
 obtain ⟨j,z,hj,e5,e13,hz,hall⟩:=hI
 have k1:=hfr 1 (by kernel_rfl)
 conv at k1=>rhs; whnf
 rw [← upd_id k1]
 have k11:=hfr 11 (by kernel_rfl)
 conv at k11=>rhs; whnf
 rw [← upd_id k11]
 have k12:=hfr 12 (by kernel_rfl)
 conv at k12=>rhs; whnf
 rw [← upd_id k12]
 rw [← upd_id e5]
 rw [← upd_id e13]
 clear hfr k1 k11 k12 e5 e13
 have S : Sepa hq []:=Sepa.nil hq
 conv=>whnf
 have hjb : j < 4611686018427387904:=by omega
 refine bsel_intro (fun h1=>?_) (fun h1=>?_)
 ·have hjl : j < pasts.length:=by simpa using h1
  have hge : (pasts.map Past.enc)[((j : Nat) : Int).toNat]? = some (Past.enc pasts[j]):=by rw [Int.toNat_natCast]; simp [hjl]
  rw [List.drop_eq_getElem_cons hjl] at hall
  have hx:=ho _ (List.getElem_mem hjl)
  generalize pasts[j] = x at hge hall hx
  obtain ⟨t,out⟩:=x
  have h2:=together_r hp z out hz.1 (zOk_zsm hx)
  have hx2 : out.length ≤ 100:=(zOk_row hx).1
  simp only [atZ] at hall
  conv=>whnf
  refine ⟨_,hge,by omega,rfl,?_⟩
  iterate 3
   all_goals (try (conv=>whnf))
   all_goals (first | (intro ka_ ha_ hk_ hh_; replace S:=S.alloc hk_ hh_) | (refine .inl ⟨_,S.row 0 rfl,rfl,?_⟩) | (refine .inl ⟨_,S.row 1 rfl,rfl,?_⟩) | (refine .inl ⟨_,S.row 2 rfl,rfl,?_⟩) | (refine .inl ⟨_,S.row 3 rfl,rfl,?_⟩) | (refine .inl ⟨_,S.row 4 rfl,rfl,?_⟩) | (refine ⟨_,rfl,rfl,rfl,.inl ⟨_,S.row 0 rfl,rfl,?_⟩⟩; (conv=>whnf); intro ha_ hh_; replace S:=S.set 0 rfl hh_; dsimp only [List.set] at S) | (refine ⟨_,rfl,rfl,rfl,.inl ⟨_,S.row 1 rfl,rfl,?_⟩⟩; (conv=>whnf); intro ha_ hh_; replace S:=S.set 1 rfl hh_; dsimp only [List.set] at S) | (refine ⟨_,rfl,rfl,rfl,.inl ⟨_,S.row 2 rfl,rfl,?_⟩⟩; (conv=>whnf); intro ha_ hh_; replace S:=S.set 2 rfl hh_; dsimp only [List.set] at S) | (refine ⟨_,rfl,rfl,rfl,.inl ⟨_,S.row 3 rfl,rfl,?_⟩⟩; (conv=>whnf); intro ha_ hh_; replace S:=S.set 3 rfl hh_; dsimp only [List.set] at S) | (refine ⟨_,rfl,rfl,rfl,.inl ⟨_,S.row 4 rfl,rfl,?_⟩⟩; (conv=>whnf); intro ha_ hh_; replace S:=S.set 4 rfl hh_; dsimp only [List.set] at S) | (refine bsel_intro (fun hb=>?_) (fun hb=>?_)) | skip)
  conv=>whnf
  refine bsel_intro (fun h3=>?_) (fun h3=>?_)
  ·rw [if_pos (by simpa using h3)] at hall
   iterate 3
    all_goals (try (conv=>whnf))
    all_goals (first | (intro ka_ ha_ hk_ hh_; replace S:=S.alloc hk_ hh_) | (refine .inl ⟨_,S.row 0 rfl,rfl,?_⟩) | (refine .inl ⟨_,S.row 1 rfl,rfl,?_⟩) | (refine .inl ⟨_,S.row 2 rfl,rfl,?_⟩) | (refine .inl ⟨_,S.row 3 rfl,rfl,?_⟩) | (refine .inl ⟨_,S.row 4 rfl,rfl,?_⟩) | (refine ⟨_,rfl,rfl,rfl,.inl ⟨_,S.row 0 rfl,rfl,?_⟩⟩; (conv=>whnf); intro ha_ hh_; replace S:=S.set 0 rfl hh_; dsimp only [List.set] at S) | (refine ⟨_,rfl,rfl,rfl,.inl ⟨_,S.row 1 rfl,rfl,?_⟩⟩; (conv=>whnf); intro ha_ hh_; replace S:=S.set 1 rfl hh_; dsimp only [List.set] at S) | (refine ⟨_,rfl,rfl,rfl,.inl ⟨_,S.row 2 rfl,rfl,?_⟩⟩; (conv=>whnf); intro ha_ hh_; replace S:=S.set 2 rfl hh_; dsimp only [List.set] at S) | (refine ⟨_,rfl,rfl,rfl,.inl ⟨_,S.row 3 rfl,rfl,?_⟩⟩; (conv=>whnf); intro ha_ hh_; replace S:=S.set 3 rfl hh_; dsimp only [List.set] at S) | (refine ⟨_,rfl,rfl,rfl,.inl ⟨_,S.row 4 rfl,rfl,?_⟩⟩; (conv=>whnf); intro ha_ hh_; replace S:=S.set 4 rfl hh_; dsimp only [List.set] at S) | (refine bsel_intro (fun hb=>?_) (fun hb=>?_)) | (refine ⟨_,h2 _,?_⟩) | skip)
   conv=>whnf
   exact ⟨m - 1,by omega,j + 1,mergeZ z out,by omega,rfl,nat_step j hjb,⟨mergeZ_zsm hz.1 (zOk_zsm hx) (by simp [big]; omega),by have:=mergeZ_len _ z out (Nat.le_refl _); omega⟩,hall⟩
  ·rw [if_neg (by simpa using h3)] at hall
   conv=>whnf
   exact ⟨m - 1,by omega,j + 1,z,by omega,rfl,nat_step j hjb,⟨hz.1,by omega⟩,hall⟩
 ·have hjl : j = pasts.length:=by
   have : ¬ j < pasts.length:=by simpa using h1
   omega
  subst hjl
  conv=>whnf
  rw [List.drop_length] at hall
  refine ⟨_,rfl,_,_,rfl,?_⟩
  show _ = some (AVal.sl ((atZ at' base pasts).map Item.enc))
  rw [hall]
  rfl
end Go.Proofs.YtncgofhhnhebjaaGreat
/- The reference's rows and items; items put into items of one's own. -/
set_option maxHeartbeats 4000000
namespace Go.Proofs.YtncgofhhnhebjaaGreat
open Go Go.Am
variable {pr : Prims} (hp : Okp pr)
set_option maxRecDepth 100000
theorem sRowOk_r (hp : Okp pr) (xs : List Int) (hl : xs.length ≤ big) : Ret pr 79 [.sl (xs.map i64)] (.bool (rowOk xs)):=by
 refine retg hp rfl rfl ?_
 have S : Sepa [] []:=Sepa.nil []
 conv=>whnf
 refine loopG (fun m tm hp=>∃ (j : Nat),j + m = xs.length ∧ tm 3 = i64 (j : Nat) ∧ (xs.all isCell = (xs.drop j).all isCell)) (fun m tm hq hfr hI=>?_) (xs.length) ⟨0,by simp,(by first | rfl | kernel_rfl | simp),(rfl)⟩
 obtain ⟨j,hj,e3,hall⟩:=hI
 have k0:=hfr 0 (by kernel_rfl)
 conv at k0=>rhs; whnf
 rw [← upd_id k0]
 rw [← upd_id e3]
 clear hfr k0 e3
 have S : Sepa hq []:=Sepa.nil hq
 conv=>whnf
 refine bsel_intro (fun h1=>?_) (fun h1=>?_)
 ·have hjl : j < xs.length:=by simpa using h1
  have hge : (xs.map i64)[((j : Nat) : Int).toNat]? = some (i64 xs[j]):=by rw [Int.toNat_natCast]; simp [hjl]
  have h2:=l1Cell_r hp xs[j]
  rw [List.drop_eq_getElem_cons hjl,List.all_cons] at hall
  generalize xs[j] = x at hge h2 hall
  conv=>whnf
  refine ⟨_,hge,by omega,rfl,?_⟩
  iterate 3
   all_goals (try (conv=>whnf))
   all_goals (first | (intro ka_ ha_ hk_ hh_; replace S:=S.alloc hk_ hh_) | (refine .inl ⟨_,S.row 0 rfl,rfl,?_⟩) | (refine .inl ⟨_,S.row 1 rfl,rfl,?_⟩) | (refine .inl ⟨_,S.row 2 rfl,rfl,?_⟩) | (refine .inl ⟨_,S.row 3 rfl,rfl,?_⟩) | (refine .inl ⟨_,S.row 4 rfl,rfl,?_⟩) | (refine ⟨_,rfl,rfl,rfl,.inl ⟨_,S.row 0 rfl,rfl,?_⟩⟩; (conv=>whnf); intro ha_ hh_; replace S:=S.set 0 rfl hh_; dsimp only [List.set] at S) | (refine ⟨_,rfl,rfl,rfl,.inl ⟨_,S.row 1 rfl,rfl,?_⟩⟩; (conv=>whnf); intro ha_ hh_; replace S:=S.set 1 rfl hh_; dsimp only [List.set] at S) | (refine ⟨_,rfl,rfl,rfl,.inl ⟨_,S.row 2 rfl,rfl,?_⟩⟩; (conv=>whnf); intro ha_ hh_; replace S:=S.set 2 rfl hh_; dsimp only [List.set] at S) | (refine ⟨_,rfl,rfl,rfl,.inl ⟨_,S.row 3 rfl,rfl,?_⟩⟩; (conv=>whnf); intro ha_ hh_; replace S:=S.set 3 rfl hh_; dsimp only [List.set] at S) | (refine ⟨_,rfl,rfl,rfl,.inl ⟨_,S.row 4 rfl,rfl,?_⟩⟩; (conv=>whnf); intro ha_ hh_; replace S:=S.set 4 rfl hh_; dsimp only [List.set] at S) | (refine bsel_intro (fun hb=>?_) (fun hb=>?_)) | (refine ⟨_,h2 _,?_⟩) | skip)
  all_goals (try (conv=>whnf))
  all_goals first
   | exact g_bool (by simp [rowOk,hall,hb])
   | exact ⟨m - 1,by omega,j + 1,by omega,nat_step j (by simp [big] at hl; omega),by simp [hall,hb]⟩
 ·have hjl : j = xs.length:=by
   have : ¬ j < xs.length:=by simpa using h1
   omega
  subst hjl
  have hall : xs.all isCell = true:=by rw [hall]; simp
  iterate 6
   all_goals (try (conv=>whnf))
   all_goals (first | (intro ka_ ha_ hk_ hh_; replace S:=S.alloc hk_ hh_) | (refine .inl ⟨_,S.row 0 rfl,rfl,?_⟩) | (refine .inl ⟨_,S.row 1 rfl,rfl,?_⟩) | (refine .inl ⟨_,S.row 2 rfl,rfl,?_⟩) | (refine .inl ⟨_,S.row 3 rfl,rfl,?_⟩) | (refine .inl ⟨_,S.row 4 rfl,rfl,?_⟩) | (refine ⟨_,rfl,rfl,rfl,.inl ⟨_,S.row 0 rfl,rfl,?_⟩⟩; (conv=>whnf); intro ha_ hh_; replace S:=S.set 0 rfl hh_; dsimp only [List.set] at S) | (refine ⟨_,rfl,rfl,rfl,.inl ⟨_,S.row 1 rfl,rfl,?_⟩⟩; (conv=>whnf); intro ha_ hh_; replace S:=S.set 1 rfl hh_; dsimp only [List.set] at S) | (refine ⟨_,rfl,rfl,rfl,.inl ⟨_,S.row 2 rfl,rfl,?_⟩⟩; (conv=>whnf); intro ha_ hh_; replace S:=S.set 2 rfl hh_; dsimp only [List.set] at S) | (refine ⟨_,rfl,rfl,rfl,.inl ⟨_,S.row 3 rfl,rfl,?_⟩⟩; (conv=>whnf); intro ha_ hh_; replace S:=S.set 3 rfl hh_; dsimp only [List.set] at S) | (refine ⟨_,rfl,rfl,rfl,.inl ⟨_,S.row 4 rfl,rfl,?_⟩⟩; (conv=>whnf); intro ha_ hh_; replace S:=S.set 4 rfl hh_; dsimp only [List.set] at S) | (refine bsel_intro (fun hb=>?_) (fun hb=>?_)) | skip)
  all_goals exact g_bool (by first | (simp_all [rowOk]; done) | (simp_all [rowOk]; omega))
theorem l2W_r (hp : Okp pr) (w : Int) : Ret pr 80 [i64 w] (.bool (wOk w)):=by
 refine retg hp rfl rfl ?_
 have S : Sepa [] []:=Sepa.nil []
 iterate 8
  all_goals (try (conv=>whnf))
  all_goals (first | (intro ka_ ha_ hk_ hh_; replace S:=S.alloc hk_ hh_) | (refine .inl ⟨_,S.row 0 rfl,rfl,?_⟩) | (refine .inl ⟨_,S.row 1 rfl,rfl,?_⟩) | (refine .inl ⟨_,S.row 2 rfl,rfl,?_⟩) | (refine .inl ⟨_,S.row 3 rfl,rfl,?_⟩) | (refine .inl ⟨_,S.row 4 rfl,rfl,?_⟩) | (refine ⟨_,rfl,rfl,rfl,.inl ⟨_,S.row 0 rfl,rfl,?_⟩⟩; (conv=>whnf); intro ha_ hh_; replace S:=S.set 0 rfl hh_; dsimp only [List.set] at S) | (refine ⟨_,rfl,rfl,rfl,.inl ⟨_,S.row 1 rfl,rfl,?_⟩⟩; (conv=>whnf); intro ha_ hh_; replace S:=S.set 1 rfl hh_; dsimp only [List.set] at S) | (refine ⟨_,rfl,rfl,rfl,.inl ⟨_,S.row 2 rfl,rfl,?_⟩⟩; (conv=>whnf); intro ha_ hh_; replace S:=S.set 2 rfl hh_; dsimp only [List.set] at S) | (refine ⟨_,rfl,rfl,rfl,.inl ⟨_,S.row 3 rfl,rfl,?_⟩⟩; (conv=>whnf); intro ha_ hh_; replace S:=S.set 3 rfl hh_; dsimp only [List.set] at S) | (refine ⟨_,rfl,rfl,rfl,.inl ⟨_,S.row 4 rfl,rfl,?_⟩⟩; (conv=>whnf); intro ha_ hh_; replace S:=S.set 4 rfl hh_; dsimp only [List.set] at S) | (refine bsel_intro (fun hb=>?_) (fun hb=>?_)) | skip)
 all_goals exact g_bool (by first | (simp_all [wOk]; done) | (simp_all [wOk]; omega))
theorem sRowLess_r (hp : Okp pr) (xs ys : List Int) (hx : xs.length ≤ big) (hy : ys.length ≤ big) : Ret pr 81 [.sl (xs.map i64),.sl (ys.map i64)] (.bool (rowLess xs ys)):=by
 have h:=l1Order_r hp xs ys (by simp [big] at hx; omega) (by simp [big] at hy; omega) hx
 refine retg hp rfl rfl ?_
 have S : Sepa [] []:=Sepa.nil []
 iterate 4
  all_goals (try (conv=>whnf))
  all_goals (first | (intro ka_ ha_ hk_ hh_; replace S:=S.alloc hk_ hh_) | (refine .inl ⟨_,S.row 0 rfl,rfl,?_⟩) | (refine .inl ⟨_,S.row 1 rfl,rfl,?_⟩) | (refine .inl ⟨_,S.row 2 rfl,rfl,?_⟩) | (refine .inl ⟨_,S.row 3 rfl,rfl,?_⟩) | (refine .inl ⟨_,S.row 4 rfl,rfl,?_⟩) | (refine ⟨_,rfl,rfl,rfl,.inl ⟨_,S.row 0 rfl,rfl,?_⟩⟩; (conv=>whnf); intro ha_ hh_; replace S:=S.set 0 rfl hh_; dsimp only [List.set] at S) | (refine ⟨_,rfl,rfl,rfl,.inl ⟨_,S.row 1 rfl,rfl,?_⟩⟩; (conv=>whnf); intro ha_ hh_; replace S:=S.set 1 rfl hh_; dsimp only [List.set] at S) | (refine ⟨_,rfl,rfl,rfl,.inl ⟨_,S.row 2 rfl,rfl,?_⟩⟩; (conv=>whnf); intro ha_ hh_; replace S:=S.set 2 rfl hh_; dsimp only [List.set] at S) | (refine ⟨_,rfl,rfl,rfl,.inl ⟨_,S.row 3 rfl,rfl,?_⟩⟩; (conv=>whnf); intro ha_ hh_; replace S:=S.set 3 rfl hh_; dsimp only [List.set] at S) | (refine ⟨_,rfl,rfl,rfl,.inl ⟨_,S.row 4 rfl,rfl,?_⟩⟩; (conv=>whnf); intro ha_ hh_; replace S:=S.set 4 rfl hh_; dsimp only [List.set] at S) | (refine bsel_intro (fun hb=>?_) (fun hb=>?_)) | (refine ⟨_,h _,?_⟩) | skip)
 all_goals exact g_bool (by simp_all [rowLess])
theorem sRowSame_r (hp : Okp pr) (xs ys : List Int) (hx : xs.length ≤ big) (hy : ys.length ≤ big) : Ret pr 105 [.sl (xs.map i64),.sl (ys.map i64)] (.bool (rowSame xs ys)):=by
 have h:=l1Order_r hp xs ys (by simp [big] at hx; omega) (by simp [big] at hy; omega) hx
 rw [rowSame,← ordL_zero]
 refine retg hp rfl rfl ?_
 have S : Sepa [] []:=Sepa.nil []
 iterate 4
  all_goals (try (conv=>whnf))
  all_goals (first | (intro ka_ ha_ hk_ hh_; replace S:=S.alloc hk_ hh_) | (refine .inl ⟨_,S.row 0 rfl,rfl,?_⟩) | (refine .inl ⟨_,S.row 1 rfl,rfl,?_⟩) | (refine .inl ⟨_,S.row 2 rfl,rfl,?_⟩) | (refine .inl ⟨_,S.row 3 rfl,rfl,?_⟩) | (refine .inl ⟨_,S.row 4 rfl,rfl,?_⟩) | (refine ⟨_,rfl,rfl,rfl,.inl ⟨_,S.row 0 rfl,rfl,?_⟩⟩; (conv=>whnf); intro ha_ hh_; replace S:=S.set 0 rfl hh_; dsimp only [List.set] at S) | (refine ⟨_,rfl,rfl,rfl,.inl ⟨_,S.row 1 rfl,rfl,?_⟩⟩; (conv=>whnf); intro ha_ hh_; replace S:=S.set 1 rfl hh_; dsimp only [List.set] at S) | (refine ⟨_,rfl,rfl,rfl,.inl ⟨_,S.row 2 rfl,rfl,?_⟩⟩; (conv=>whnf); intro ha_ hh_; replace S:=S.set 2 rfl hh_; dsimp only [List.set] at S) | (refine ⟨_,rfl,rfl,rfl,.inl ⟨_,S.row 3 rfl,rfl,?_⟩⟩; (conv=>whnf); intro ha_ hh_; replace S:=S.set 3 rfl hh_; dsimp only [List.set] at S) | (refine ⟨_,rfl,rfl,rfl,.inl ⟨_,S.row 4 rfl,rfl,?_⟩⟩; (conv=>whnf); intro ha_ hh_; replace S:=S.set 4 rfl hh_; dsimp only [List.set] at S) | (refine bsel_intro (fun hb=>?_) (fun hb=>?_)) | (refine ⟨_,h _,?_⟩) | skip)
 all_goals exact g_bool hb.symm
theorem sZOk_r (hp : Okp pr) (z : List Item) (hz : zsm z) : Ret pr 31 [.sl (z.map Item.enc)] (.bool (zOk z)):=by
 obtain ⟨hl,hr⟩:=hz
 refine retg hp rfl rfl ?_
 have S : Sepa [] []:=Sepa.nil []
 conv=>whnf
 refine bsel_intro (fun h0=>?_) (fun h0=>?_)
 ·conv=>whnf
  exact g_bool (by have : ¬ z.length ≤ 100 := by simp at h0; omega
                   simp [zOk,this])
 have hz : zOk z = zGo none z:=by
  have : z.length ≤ 100:=by simp at h0; omega
  simp [zOk,this]
 rw [hz]
 clear hz h0
 conv=>whnf
 refine loopG (fun m tm hp=>∃ (j : Nat),j + m = z.length ∧ tm 3 = i64 (j : Nat) ∧ (zGo none z = zGo (lastRow (z.take j)) (z.drop j))) (fun m tm hq hfr hI=>?_) (z.length) ⟨0,by simp,(by first | rfl | kernel_rfl | simp),(by simp [lastRow])⟩
 obtain ⟨j,hj,e3,hall⟩:=hI
 have k0:=hfr 0 (by kernel_rfl)
 conv at k0=>rhs; whnf
 rw [← upd_id k0]
 rw [← upd_id e3]
 clear hfr k0 e3
 have S : Sepa hq []:=Sepa.nil hq
 conv=>whnf
 refine bsel_intro (fun h1=>?_) (fun h1=>?_)
 ·have hjl : j < z.length:=by simpa using h1
  have hge : (z.map Item.enc)[((j : Nat) : Int).toNat]? = some (Item.enc z[j]):=by rw [Int.toNat_natCast]; simp [hjl]
  have hnext:=lastRow_take hjl
  have hrow:=hr z[j] (List.getElem_mem hjl)
  rw [List.drop_eq_getElem_cons hjl] at hall
  simp only [zGo] at hall
  have h4:=l2W_r hp z[j].w
  cases j with
  | zero=>
   have hprev : lastRow (z.take 0) = none:=by simp [lastRow]
   rw [hprev] at hall
   generalize z[0] = x at hge hrow hall hnext h4
   obtain ⟨row,w⟩:=x
   have h2:=sRowOk_r hp row hrow
   iterate 20
    all_goals (try (conv=>whnf))
    all_goals (first | (refine ⟨_,hge,by omega,rfl,?_⟩) | (intro ka_ ha_ hk_ hh_; replace S:=S.alloc hk_ hh_) | (refine .inl ⟨_,S.row 0 rfl,rfl,?_⟩) | (refine .inl ⟨_,S.row 1 rfl,rfl,?_⟩) | (refine .inl ⟨_,S.row 2 rfl,rfl,?_⟩) | (refine .inl ⟨_,S.row 3 rfl,rfl,?_⟩) | (refine .inl ⟨_,S.row 4 rfl,rfl,?_⟩) | (refine ⟨_,rfl,rfl,rfl,.inl ⟨_,S.row 0 rfl,rfl,?_⟩⟩; (conv=>whnf); intro ha_ hh_; replace S:=S.set 0 rfl hh_; dsimp only [List.set] at S) | (refine ⟨_,rfl,rfl,rfl,.inl ⟨_,S.row 1 rfl,rfl,?_⟩⟩; (conv=>whnf); intro ha_ hh_; replace S:=S.set 1 rfl hh_; dsimp only [List.set] at S) | (refine ⟨_,rfl,rfl,rfl,.inl ⟨_,S.row 2 rfl,rfl,?_⟩⟩; (conv=>whnf); intro ha_ hh_; replace S:=S.set 2 rfl hh_; dsimp only [List.set] at S) | (refine ⟨_,rfl,rfl,rfl,.inl ⟨_,S.row 3 rfl,rfl,?_⟩⟩; (conv=>whnf); intro ha_ hh_; replace S:=S.set 3 rfl hh_; dsimp only [List.set] at S) | (refine ⟨_,rfl,rfl,rfl,.inl ⟨_,S.row 4 rfl,rfl,?_⟩⟩; (conv=>whnf); intro ha_ hh_; replace S:=S.set 4 rfl hh_; dsimp only [List.set] at S) | (refine bsel_intro (fun hb=>?_) (fun hb=>?_)) | (refine ⟨_,h2 _,?_⟩) | (refine ⟨_,h4 _,?_⟩) | skip)
   all_goals (try (conv=>whnf))
   all_goals first
    | exact g_bool (by clear hge hnext h2 h4 hr hrow; simp_all)
    | exact ⟨m - 1,by omega,1,by omega,nat_step 0 (by omega),by rw [hnext,hall]; clear hge hnext h2 h4 hr hrow hall; simp_all⟩
  | succ i=>
   have hprev:=lastRow_take (z:=z) (j:=i) (by omega)
   rw [hprev] at hall
   have hw : IntKind.i64.wrap (((i + 1 : Nat) : Int) - 1) = (i : Nat):=by rw [IntKind.wrap_i64]; simp [big] at hl; omega
   have hge2 : (z.map Item.enc)[(IntKind.i64.wrap (((i + 1 : Nat) : Int) - 1)).toNat]? = some (Item.enc z[i]):=by rw [hw,Int.toNat_natCast]; simp [show i < z.length by omega]
   have hrow2:=hr z[i] (List.getElem_mem (by omega))
   generalize z[i + 1] = x at hge hrow hall hnext h4
   generalize z[i] = y at hge2 hrow2 hall hprev
   obtain ⟨row,w⟩:=x
   obtain ⟨row2,w2⟩:=y
   have h2:=sRowOk_r hp row hrow
   have h3:=sRowLess_r hp row2 row hrow2 hrow
   iterate 26
    all_goals (try (conv=>whnf))
    all_goals (first | (refine ⟨_,hge2,by omega,rfl,?_⟩) | (refine ⟨_,hge,by omega,rfl,?_⟩) | (intro ka_ ha_ hk_ hh_; replace S:=S.alloc hk_ hh_) | (refine .inl ⟨_,S.row 0 rfl,rfl,?_⟩) | (refine .inl ⟨_,S.row 1 rfl,rfl,?_⟩) | (refine .inl ⟨_,S.row 2 rfl,rfl,?_⟩) | (refine .inl ⟨_,S.row 3 rfl,rfl,?_⟩) | (refine .inl ⟨_,S.row 4 rfl,rfl,?_⟩) | (refine ⟨_,rfl,rfl,rfl,.inl ⟨_,S.row 0 rfl,rfl,?_⟩⟩; (conv=>whnf); intro ha_ hh_; replace S:=S.set 0 rfl hh_; dsimp only [List.set] at S) | (refine ⟨_,rfl,rfl,rfl,.inl ⟨_,S.row 1 rfl,rfl,?_⟩⟩; (conv=>whnf); intro ha_ hh_; replace S:=S.set 1 rfl hh_; dsimp only [List.set] at S) | (refine ⟨_,rfl,rfl,rfl,.inl ⟨_,S.row 2 rfl,rfl,?_⟩⟩; (conv=>whnf); intro ha_ hh_; replace S:=S.set 2 rfl hh_; dsimp only [List.set] at S) | (refine ⟨_,rfl,rfl,rfl,.inl ⟨_,S.row 3 rfl,rfl,?_⟩⟩; (conv=>whnf); intro ha_ hh_; replace S:=S.set 3 rfl hh_; dsimp only [List.set] at S) | (refine ⟨_,rfl,rfl,rfl,.inl ⟨_,S.row 4 rfl,rfl,?_⟩⟩; (conv=>whnf); intro ha_ hh_; replace S:=S.set 4 rfl hh_; dsimp only [List.set] at S) | (refine bsel_intro (fun hb=>?_) (fun hb=>?_)) | (refine ⟨_,h2 _,?_⟩) | (refine ⟨_,h3 _,?_⟩) | (refine ⟨_,h4 _,?_⟩) | skip)
   all_goals (try (conv=>whnf))
   all_goals first
    | exact g_bool (by clear hge hge2 hnext h2 h3 h4 hr hrow hrow2 hw hprev; simp_all)
    | exact ⟨m - 1,by omega,i + 1 + 1,by omega,nat_step (i + 1) (by simp [big] at hl; omega),by rw [hnext,hall]; clear hge hge2 hnext h2 h3 h4 hr hrow hrow2 hall hw hprev; simp_all⟩
 ·have hjl : j = z.length:=by
   have : ¬ j < z.length:=by simpa using h1
   omega
  subst hjl
  rw [List.drop_length] at hall
  conv=>whnf
  exact g_bool (by rw [hall]; rfl)
end Go.Proofs.YtncgofhhnhebjaaGreat

/- Items together, compared, asked of. -/
import Derived.Test.YtebciagembenjaaDoorGSPe
import Derived.Test.YtebciagembenjaaDoorGH19
import Derived.Test.YtebciagembenjaaDoorGH22
set_option linter.unusedVariables false
set_option linter.unusedSimpArgs false
/- sizeOk among the prims. -/
set_option maxHeartbeats 4000000
namespace Go.Proofs.YtebciagembenjaaDoor
open Go Go.Am
open Classical in
noncomputable def pr1 : Prims:=pr0
theorem plain_ne {f g : FuncId} (h : plain f = true) (hg : plain g = false) : (f == g) = false:=by
 cases hc : f == g with
 | false=>rfl
 | true=>
  have : f = g:=by simpa using hc
  subst this
  rw [hg] at h
  cases h
theorem ok1 : Okp pr1:=ok0
theorem pr1_bad (f : FuncId) (h : bad f = true) : pr1 f ≠ none:=pr0_bad f h
theorem cfOk1 : CfgOk (cfp pr1):=cfOk
end Go.Proofs.YtebciagembenjaaDoor
/- slices.Clone: the caller's own. -/
set_option maxHeartbeats 4000000
namespace Go.Am
open Go
end Go.Am
namespace Go.Proofs.YtebciagembenjaaDoor
open Go Go.Am
set_option maxRecDepth 100000
theorem yCloneI (h : Heap) : CallsY cf none 37 [.sl []] h rdy fun v h' _=>v = .nil ∧ h' = h:=by
 refine callsY_of (isY:=isYf) (callsOk cfOk) (by kernel_rfl) fun B=>?_
 conv=>whnf
 intro b
 conv=>whnf
 refine bsel_intro (fun hb=>?_) (fun hb=>?_)
 ·conv=>whnf
  exact ⟨_,rfl,rfl,rfl⟩
 ·conv=>whnf
  refine ⟨trivial,?_⟩
  conv=>whnf
  refine ⟨rfl,?_⟩
  conv=>whnf
  exact ⟨_,rfl,rfl,rfl⟩
theorem prim_nil {f : FuncId} {h : Heap} (hc : CallsY cf none f [.sl []] h rdy fun v h' _=>v = .nil ∧ h' = h) {E : Env} {w : World} {vs : Array Value} (s : Sim E h w) (hf : Full E h) (hg : GOk gV E.S w) (hr : Reps E w [.sl []] vs) :
  Calls Tryd.prog f vs w (Post E h w (.ret .nil h)):=by
   refine Calls.mono (hc E w vs s hf hg hr trivial) fun e w' he=>?_
   cases e with
   | panicked ch=>exact he.elim
   | outgrown=>exact he.elim
   | returned u=>
    obtain ⟨v,h',g',E',⟨rfl,rfl⟩,s',f',x',r',_⟩:=he
    exact ⟨.nil,_,E',rfl,s',f',⟨⟨x'.S,x'.SN,fun b h1 h2=>x'.mem b h1 h2 id,x'.m,x'.new,x'.len,x'.size,x'.os,x'.tape,x'.output⟩,x'.fresh⟩,r'⟩
noncomputable def clonePr (f : FuncId) (args : List AVal) (h : Heap) : Option ARes:=match args with
 | [.sl []]=>some (.ret .nil h)
 | _=>call (cfp pr1) f args h
noncomputable def pr2 : Prims:=fun f=>
 if f == 37 then some (clonePr f) else pr1 f
theorem ok2 : Okp pr2:=⟨fun f h=>by
 unfold pr2
 rw [plain_ne h (g:=37) (by rfl)]
 exact ok1.out f h⟩
theorem pr2_bad (f : FuncId) (h : bad f = true) : pr2 f ≠ none:=by
 unfold pr2
 repeat' split
 all_goals first
  | exact pr1_bad f h
  | exact fun e=>by cases e
theorem clone_case {f : FuncId} (hy : ∀ h,CallsY cf none f [.sl []] h rdy fun v h' _=>v = .nil ∧ h' = h) {args : List AVal} {h : Heap} {r : ARes} (hr : clonePr f args h = some r) (E : Env) (w : World) (vs : Array Value) (hb : bodied Tryd.prog f = true) (s : Sim E h w) (hf : Full E h) (hg : GOk gV E.S w) (hreps : Reps E w args vs) :
  Calls Tryd.prog f vs w (Post E h w r):=by
   unfold clonePr at hr
   split at hr
   ·cases hr; exact prim_nil (hy h) s hf hg hreps
   ·exact call_sound cfOk1 f args h r hr E w vs hb s hf hg hreps
theorem cfOk2 : CfgOk (cfp pr2):=cfOk_of pr2_bad fun f p args h r hp hr E w vs hb s hf hg hreps=>by
 unfold pr2 at hp
 split at hp
 ·rename_i e; have : f = 37:=by simpa using e
  subst this; cases hp; exact clone_case yCloneI hr E w vs hb s hf hg hreps
 ·exact cfOk1.prims f p args h r hp hr E w vs hb s hf hg hreps
def RetG {α : Type} (f : α → AVal) (sz : Nat) (pr : Prims) (fn : FuncId) (args : List AVal) (xs : List α) : Prop:=∃ v h F,call (cfp pr) fn args [] = some (.ret v h) ∧ OwnL f sz h xs v F ∧ F.Nodup ∧ (v = .nil ∨ ∃ id,v = .own id 0 xs.length)
theorem RetG.toL {α : Type} {f : α → AVal} {sz : Nat} {pr : Prims} {fn : FuncId} {args : List AVal} {xs : List α} (h : RetG f sz pr fn args xs) : RetL f sz pr fn args xs:=by
 obtain ⟨v,h,F,h1,h2,h3,_⟩:=h
 exact ⟨v,h,F,h1,h2,h3⟩
structure Okc (pr : Prims) : Prop extends Okp pr where
 cloneI : ∀ xs : List Int,xs.length ≤ 1048576 → RetG i64 1 pr 37 [.sl (xs.map i64)] xs
theorem call_pr2 {f : FuncId} {p : List AVal → Heap → Option ARes} (hp : pr2 f = some p) (args : List AVal) (h : Heap) : call (cfp pr2) f args h = p args h:=by
 rw [call_eq]
 unfold callB
 have : (cfp pr2).pr f = some p:=hp
 simp only [this]
theorem CloneI2 (xs : List Int) (hl : xs.length ≤ 1048576) : RetG i64 1 pr2 37 [.sl (xs.map i64)] xs:=by
 cases xs with
 | nil=>exact ⟨.nil,[],[],by rw [call_pr2 (p:=clonePr _) rfl]; rfl,.inl ⟨rfl,rfl,.inl rfl⟩,by simp,.inl rfl⟩
 | cons x xs=>
  suffices hw : wpF (cfp pr1) 37 [.sl ((x :: xs).map i64)] [] (fun r=>∃ v h F,r = .ret v h ∧ OwnL i64 1 h (x :: xs) v F ∧ F.Nodup ∧ (v = .nil ∨ ∃ id,v = .own id 0 (x :: xs).length)) by
   obtain ⟨r,hr,v,h,F,rfl,h1,h2,h3⟩:=wpF_sound rfl hw
   exact ⟨v,h,F,by rw [call_pr2 (p:=clonePr _) rfl]; exact hr,h1,h2,h3⟩
  conv=>whnf
  refine ⟨trivial,?_⟩
  conv=>whnf
  refine ⟨?_,?_⟩
  ·rw [List.all_eq_true]; intro y hy; obtain ⟨z,_,rfl⟩:=List.mem_map.1 hy; rfl
  conv=>whnf
  refine ⟨by simp [sizeLim] at hl ⊢; omega,?_⟩
  conv=>whnf
  exact ⟨_,_,[0],rfl,.inr ⟨0,by simp; rfl,rfl,rfl⟩,by simp,.inr ⟨0,by simp; rfl⟩⟩
end Go.Proofs.YtebciagembenjaaDoor
/- Items together, compared, asked of. -/
set_option maxHeartbeats 4000000
namespace Go.Proofs.YtebciagembenjaaDoor
open Go Go.Am
variable {pr : Prims} (hp : Okp pr)
set_option maxRecDepth 100000
def itemEq (x y : Item) : Bool:=x.w == y.w && rowSame x.row y.row
def itemSameF : AVal:=.func (.func 20) [] []
theorem itemSame_r (hp : Okp pr) (x y : Item) (hx : x.row.length ≤ big) : Ret pr 20 [x.enc,y.enc] (.bool (itemEq x y)):=by
 have h:=iRowSame_r hp x.row y.row hx
 obtain ⟨r,w⟩:=x
 obtain ⟨r2,w2⟩:=y
 refine retg hp rfl rfl ?_
 have S : Sepa [] []:=Sepa.nil []
 iterate 9
  all_goals (try (conv=>whnf))
  all_goals (first | (intro ka_ ha_ hk_ hh_; replace S:=S.alloc hk_ hh_) | (refine .inl ⟨_,S.row 0 rfl,rfl,?_⟩) | (refine .inl ⟨_,S.row 1 rfl,rfl,?_⟩) | (refine .inl ⟨_,S.row 2 rfl,rfl,?_⟩) | (refine .inl ⟨_,S.row 3 rfl,rfl,?_⟩) | (refine .inl ⟨_,S.row 4 rfl,rfl,?_⟩) | (refine ⟨_,rfl,rfl,rfl,.inl ⟨_,S.row 0 rfl,rfl,?_⟩⟩; (conv=>whnf); intro ha_ hh_; replace S:=S.set 0 rfl hh_; dsimp only [List.set] at S) | (refine ⟨_,rfl,rfl,rfl,.inl ⟨_,S.row 1 rfl,rfl,?_⟩⟩; (conv=>whnf); intro ha_ hh_; replace S:=S.set 1 rfl hh_; dsimp only [List.set] at S) | (refine ⟨_,rfl,rfl,rfl,.inl ⟨_,S.row 2 rfl,rfl,?_⟩⟩; (conv=>whnf); intro ha_ hh_; replace S:=S.set 2 rfl hh_; dsimp only [List.set] at S) | (refine ⟨_,rfl,rfl,rfl,.inl ⟨_,S.row 3 rfl,rfl,?_⟩⟩; (conv=>whnf); intro ha_ hh_; replace S:=S.set 3 rfl hh_; dsimp only [List.set] at S) | (refine ⟨_,rfl,rfl,rfl,.inl ⟨_,S.row 4 rfl,rfl,?_⟩⟩; (conv=>whnf); intro ha_ hh_; replace S:=S.set 4 rfl hh_; dsimp only [List.set] at S) | (refine bsel_intro (fun hb=>?_) (fun hb=>?_)) | (refine ⟨_,h _,?_⟩) | skip)
 all_goals exact g_bool (by clear h hx; simp_all [itemEq])
theorem equalItem_r (hp : Okp pr) (xs ys : List Item) (hx : zsm xs) : Ret pr 19 [.sl (xs.map Item.enc),.sl (ys.map Item.enc),itemSameF] (.bool (listEq itemEq xs ys)):=by
 obtain ⟨hl,hr⟩:=hx
 refine retg hp rfl rfl ?_
 have S : Sepa [] []:=Sepa.nil []
 conv=>whnf
 refine bsel_intro (fun h0=>?_) (fun h0=>?_)
 ·conv=>whnf
  exact g_bool (listEq_ne (by simp at h0; omega)).symm
 have hlen : xs.length = ys.length:=by simp at h0; omega
 conv=>whnf
 refine loopG (fun m tm hp=>∃ (j : Nat),j + m = xs.length ∧ tm 17 = i64 (j : Nat) ∧ (listEq itemEq xs ys = listEq itemEq (xs.drop j) (ys.drop j))) (fun m tm hq hfr hI=>?_) (xs.length) ⟨0,by simp,(by first | rfl | kernel_rfl | simp),(rfl)⟩
 obtain ⟨j,hj,e17,hall⟩:=hI
 have k0:=hfr 0 (by kernel_rfl)
 conv at k0=>rhs; whnf
 rw [← upd_id k0]
 have k1:=hfr 1 (by kernel_rfl)
 conv at k1=>rhs; whnf
 rw [← upd_id k1]
 have k2:=hfr 2 (by kernel_rfl)
 conv at k2=>rhs; whnf
 rw [← upd_id k2]
 have k15:=hfr 15 (by kernel_rfl)
 conv at k15=>rhs; whnf
 rw [← upd_id k15]
 have k16:=hfr 16 (by kernel_rfl)
 conv at k16=>rhs; whnf
 rw [← upd_id k16]
 rw [← upd_id e17]
 clear hfr k0 k1 k2 k15 k16 e17
 have S : Sepa hq []:=Sepa.nil hq
 conv=>whnf
 refine bsel_intro (fun h1=>?_) (fun h1=>?_)
 ·have hjl : j < xs.length:=by simpa using h1
  rw [listEq_step hjl (by omega)] at hall
  have g1 : (xs.map Item.enc)[((j : Nat) : Int).toNat]? = some (Item.enc xs[j]):=by rw [Int.toNat_natCast]; simp [hjl]
  have g2 : (ys.map Item.enc)[((j : Nat) : Int).toNat]? = some (Item.enc ys[j]):=by rw [Int.toNat_natCast]; simp [show j < ys.length by omega]
  have h3:=itemSame_r hp xs[j] ys[j] (hr _ (List.getElem_mem hjl))
  generalize xs[j] = x at g1 h3 hall
  generalize ys[j] = y at g2 h3 hall
  obtain ⟨r,w⟩:=x
  obtain ⟨r2,w2⟩:=y
  conv=>whnf
  refine ⟨_,g1,by omega,rfl,?_⟩
  iterate 4
   all_goals (try (conv=>whnf))
   all_goals (first | (intro ka_ ha_ hk_ hh_; replace S:=S.alloc hk_ hh_) | (refine .inl ⟨_,S.row 0 rfl,rfl,?_⟩) | (refine .inl ⟨_,S.row 1 rfl,rfl,?_⟩) | (refine .inl ⟨_,S.row 2 rfl,rfl,?_⟩) | (refine .inl ⟨_,S.row 3 rfl,rfl,?_⟩) | (refine .inl ⟨_,S.row 4 rfl,rfl,?_⟩) | (refine ⟨_,rfl,rfl,rfl,.inl ⟨_,S.row 0 rfl,rfl,?_⟩⟩; (conv=>whnf); intro ha_ hh_; replace S:=S.set 0 rfl hh_; dsimp only [List.set] at S) | (refine ⟨_,rfl,rfl,rfl,.inl ⟨_,S.row 1 rfl,rfl,?_⟩⟩; (conv=>whnf); intro ha_ hh_; replace S:=S.set 1 rfl hh_; dsimp only [List.set] at S) | (refine ⟨_,rfl,rfl,rfl,.inl ⟨_,S.row 2 rfl,rfl,?_⟩⟩; (conv=>whnf); intro ha_ hh_; replace S:=S.set 2 rfl hh_; dsimp only [List.set] at S) | (refine ⟨_,rfl,rfl,rfl,.inl ⟨_,S.row 3 rfl,rfl,?_⟩⟩; (conv=>whnf); intro ha_ hh_; replace S:=S.set 3 rfl hh_; dsimp only [List.set] at S) | (refine ⟨_,rfl,rfl,rfl,.inl ⟨_,S.row 4 rfl,rfl,?_⟩⟩; (conv=>whnf); intro ha_ hh_; replace S:=S.set 4 rfl hh_; dsimp only [List.set] at S) | (refine bsel_intro (fun hb=>?_) (fun hb=>?_)) | skip)
  refine ⟨_,g2,by omega,rfl,?_⟩
  iterate 6
   all_goals (try (conv=>whnf))
   all_goals (first | (intro ka_ ha_ hk_ hh_; replace S:=S.alloc hk_ hh_) | (refine .inl ⟨_,S.row 0 rfl,rfl,?_⟩) | (refine .inl ⟨_,S.row 1 rfl,rfl,?_⟩) | (refine .inl ⟨_,S.row 2 rfl,rfl,?_⟩) | (refine .inl ⟨_,S.row 3 rfl,rfl,?_⟩) | (refine .inl ⟨_,S.row 4 rfl,rfl,?_⟩) | (refine ⟨_,rfl,rfl,rfl,.inl ⟨_,S.row 0 rfl,rfl,?_⟩⟩; (conv=>whnf); intro ha_ hh_; replace S:=S.set 0 rfl hh_; dsimp only [List.set] at S) | (refine ⟨_,rfl,rfl,rfl,.inl ⟨_,S.row 1 rfl,rfl,?_⟩⟩; (conv=>whnf); intro ha_ hh_; replace S:=S.set 1 rfl hh_; dsimp only [List.set] at S) | (refine ⟨_,rfl,rfl,rfl,.inl ⟨_,S.row 2 rfl,rfl,?_⟩⟩; (conv=>whnf); intro ha_ hh_; replace S:=S.set 2 rfl hh_; dsimp only [List.set] at S) | (refine ⟨_,rfl,rfl,rfl,.inl ⟨_,S.row 3 rfl,rfl,?_⟩⟩; (conv=>whnf); intro ha_ hh_; replace S:=S.set 3 rfl hh_; dsimp only [List.set] at S) | (refine ⟨_,rfl,rfl,rfl,.inl ⟨_,S.row 4 rfl,rfl,?_⟩⟩; (conv=>whnf); intro ha_ hh_; replace S:=S.set 4 rfl hh_; dsimp only [List.set] at S) | (refine bsel_intro (fun hb=>?_) (fun hb=>?_)) | (refine ⟨_,h3 _,?_⟩) | skip)
  all_goals first
   | exact g_bool (by rw [hall,hb]; rfl)
   | exact ⟨m - 1,by omega,j + 1,by omega,nat_step j (by simp [big] at hl; omega),by rw [hall,hb]; rfl⟩
 ·have hjl : j = xs.length := by have : ¬ j < xs.length := by simpa using h1
                                 omega
  subst hjl
  rw [listEq_end hlen] at hall
  conv=>whnf
  exact g_bool hall.symm
theorem iZSame_r (hp : Okp pr) (xs ys : List Item) (hx : zsm xs) : Ret pr 7 [.sl (xs.map Item.enc),.sl (ys.map Item.enc)] (.bool (listEq itemEq xs ys)):=by
 have h:=equalItem_r hp xs ys hx
 refine retg hp rfl rfl ?_
 have S : Sepa [] []:=Sepa.nil []
 iterate 3
  all_goals (try (conv=>whnf))
  all_goals (first | (intro ka_ ha_ hk_ hh_; replace S:=S.alloc hk_ hh_) | (refine .inl ⟨_,S.row 0 rfl,rfl,?_⟩) | (refine .inl ⟨_,S.row 1 rfl,rfl,?_⟩) | (refine .inl ⟨_,S.row 2 rfl,rfl,?_⟩) | (refine .inl ⟨_,S.row 3 rfl,rfl,?_⟩) | (refine .inl ⟨_,S.row 4 rfl,rfl,?_⟩) | (refine ⟨_,rfl,rfl,rfl,.inl ⟨_,S.row 0 rfl,rfl,?_⟩⟩; (conv=>whnf); intro ha_ hh_; replace S:=S.set 0 rfl hh_; dsimp only [List.set] at S) | (refine ⟨_,rfl,rfl,rfl,.inl ⟨_,S.row 1 rfl,rfl,?_⟩⟩; (conv=>whnf); intro ha_ hh_; replace S:=S.set 1 rfl hh_; dsimp only [List.set] at S) | (refine ⟨_,rfl,rfl,rfl,.inl ⟨_,S.row 2 rfl,rfl,?_⟩⟩; (conv=>whnf); intro ha_ hh_; replace S:=S.set 2 rfl hh_; dsimp only [List.set] at S) | (refine ⟨_,rfl,rfl,rfl,.inl ⟨_,S.row 3 rfl,rfl,?_⟩⟩; (conv=>whnf); intro ha_ hh_; replace S:=S.set 3 rfl hh_; dsimp only [List.set] at S) | (refine ⟨_,rfl,rfl,rfl,.inl ⟨_,S.row 4 rfl,rfl,?_⟩⟩; (conv=>whnf); intro ha_ hh_; replace S:=S.set 4 rfl hh_; dsimp only [List.set] at S) | (refine bsel_intro (fun hb=>?_) (fun hb=>?_)) | (refine ⟨_,h _,?_⟩) | skip)
 all_goals exact g_bool hb.symm
end Go.Proofs.YtebciagembenjaaDoor

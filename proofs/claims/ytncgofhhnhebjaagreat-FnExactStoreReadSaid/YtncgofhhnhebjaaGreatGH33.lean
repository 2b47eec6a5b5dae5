/- Two lists of items together: the program's. -/
import Derived.Test.YtncgofhhnhebjaaGreatGH22
import Derived.Test.YtncgofhhnhebjaaGreatGH18
set_option linter.unusedVariables false
set_option linter.unusedSimpArgs false
/- Lists of one's own that grow. No Go here. -/
set_option maxHeartbeats 4000000
namespace Go.Am
open Go
theorem mapO_imp {f g : AVal → Option AVal} (h : ∀ x a,f x = some a → g x = some a) : ∀ (l r : List AVal),mapO f l = some r → mapO g l = some r
 | [],r,e=>e
 | x :: xs,r,e=>by
  simp only [mapO] at e ⊢
  cases hx : f x with
  | none=>simp [hx] at e
  | some a=>
   cases hxs : mapO f xs with
   | none=>simp [hx,hxs] at e
   | some as2=>
    simp only [hx,hxs] at e
    simp only [h x a hx,mapO_imp h xs as2 hxs]
    exact e
theorem snapF_any (h : Heap) : ∀ (n : Nat) (v a : AVal),snapF [] n v = some a → snapF h n v = some a:=by
 intro n
 induction n with
 | zero=>intro v a e; cases e
 | succ n ih=>
  intro v a e
  have hm:=mapO_imp ih
  cases v
  case own id st len=>simp [snapF] at e
  case ptr id i off=>simp [snapF] at e
  case map id=>simp [snapF] at e
  case agg cs=>
   simp only [snapF,Option.map_eq_some_iff] at e ⊢
   obtain ⟨r,h1,h2⟩:=e
   exact ⟨r,hm _ _ h1,h2⟩
  case tup cs=>
   simp only [snapF,Option.map_eq_some_iff] at e ⊢
   obtain ⟨r,h1,h2⟩:=e
   exact ⟨r,hm _ _ h1,h2⟩
  case func fn x y=>
   simp only [snapF] at e ⊢
   cases h1 : mapO (snapF [] n) x with
   | none=>simp [h1] at e
   | some x'=>
    cases h2 : mapO (snapF [] n) y with
    | none=>simp [h1,h2] at e
    | some y'=>
     simp only [h1,h2] at e
     simp only [hm _ _ h1,hm _ _ h2]
     exact e
  case iface t v=>
   simp only [snapF,Option.map_eq_some_iff] at e ⊢
   obtain ⟨r,h1,h2⟩:=e
   exact ⟨r,ih _ _ h1,h2⟩
  all_goals exact e
theorem snapL_any (h : Heap) {l r : List AVal} (e : snapL [] l = some r) : snapL h l = some r:=mapO_imp (snapF_any h 4194304) l r e
theorem snapL_cons {h : Heap} {a a' : AVal} {l l' : List AVal} (ha : snap h a = some a') (hl : snapL h l = some l') : snapL h (a :: l) = some (a' :: l'):=by
 unfold snapL at hl ⊢
 simp only [mapO,ha,hl]
end Go.Am
namespace Go.Proofs.YtncgofhhnhebjaaGreat
open Go Go.Am
theorem Ret.here {pr : Prims} {f : FuncId} {args args' : List AVal} {res : AVal} {h : Heap} (hr : Ret pr f args' res) (hs : snapL h args = Option.some args') (hi : snapL [] args' = Option.some args') (hres : res.isScalar = true) (hM : modes f = Am.Mode.P:=by rfl) :
  callM (cfp pr) (call (cfp pr)) f args h = Option.some (.ret res h):=by
   cases hn : snapL [] args with
   | none=>exact hr.frozen hn hs hi hres hM
   | some as2=>
    have:=snapL_any h hn
    rw [hs] at this
    cases this
    exact hr.snapped hn hi hM h
def AcD (sz : Nat) (h : Heap) (xs : List Dat) (v : AVal) (F : List Nat) : Prop:=Own h (.s sz xs) v F ∧ (v = .nil ∨ ∃ id,v = .own id 0 xs.length)
def _root_.Go.Am.Chunk.acd (sz : Nat) (xs : List Dat) (v : AVal) (F : List Nat) : Chunk:=⟨F,fun h=>AcD sz h xs v F,fun h h' hp hf=>⟨Own.frame hp.1 hf,hp.2⟩,fun h hp=>Own.lt hp.1⟩
theorem Sepa.acd0 {h : Heap} {L : List Chunk} (sz : Nat) (s : Sepa h L) : Sepa h (.acd sz [] .nil [] :: L):=
 s.more (c:=.acd sz [] .nil []) (List.prefix_refl _) (by show AcD _ _ _ _ _; exact ⟨by simp [Own],.inl rfl⟩) (by simp [Chunk.acd]) (by simp [Chunk.acd])
theorem Sepa.acdRow {h : Heap} {L : List Chunk} {sz k : Nat} (s : Sepa h (.row k (.arr sz []) :: L)) : Sepa h (.acd sz [] (.own k 0 0) [k] :: L):=
 s.is (c':=.acd sz [] (.own k 0 0) [k]) (by
  refine ⟨?_,.inr ⟨k,rfl⟩⟩
  simp only [Own]
  exact .inr ⟨k,[],[],rfl,s.row 0 rfl,by simp [Owns],rfl⟩) rfl
theorem Sepa.acdDat {h : Heap} {L : List Chunk} {sz : Nat} {xs : List Dat} {v : AVal} {F : List Nat} (s : Sepa h (.acd sz xs v F :: L)) : Sepa h (.dat (.s sz xs) v F :: L):=
 s.is (c':=.dat (.s sz xs) v F) (show AcD _ _ _ _ _ from s.get 0 rfl).1 rfl
theorem Sepa.acdOpen {h : Heap} {L : List Chunk} {sz : Nat} {xs : List Dat} {v : AVal} {F : List Nat} (s : Sepa h (.acd sz xs v F :: L)) :
  (xs = [] ∧ v = .nil ∧ Sepa h L) ∨ ∃ id vs Fs,v = .own id 0 xs.length ∧ Sepa h (.row id (.arr sz vs) :: .dats xs vs Fs :: L):=by
   have h0 : AcD sz h xs v F:=s.get 0 rfl
   obtain ⟨h1,h2⟩:=h0
   rcases Sepa.open (Sepa.acdDat s) with ⟨g1,g2,g3⟩ | ⟨id,vs,Fs,rfl,g2,g3⟩
   ·rcases h2 with rfl | ⟨id,rfl⟩
    ·exact .inl ⟨g1,rfl,g3⟩
    ·rcases g2 with g2 | g2 <;> cases g2
   ·exact .inr ⟨id,vs,Fs,rfl,g3⟩
theorem Sepa.acdClose {h : Heap} {L : List Chunk} {sz n id : Nat} {xs : List Dat} {vs : List AVal} {Fs : List Nat} (s : Sepa h (.row id (.arr sz vs) :: .dats xs vs Fs :: L)) (hn : n = xs.length) : Sepa h (.acd sz xs (.own id 0 n) (id :: Fs) :: L):=by
 have s1:=Sepa.close s hn
 exact s1.is (c':=.acd sz xs (.own id 0 n) (id :: Fs)) ⟨s1.get 0 rfl,.inr ⟨id,by rw [hn]⟩⟩ rfl
theorem appD {h : Heap} {B : List Chunk} {sz : Nat} {xs : List Dat} {d : Dat} {v w : AVal} {F Fw : List Nat} {K : AVal → Heap → Prop} (S : Sepa h (.acd sz xs v F :: .dat d w Fw :: B)) (hl : xs.length + 1 ≤ sizeLim)
  (hK : ∀ k h' F',Sepa h' (.acd sz (xs ++ [d]) (.own k 0 (xs.length + 1)) F' :: B) → K (.own k 0 (xs.length + 1)) h') : AppR h sz v [w] K:=by
   rcases Sepa.acdOpen S with ⟨rfl,rfl,S1⟩ | ⟨id,vs,Fs,rfl,S1⟩
   ·refine .inr ⟨by simp,by simp [sizeLim],fun k h' e1 e2=>?_⟩
    have S2:=S1.alloc e1 e2
    have S3:=(S2.swap.more (c:=.dats [] [] []) (List.prefix_refl _) (by show Owns _ _ _ _; simp [Owns]) (by simp [Chunk.dats]) (by simp [Chunk.dats])).swap
    have S4:=(Sepa.snoc S3).swap
    exact hK k h' _ (Sepa.acdClose S4 rfl)
   ·have hvl : vs.length = xs.length:=Owns_len (S1.get 1 rfl)
    refine ⟨vs,S1.row 0 rfl,rfl,by omega,.inr ⟨by simp,by simpa using hl,fun k h' e1 e2=>?_⟩⟩
    rw [show vs.take xs.length = vs by rw [List.take_of_length_le (by omega)]] at e2 ⊢
    have S2:=S1.move 0 rfl (by simpa using e1) e2
    dsimp only [List.eraseIdx] at S2
    have S3:=S2.swap.front 2 rfl
    dsimp only [List.eraseIdx] at S3
    have S4:=(Sepa.snoc S3).swap
    have S5:=Sepa.acdClose (n:=xs.length + 1) S4 (by simp)
    have:=hK k h' _ S5
    rw [List.length_append,hvl]
    exact this
def RetA (pr : Prims) (f : FuncId) (args : List AVal) (sz : Nat) (xs : List Dat) : Prop:=∃ v h1 F,call (cfp pr) f args [] = some (.ret v h1) ∧ AcD sz h1 xs v F ∧ F.Nodup
theorem RetA.toD {pr : Prims} {f : FuncId} {args : List AVal} {sz : Nat} {xs : List Dat} (hr : RetA pr f args sz xs) : RetD pr f args (.s sz xs):=by
 obtain ⟨v,h1,F,hc,ho,hn⟩:=hr
 exact ⟨v,h1,F,hc,ho.1,hn⟩
theorem callA {pr : Prims} {h : Heap} {L : List Chunk} {f : FuncId} {args args' : List AVal} {sz : Nat} {xs : List Dat} {K : ARes → Prop} (S : Sepa h L) (hr : RetA pr f args' sz xs) (hM : modes f = Am.Mode.N) (hs : snapL h args = some args')
  (hK : ∀ v hh F,Sepa hh (.acd sz xs v F :: L) → K (.ret v hh)) : ∃ r,callM (cfp pr) (call (cfp pr)) f args h = some r ∧ K r:=by
   obtain ⟨v,h1,F,hc,⟨ho,hv⟩,hn⟩:=hr
   obtain ⟨g1,g2,g3⟩:=(dat_shift (h:=h) _).1 (.s sz xs) v F (Nat.le_refl _) ho
   have hm : (cfp pr).M f = .N:=hM
   refine ⟨.ret (shift1 h.length v) (h ++ h1.map (AObj.keep h.length)),?_,hK _ _ (F.map (· + h.length)) (S.more (c:=.acd sz xs (shift1 h.length v) (F.map (· + h.length))) (List.prefix_append _ _) ⟨g1,?_⟩ (nodup_shift _ hn) fun id hid=>?_)⟩
   ·unfold callM
    simp only [hm,hs,hc,clean_1 g3 g2,if_true,shiftA_1 g3]
   ·rcases hv with rfl | ⟨id,rfl⟩
    ·exact .inl rfl
    ·exact .inr ⟨id + h.length,rfl⟩
   ·obtain ⟨y,_,rfl⟩:=List.mem_map.1 hid
    omega
set_option maxRecDepth 100000 in
theorem retA_of {pr : Prims} (hp : Okp pr) {f : FuncId} {args : List AVal} {sz : Nat} {xs : List Dat} (hn : plain f = true) (hw : wpFG (cfp pr) f args [] (fun r=>∃ v h F,r = .ret v h ∧ AcD sz h xs v F ∧ F.Nodup)) : RetA pr f args sz xs:=by
 obtain ⟨r,hr,v,h,F,rfl,h1,h2⟩:=wpFG_sound (hp.out f hn) hw
 exact ⟨v,h,F,hr,h1,h2⟩
theorem elem_agg {cs : List AVal} {sz : Nat} (hl : cs.length = sz) (h : cs.all AVal.isCell = true) : [AVal.agg cs].all (elemOk sz) = true:=by
 simp only [List.all_cons,List.all_nil,Bool.and_true,elemOk,AVal.cells,hl,h,beq_self_eq_true,Bool.true_and]
theorem elem_cell {v : AVal} (hv : v.cells = [v]) (h : v.isCell = true) : [v].all (elemOk 1) = true:=by
 simp [elemOk,hv,h]
end Go.Proofs.YtncgofhhnhebjaaGreat
/- Items together, compared, asked of. -/
set_option maxHeartbeats 4000000
namespace Go.Proofs.YtncgofhhnhebjaaGreat
open Go Go.Am
variable {pr : Prims} (hp : Okp pr)
set_option maxRecDepth 100000
def asWideF (wide : Int) : AVal:=.func (.func 147) [] [.iptr [i64 wide] 0 0]
theorem asWideF_r (hp : Okp pr) (wide : Int) (x : Item) : Ret pr 147 ([x.enc] ++ [.iptr [i64 wide] 0 0]) (.bool ((@id (Item → Bool) (fun x : Item=>decide ((x.row.length : Int) ≠ wide))) x)):=by
 obtain ⟨r,w⟩:=x
 refine retg hp rfl rfl ?_
 have S : Sepa [] []:=Sepa.nil []
 iterate 6
  all_goals (try (conv=>whnf))
  all_goals (first | (intro ka_ ha_ hk_ hh_; replace S:=S.alloc hk_ hh_) | (refine .inl ⟨_,S.row 0 rfl,rfl,?_⟩) | (refine .inl ⟨_,S.row 1 rfl,rfl,?_⟩) | (refine .inl ⟨_,S.row 2 rfl,rfl,?_⟩) | (refine .inl ⟨_,S.row 3 rfl,rfl,?_⟩) | (refine .inl ⟨_,S.row 4 rfl,rfl,?_⟩) | (refine ⟨_,rfl,rfl,rfl,.inl ⟨_,S.row 0 rfl,rfl,?_⟩⟩; (conv=>whnf); intro ha_ hh_; replace S:=S.set 0 rfl hh_; dsimp only [List.set] at S) | (refine ⟨_,rfl,rfl,rfl,.inl ⟨_,S.row 1 rfl,rfl,?_⟩⟩; (conv=>whnf); intro ha_ hh_; replace S:=S.set 1 rfl hh_; dsimp only [List.set] at S) | (refine ⟨_,rfl,rfl,rfl,.inl ⟨_,S.row 2 rfl,rfl,?_⟩⟩; (conv=>whnf); intro ha_ hh_; replace S:=S.set 2 rfl hh_; dsimp only [List.set] at S) | (refine ⟨_,rfl,rfl,rfl,.inl ⟨_,S.row 3 rfl,rfl,?_⟩⟩; (conv=>whnf); intro ha_ hh_; replace S:=S.set 3 rfl hh_; dsimp only [List.set] at S) | (refine ⟨_,rfl,rfl,rfl,.inl ⟨_,S.row 4 rfl,rfl,?_⟩⟩; (conv=>whnf); intro ha_ hh_; replace S:=S.set 4 rfl hh_; dsimp only [List.set] at S) | (refine bsel_intro (fun hb=>?_) (fun hb=>?_)) | skip)
 all_goals exact g_bool (by simp_all)
theorem asWideIdx_r (hp : Okp pr) (wide : Int) (xs : List Item) (hl : xs.length ≤ big) : Ret pr 180 [.sl (xs.map Item.enc),asWideF wide] (i64 (idxP (fun x : Item=>decide ((x.row.length : Int) ≠ wide)) 0 xs)):=by
 refine retg hp rfl rfl ?_
 have S : Sepa [] []:=Sepa.nil []
 conv=>whnf
 refine loopG (fun m tm hp=>∃ (j : Nat),j + m = xs.length ∧ tm 8 = i64 (j : Nat) ∧ (idxP (fun x : Item=>decide ((x.row.length : Int) ≠ wide)) 0 xs = idxP (fun x : Item=>decide ((x.row.length : Int) ≠ wide)) (j : Nat) (xs.drop j))) (fun m tm hq hfr hI=>?_) (xs.length) ⟨0,by simp,(by first | rfl | kernel_rfl | simp),(by simp)⟩
 obtain ⟨j,hj,e8,hall⟩:=hI
 have k0:=hfr 0 (by kernel_rfl)
 conv at k0=>rhs; whnf
 rw [← upd_id k0]
 have k1:=hfr 1 (by kernel_rfl)
 conv at k1=>rhs; whnf
 rw [← upd_id k1]
 have k7:=hfr 7 (by kernel_rfl)
 conv at k7=>rhs; whnf
 rw [← upd_id k7]
 rw [← upd_id e8]
 clear hfr k0 k1 k7 e8
 have S : Sepa hq []:=Sepa.nil hq
 conv=>whnf
 refine bsel_intro (fun h1=>?_) (fun h1=>?_)
 ·have hjl : j < xs.length:=by simpa using h1
  have g1 : (xs.map Item.enc)[((j : Nat) : Int).toNat]? = some (Item.enc xs[j]):=by rw [Int.toNat_natCast]; simp [hjl]
  have h2:=asWideF_r hp wide xs[j]
  rw [List.drop_eq_getElem_cons hjl] at hall
  have hall : idxP (fun x : Item=>decide ((x.row.length : Int) ≠ wide)) 0 xs = bif (@id (Item → Bool) (fun x : Item=>decide ((x.row.length : Int) ≠ wide))) xs[j] then ((j : Nat) : Int) else idxP (fun x : Item=>decide ((x.row.length : Int) ≠ wide)) (((j : Nat) : Int) + 1) (xs.drop (j + 1)):=hall
  generalize (@id (Item → Bool) (fun x : Item=>decide ((x.row.length : Int) ≠ wide))) xs[j] = b at h2 hall
  generalize xs[j] = x at g1 h2
  obtain ⟨r,w⟩:=x
  conv=>whnf
  refine ⟨_,g1,by omega,rfl,?_⟩
  conv=>whnf
  refine ⟨_,h2 _,?_⟩
  conv=>whnf
  refine bsel_intro (fun h3=>?_) (fun h3=>?_)
  ·conv=>whnf
   exact g_int (by rw [hall,h3]; rfl)
  ·conv=>whnf
   exact ⟨m - 1,by omega,j + 1,by omega,nat_step j (by simp [big] at hl; omega),by rw [hall,h3]; rfl⟩
 ·have hjl : j = xs.length := by have : ¬ j < xs.length := by simpa using h1
                                 omega
  subst hjl
  rw [List.drop_length] at hall
  conv=>whnf
  exact g_int (by rw [hall]; rfl)
theorem asWideCon_r (hp : Okp pr) (wide : Int) (xs : List Item) (hl : xs.length ≤ big) : Ret pr 146 [.sl (xs.map Item.enc),asWideF wide] (.bool (xs.any (fun x : Item=>decide ((x.row.length : Int) ≠ wide)))):=by
 have h:=asWideIdx_r hp wide xs hl
 rw [← idxP_ge (fun x : Item=>decide ((x.row.length : Int) ≠ wide)) xs 0 (Int.le_refl 0)]
 refine retg hp rfl rfl ?_
 have S : Sepa [] []:=Sepa.nil []
 iterate 3
  all_goals (try (conv=>whnf))
  all_goals (first | (intro ka_ ha_ hk_ hh_; replace S:=S.alloc hk_ hh_) | (refine .inl ⟨_,S.row 0 rfl,rfl,?_⟩) | (refine .inl ⟨_,S.row 1 rfl,rfl,?_⟩) | (refine .inl ⟨_,S.row 2 rfl,rfl,?_⟩) | (refine .inl ⟨_,S.row 3 rfl,rfl,?_⟩) | (refine .inl ⟨_,S.row 4 rfl,rfl,?_⟩) | (refine ⟨_,rfl,rfl,rfl,.inl ⟨_,S.row 0 rfl,rfl,?_⟩⟩; (conv=>whnf); intro ha_ hh_; replace S:=S.set 0 rfl hh_; dsimp only [List.set] at S) | (refine ⟨_,rfl,rfl,rfl,.inl ⟨_,S.row 1 rfl,rfl,?_⟩⟩; (conv=>whnf); intro ha_ hh_; replace S:=S.set 1 rfl hh_; dsimp only [List.set] at S) | (refine ⟨_,rfl,rfl,rfl,.inl ⟨_,S.row 2 rfl,rfl,?_⟩⟩; (conv=>whnf); intro ha_ hh_; replace S:=S.set 2 rfl hh_; dsimp only [List.set] at S) | (refine ⟨_,rfl,rfl,rfl,.inl ⟨_,S.row 3 rfl,rfl,?_⟩⟩; (conv=>whnf); intro ha_ hh_; replace S:=S.set 3 rfl hh_; dsimp only [List.set] at S) | (refine ⟨_,rfl,rfl,rfl,.inl ⟨_,S.row 4 rfl,rfl,?_⟩⟩; (conv=>whnf); intro ha_ hh_; replace S:=S.set 4 rfl hh_; dsimp only [List.set] at S) | (refine bsel_intro (fun hb=>?_) (fun hb=>?_)) | (refine ⟨_,h _,?_⟩) | skip)
 all_goals exact g_bool hb.symm
def lacksF (wide : Int) : AVal:=.func (.func 148) [] []
theorem lacksF_r (hp : Okp pr) (wide : Int) (x : Item) : Ret pr 148 ([x.enc] ++ []) (.bool ((@id (Item → Bool) (fun x : Item=>decide (x.w < 0))) x)):=by
 obtain ⟨r,w⟩:=x
 refine retg hp rfl rfl ?_
 have S : Sepa [] []:=Sepa.nil []
 iterate 6
  all_goals (try (conv=>whnf))
  all_goals (first | (intro ka_ ha_ hk_ hh_; replace S:=S.alloc hk_ hh_) | (refine .inl ⟨_,S.row 0 rfl,rfl,?_⟩) | (refine .inl ⟨_,S.row 1 rfl,rfl,?_⟩) | (refine .inl ⟨_,S.row 2 rfl,rfl,?_⟩) | (refine .inl ⟨_,S.row 3 rfl,rfl,?_⟩) | (refine .inl ⟨_,S.row 4 rfl,rfl,?_⟩) | (refine ⟨_,rfl,rfl,rfl,.inl ⟨_,S.row 0 rfl,rfl,?_⟩⟩; (conv=>whnf); intro ha_ hh_; replace S:=S.set 0 rfl hh_; dsimp only [List.set] at S) | (refine ⟨_,rfl,rfl,rfl,.inl ⟨_,S.row 1 rfl,rfl,?_⟩⟩; (conv=>whnf); intro ha_ hh_; replace S:=S.set 1 rfl hh_; dsimp only [List.set] at S) | (refine ⟨_,rfl,rfl,rfl,.inl ⟨_,S.row 2 rfl,rfl,?_⟩⟩; (conv=>whnf); intro ha_ hh_; replace S:=S.set 2 rfl hh_; dsimp only [List.set] at S) | (refine ⟨_,rfl,rfl,rfl,.inl ⟨_,S.row 3 rfl,rfl,?_⟩⟩; (conv=>whnf); intro ha_ hh_; replace S:=S.set 3 rfl hh_; dsimp only [List.set] at S) | (refine ⟨_,rfl,rfl,rfl,.inl ⟨_,S.row 4 rfl,rfl,?_⟩⟩; (conv=>whnf); intro ha_ hh_; replace S:=S.set 4 rfl hh_; dsimp only [List.set] at S) | (refine bsel_intro (fun hb=>?_) (fun hb=>?_)) | skip)
 all_goals exact g_bool (by simp_all)
theorem lacksIdx_r (hp : Okp pr) (wide : Int) (xs : List Item) (hl : xs.length ≤ big) : Ret pr 180 [.sl (xs.map Item.enc),lacksF wide] (i64 (idxP (fun x : Item=>decide (x.w < 0)) 0 xs)):=by
 refine retg hp rfl rfl ?_
 have S : Sepa [] []:=Sepa.nil []
 conv=>whnf
 refine loopG (fun m tm hp=>∃ (j : Nat),j + m = xs.length ∧ tm 8 = i64 (j : Nat) ∧ (idxP (fun x : Item=>decide (x.w < 0)) 0 xs = idxP (fun x : Item=>decide (x.w < 0)) (j : Nat) (xs.drop j))) (fun m tm hq hfr hI=>?_) (xs.length) ⟨0,by simp,(by first | rfl | kernel_rfl | simp),(by simp)⟩
 obtain ⟨j,hj,e8,hall⟩:=hI
 have k0:=hfr 0 (by kernel_rfl)
 conv at k0=>rhs; whnf
 rw [← upd_id k0]
 have k1:=hfr 1 (by kernel_rfl)
 conv at k1=>rhs; whnf
 rw [← upd_id k1]
 have k7:=hfr 7 (by kernel_rfl)
 conv at k7=>rhs; whnf
 rw [← upd_id k7]
 rw [← upd_id e8]
 clear hfr k0 k1 k7 e8
 have S : Sepa hq []:=Sepa.nil hq
 conv=>whnf
 refine bsel_intro (fun h1=>?_) (fun h1=>?_)
 ·have hjl : j < xs.length:=by simpa using h1
  have g1 : (xs.map Item.enc)[((j : Nat) : Int).toNat]? = some (Item.enc xs[j]):=by rw [Int.toNat_natCast]; simp [hjl]
  have h2:=lacksF_r hp wide xs[j]
  rw [List.drop_eq_getElem_cons hjl] at hall
  have hall : idxP (fun x : Item=>decide (x.w < 0)) 0 xs = bif (@id (Item → Bool) (fun x : Item=>decide (x.w < 0))) xs[j] then ((j : Nat) : Int) else idxP (fun x : Item=>decide (x.w < 0)) (((j : Nat) : Int) + 1) (xs.drop (j + 1)):=hall
  generalize (@id (Item → Bool) (fun x : Item=>decide (x.w < 0))) xs[j] = b at h2 hall
  generalize xs[j] = x at g1 h2
  obtain ⟨r,w⟩:=x
  conv=>whnf
  refine ⟨_,g1,by omega,rfl,?_⟩
  conv=>whnf
  refine ⟨_,h2 _,?_⟩
  conv=>whnf
  refine bsel_intro (fun h3=>?_) (fun h3=>?_)
  ·conv=>whnf
   exact g_int (by rw [hall,h3]; rfl)
  ·conv=>whnf
   exact ⟨m - 1,by omega,j + 1,by omega,nat_step j (by simp [big] at hl; omega),by rw [hall,h3]; rfl⟩
 ·have hjl : j = xs.length := by have : ¬ j < xs.length := by simpa using h1
                                 omega
  subst hjl
  rw [List.drop_length] at hall
  conv=>whnf
  exact g_int (by rw [hall]; rfl)
theorem lacksCon_r (hp : Okp pr) (wide : Int) (xs : List Item) (hl : xs.length ≤ big) : Ret pr 146 [.sl (xs.map Item.enc),lacksF wide] (.bool (xs.any (fun x : Item=>decide (x.w < 0)))):=by
 have h:=lacksIdx_r hp wide xs hl
 rw [← idxP_ge (fun x : Item=>decide (x.w < 0)) xs 0 (Int.le_refl 0)]
 refine retg hp rfl rfl ?_
 have S : Sepa [] []:=Sepa.nil []
 iterate 3
  all_goals (try (conv=>whnf))
  all_goals (first | (intro ka_ ha_ hk_ hh_; replace S:=S.alloc hk_ hh_) | (refine .inl ⟨_,S.row 0 rfl,rfl,?_⟩) | (refine .inl ⟨_,S.row 1 rfl,rfl,?_⟩) | (refine .inl ⟨_,S.row 2 rfl,rfl,?_⟩) | (refine .inl ⟨_,S.row 3 rfl,rfl,?_⟩) | (refine .inl ⟨_,S.row 4 rfl,rfl,?_⟩) | (refine ⟨_,rfl,rfl,rfl,.inl ⟨_,S.row 0 rfl,rfl,?_⟩⟩; (conv=>whnf); intro ha_ hh_; replace S:=S.set 0 rfl hh_; dsimp only [List.set] at S) | (refine ⟨_,rfl,rfl,rfl,.inl ⟨_,S.row 1 rfl,rfl,?_⟩⟩; (conv=>whnf); intro ha_ hh_; replace S:=S.set 1 rfl hh_; dsimp only [List.set] at S) | (refine ⟨_,rfl,rfl,rfl,.inl ⟨_,S.row 2 rfl,rfl,?_⟩⟩; (conv=>whnf); intro ha_ hh_; replace S:=S.set 2 rfl hh_; dsimp only [List.set] at S) | (refine ⟨_,rfl,rfl,rfl,.inl ⟨_,S.row 3 rfl,rfl,?_⟩⟩; (conv=>whnf); intro ha_ hh_; replace S:=S.set 3 rfl hh_; dsimp only [List.set] at S) | (refine ⟨_,rfl,rfl,rfl,.inl ⟨_,S.row 4 rfl,rfl,?_⟩⟩; (conv=>whnf); intro ha_ hh_; replace S:=S.set 4 rfl hh_; dsimp only [List.set] at S) | (refine bsel_intro (fun hb=>?_) (fun hb=>?_)) | (refine ⟨_,h _,?_⟩) | skip)
 all_goals exact g_bool hb.symm
end Go.Proofs.YtncgofhhnhebjaaGreat
/- Two lists of items together: the program's. -/
set_option maxHeartbeats 4000000
namespace Go.Am
open Go
theorem appAccs {α : Type} {f : α → AVal} {sz : Nat} {h : Heap} {B : List Chunk} {xs ys : List α} {v : AVal} {K : AVal → Heap → Prop} (S : Sepa h (.acc f sz xs v :: B)) (hl : xs.length + ys.length ≤ sizeLim)
  (hK : ∀ v' h',(v' = .nil ∨ ∃ k,v' = .own k 0 (xs ++ ys).length) → Sepa h' (.acc f sz (xs ++ ys) v' :: B) → K v' h') : AppR h sz v (ys.map f) K:=by
   have h0 : AccP f sz h xs v:=S.get 0 rfl
   by_cases hy : ys = []
   ·subst hy
    rcases h0 with ⟨rfl,rfl⟩ | ⟨id,rfl,h1⟩
    ·exact .inl ⟨rfl,hK .nil h (.inl rfl) (by simpa using S)⟩
    ·refine ⟨_,h1,rfl,by simp,.inl ⟨rfl,fun h' e=>?_⟩⟩
     rw [show (xs.map f).take xs.length = xs.map f by rw [List.take_of_length_le (by simp)],set_same h1] at e
     subst e
     exact hK (.own id 0 xs.length) _ (.inr ⟨id,by simp⟩) (by simpa using S)
   ·have hyn : ys.map f ≠ []:=by simpa using hy
    rcases h0 with ⟨rfl,rfl⟩ | ⟨id,rfl,h1⟩
    ·refine .inr ⟨hyn,by simp at hl ⊢; exact hl,fun k h' e1 e2=>?_⟩
     have S1:=(S.drop 0).alloc e1 e2
     dsimp only [List.eraseIdx] at S1
     have S2:=S1.turn 0 (c:=.row k (.arr sz (ys.map f))) (c':=.acc f sz ys (.own k 0 ys.length)) (h':=h') rfl (fun _ _ _=>rfl) (.inr ⟨k,rfl,S1.row 0 rfl⟩) (by simp [Chunk.acc,accF]) (fun id hid=>.inl hid)
     have:=hK (.own k 0 ys.length) h' (.inr ⟨k,by simp⟩) S2
     rw [List.length_map]
     exact this
    ·refine ⟨_,h1,rfl,by simp,.inr ⟨hyn,by simpa using hl,fun k h' e1 e2=>?_⟩⟩
     rw [show (xs.map f).take xs.length = xs.map f by rw [List.take_of_length_le (by simp)]] at e2 ⊢
     rw [← List.map_append] at e2 ⊢
     have S1:=S.turn 0 (c':=.row id .dead) (h':=h.set id .dead) rfl (fun j hj hne=>List.getElem?_set_ne (fun e=>hne (by simp [Chunk.acc,accF,e]))) (get_same rfl h1) (by simp [Chunk.row]) (fun j hj=>.inl hj)
     dsimp only [List.set] at S1
     have S2:=(S1.drop 0).alloc (by simpa using e1) e2
     dsimp only [List.eraseIdx] at S2
     have S3:=S2.turn 0 (c:=.row k (.arr sz ((xs ++ ys).map f))) (c':=.acc f sz (xs ++ ys) (.own k 0 (xs ++ ys).length)) (h':=h') rfl (fun _ _ _=>rfl) (.inr ⟨k,rfl,S2.row 0 rfl⟩) (by simp [Chunk.acc,accF]) (fun id hid=>.inl hid)
     rw [List.length_map]
     exact hK _ h' (.inr ⟨k,rfl⟩) S3
end Go.Am
namespace Go.Proofs.YtncgofhhnhebjaaGreat
open Go Go.Am
variable {pr : Prims} (hp : Okp pr)
set_option maxRecDepth 100000
theorem cmpItem_r (hp : Okp pr) (x y : Item) (hx : x.row.length ≤ big) (hy : y.row.length ≤ big) : Ret pr 122 [x.enc,y.enc] (i64 (cmpL x.row y.row)):=by
 have h:=compare_r hp x.row y.row hx hy
 obtain ⟨r,w⟩:=x
 obtain ⟨r2,w2⟩:=y
 refine retg hp rfl rfl ?_
 have S : Sepa [] []:=Sepa.nil []
 iterate 9
  all_goals (try (conv=>whnf))
  all_goals (first | (intro ka_ ha_ hk_ hh_; replace S:=S.alloc hk_ hh_) | (refine .inl ⟨_,S.row 0 rfl,rfl,?_⟩) | (refine .inl ⟨_,S.row 1 rfl,rfl,?_⟩) | (refine .inl ⟨_,S.row 2 rfl,rfl,?_⟩) | (refine .inl ⟨_,S.row 3 rfl,rfl,?_⟩) | (refine .inl ⟨_,S.row 4 rfl,rfl,?_⟩) | (refine ⟨_,rfl,rfl,rfl,.inl ⟨_,S.row 0 rfl,rfl,?_⟩⟩; (conv=>whnf); intro ha_ hh_; replace S:=S.set 0 rfl hh_; dsimp only [List.set] at S) | (refine ⟨_,rfl,rfl,rfl,.inl ⟨_,S.row 1 rfl,rfl,?_⟩⟩; (conv=>whnf); intro ha_ hh_; replace S:=S.set 1 rfl hh_; dsimp only [List.set] at S) | (refine ⟨_,rfl,rfl,rfl,.inl ⟨_,S.row 2 rfl,rfl,?_⟩⟩; (conv=>whnf); intro ha_ hh_; replace S:=S.set 2 rfl hh_; dsimp only [List.set] at S) | (refine ⟨_,rfl,rfl,rfl,.inl ⟨_,S.row 3 rfl,rfl,?_⟩⟩; (conv=>whnf); intro ha_ hh_; replace S:=S.set 3 rfl hh_; dsimp only [List.set] at S) | (refine ⟨_,rfl,rfl,rfl,.inl ⟨_,S.row 4 rfl,rfl,?_⟩⟩; (conv=>whnf); intro ha_ hh_; replace S:=S.set 4 rfl hh_; dsimp only [List.set] at S) | (refine bsel_intro (fun hb=>?_) (fun hb=>?_)) | (refine ⟨_,h _,?_⟩) | skip)
 exact g_int rfl
def addW (a b : Int) : Int:=IntKind.i64.wrap (a + b)
def mixI (x y : Item) : Item:=⟨x.row,addW x.w y.w⟩
theorem mix_r (hp : Okp pr) (x y : Item) : Ret pr 123 [x.enc,y.enc] (.tup [(mixI x y).enc,.bool (addW x.w y.w != 0)]):=by
 obtain ⟨r,w⟩:=x
 obtain ⟨r2,w2⟩:=y
 refine retg hp rfl rfl ?_
 have S : Sepa [] []:=Sepa.nil []
 iterate 12
  all_goals (try (conv=>whnf))
  all_goals (first | (intro ka_ ha_ hk_ hh_; replace S:=S.alloc hk_ hh_) | (refine .inl ⟨_,S.row 0 rfl,rfl,?_⟩) | (refine .inl ⟨_,S.row 1 rfl,rfl,?_⟩) | (refine .inl ⟨_,S.row 2 rfl,rfl,?_⟩) | (refine .inl ⟨_,S.row 3 rfl,rfl,?_⟩) | (refine .inl ⟨_,S.row 4 rfl,rfl,?_⟩) | (refine ⟨_,rfl,rfl,rfl,.inl ⟨_,S.row 0 rfl,rfl,?_⟩⟩; (conv=>whnf); intro ha_ hh_; replace S:=S.set 0 rfl hh_; dsimp only [List.set] at S) | (refine ⟨_,rfl,rfl,rfl,.inl ⟨_,S.row 1 rfl,rfl,?_⟩⟩; (conv=>whnf); intro ha_ hh_; replace S:=S.set 1 rfl hh_; dsimp only [List.set] at S) | (refine ⟨_,rfl,rfl,rfl,.inl ⟨_,S.row 2 rfl,rfl,?_⟩⟩; (conv=>whnf); intro ha_ hh_; replace S:=S.set 2 rfl hh_; dsimp only [List.set] at S) | (refine ⟨_,rfl,rfl,rfl,.inl ⟨_,S.row 3 rfl,rfl,?_⟩⟩; (conv=>whnf); intro ha_ hh_; replace S:=S.set 3 rfl hh_; dsimp only [List.set] at S) | (refine ⟨_,rfl,rfl,rfl,.inl ⟨_,S.row 4 rfl,rfl,?_⟩⟩; (conv=>whnf); intro ha_ hh_; replace S:=S.set 4 rfl hh_; dsimp only [List.set] at S) | (refine bsel_intro (fun hb=>?_) (fun hb=>?_)) | skip)
 iterate 2
  ·refine ⟨?_,?_⟩
   ·repeat ((try (conv=>whnf)); first | trivial | (refine ⟨reload_box rfl (S.row 0 rfl) rfl rfl,?_⟩) | (refine ⟨reload_box rfl (S.row 1 rfl) rfl rfl,?_⟩) | (refine ⟨reload_box rfl (S.row 2 rfl) rfl rfl,?_⟩) | (refine ⟨reload_box rfl (S.row 3 rfl) rfl rfl,?_⟩) | (refine ⟨reload_box rfl (S.row 4 rfl) rfl rfl,?_⟩) | (refine ⟨reload_box rfl (S.row 5 rfl) rfl rfl,?_⟩) | (refine ⟨reload_box rfl (S.row 6 rfl) rfl rfl,?_⟩) | (refine ⟨reload_box rfl (S.row 7 rfl) rfl rfl,?_⟩) | (refine ⟨reload_box rfl (S.row 8 rfl) rfl rfl,?_⟩))
   iterate 3
    all_goals (try (conv=>whnf))
    all_goals (first | (intro ka_ ha_ hk_ hh_; replace S:=S.alloc hk_ hh_) | (refine .inl ⟨_,S.row 0 rfl,rfl,?_⟩) | (refine .inl ⟨_,S.row 1 rfl,rfl,?_⟩) | (refine .inl ⟨_,S.row 2 rfl,rfl,?_⟩) | (refine .inl ⟨_,S.row 3 rfl,rfl,?_⟩) | (refine .inl ⟨_,S.row 4 rfl,rfl,?_⟩) | (refine ⟨_,rfl,rfl,rfl,.inl ⟨_,S.row 0 rfl,rfl,?_⟩⟩; (conv=>whnf); intro ha_ hh_; replace S:=S.set 0 rfl hh_; dsimp only [List.set] at S) | (refine ⟨_,rfl,rfl,rfl,.inl ⟨_,S.row 1 rfl,rfl,?_⟩⟩; (conv=>whnf); intro ha_ hh_; replace S:=S.set 1 rfl hh_; dsimp only [List.set] at S) | (refine ⟨_,rfl,rfl,rfl,.inl ⟨_,S.row 2 rfl,rfl,?_⟩⟩; (conv=>whnf); intro ha_ hh_; replace S:=S.set 2 rfl hh_; dsimp only [List.set] at S) | (refine ⟨_,rfl,rfl,rfl,.inl ⟨_,S.row 3 rfl,rfl,?_⟩⟩; (conv=>whnf); intro ha_ hh_; replace S:=S.set 3 rfl hh_; dsimp only [List.set] at S) | (refine ⟨_,rfl,rfl,rfl,.inl ⟨_,S.row 4 rfl,rfl,?_⟩⟩; (conv=>whnf); intro ha_ hh_; replace S:=S.set 4 rfl hh_; dsimp only [List.set] at S) | (refine bsel_intro (fun hb=>?_) (fun hb=>?_)) | skip)
   refine ⟨_,fin_cell_tmp rfl rfl (S.row 0 rfl) rfl rfl,_,_,rfl,?_⟩
   have hb' : (addW w w2 != 0) = _:=hb
   rw [hb']
   rfl
def mergeZ : List Item → List Item → List Item
 | [],b=>b
 | a,[]=>a
 | x :: xs,y :: ys=>
  if cmpL x.row y.row < 0 then x :: mergeZ xs (y :: ys)
  else if cmpL x.row y.row > 0 then y :: mergeZ (x :: xs) ys
  else bif addW x.w y.w != 0 then mixI x y :: mergeZ xs ys else mergeZ xs ys
termination_by a b=>a.length + b.length
theorem mergeZ_nil (b : List Item) : mergeZ [] b = b:=by simp [mergeZ]
theorem mergeZ_nil2 (a : List Item) : mergeZ a [] = a:=by cases a <;> simp [mergeZ]
theorem mergeZ_len : ∀ (n : Nat) (a b : List Item),a.length + b.length ≤ n → (mergeZ a b).length ≤ a.length + b.length:=by
 intro n
 induction n with
 | zero=>intro a b h; have ha : a = []:=List.length_eq_zero_iff.1 (by omega); have hb : b = []:=List.length_eq_zero_iff.1 (by omega); subst ha; subst hb; simp [mergeZ]
 | succ n ih=>
  intro a b h
  cases a with
  | nil=>simp [mergeZ]
  | cons x xs=>
   cases b with
   | nil=>simp [mergeZ]
   | cons y ys=>
    simp only [List.length_cons] at h
    rw [mergeZ]
    have h1:=ih xs (y :: ys) (by simp; omega)
    have h2:=ih (x :: xs) ys (by simp; omega)
    have h3:=ih xs ys (by omega)
    simp only [List.length_cons] at h1 h2 ⊢
    split
    ·simp only [List.length_cons]; omega
    ·split
     ·simp only [List.length_cons]; omega
     ·cases (addW x.w y.w != 0)
      ·simp only [cond_false]; omega
      ·simp only [cond_true,List.length_cons]; omega
theorem mergeZ_mem : ∀ (n : Nat) (a b : List Item),a.length + b.length ≤ n → ∀ z ∈ mergeZ a b,∃ y,(y ∈ a ∨ y ∈ b) ∧ z.row = y.row:=by
 intro n
 induction n with
 | zero=>intro a b h; have ha : a = []:=List.length_eq_zero_iff.1 (by omega); have hb : b = []:=List.length_eq_zero_iff.1 (by omega); subst ha; subst hb; simp [mergeZ]
 | succ n ih=>
  intro a b h z hz
  cases a with
  | nil=>rw [mergeZ_nil] at hz; exact ⟨z,.inr hz,rfl⟩
  | cons x xs=>
   cases b with
   | nil=>rw [mergeZ_nil2] at hz; exact ⟨z,.inl hz,rfl⟩
   | cons y ys=>
    simp only [List.length_cons] at h
    rw [mergeZ] at hz
    have h1:=ih xs (y :: ys) (by simp; omega) z
    have h2:=ih (x :: xs) ys (by simp; omega) z
    have h3:=ih xs ys (by omega) z
    have up : ∀ {p q : List Item},(∃ w,(w ∈ p ∨ w ∈ q) ∧ z.row = w.row) → (∀ w ∈ p,w ∈ x :: xs) → (∀ w ∈ q,w ∈ y :: ys) → ∃ w,(w ∈ x :: xs ∨ w ∈ y :: ys) ∧ z.row = w.row:=fun ⟨w,h,e⟩ hp hq=>⟨w,h.imp (hp w) (hq w),e⟩
    split at hz
    ·rcases List.mem_cons.1 hz with rfl | hz
     ·exact ⟨z,.inl (by simp),rfl⟩
     ·exact up (h1 hz) (fun w hw=>by simp [hw]) (fun w hw=>hw)
    ·split at hz
     ·rcases List.mem_cons.1 hz with rfl | hz
      ·exact ⟨z,.inr (by simp),rfl⟩
      ·exact up (h2 hz) (fun w hw=>hw) (fun w hw=>by simp [hw])
     ·cases hc : (addW x.w y.w != 0)
      ·rw [hc] at hz
       exact up (h3 hz) (fun w hw=>by simp [hw]) (fun w hw=>by simp [hw])
      ·rw [hc] at hz
       rcases List.mem_cons.1 hz with rfl | hz
       ·exact ⟨x,.inl (by simp),rfl⟩
       ·exact up (h3 hz) (fun w hw=>by simp [hw]) (fun w hw=>by simp [hw])
theorem itemsOk (z : List Item) : (z.map Item.enc).all (elemOk 2) = true:=by
 rw [List.all_eq_true]; intro y hy; obtain ⟨q,_,rfl⟩:=List.mem_map.1 hy; rfl
theorem itemsOk2 (z : List Item) : (z.map Item.enc).all (fun y=>y.cells.length == 2) = true:=by
 rw [List.all_eq_true]; intro y hy; obtain ⟨q,_,rfl⟩:=List.mem_map.1 hy; rfl
def cmpF : AVal:=.func (.func 122) [] []
def mixF : AVal:=.func (.func 123) [] []
theorem item_snap {h : Heap} (x : Item) : snapF h 4194303 x.enc = some x.enc:=rfl
theorem slT (x : Item) (xs : List Item) : AVal.sl ((((x :: xs).map Item.enc).drop 1).take (((x :: xs).map Item.enc).length - 1)) = .sl (xs.map Item.enc):=by
 simp only [List.map_cons,List.drop_succ_cons,List.drop_zero,List.length_cons,List.length_map,Nat.add_sub_cancel]
 rw [List.take_of_length_le (by simp)]
theorem merged_r (hp : Okp pr) (a b : List Item) (ha : zsm a) (hb : zsm b) : Ret pr 121 [.sl (a.map Item.enc),.sl (b.map Item.enc),cmpF,mixF] (.sl ((mergeZ a b).map Item.enc)):=by
 obtain ⟨hla,hra⟩:=ha
 obtain ⟨hlb,hrb⟩:=hb
 refine retg hp rfl rfl ?_
 have S : Sepa [] []:=Sepa.nil []
 conv=>whnf
 refine loopG (fun m tm hp=>∃ (a' b' z : List Item) (D : AVal),a'.length + b'.length = m ∧ tm 0 = .sl (a'.map Item.enc) ∧ tm 1 = .sl (b'.map Item.enc) ∧ tm 9 = D ∧ Sepa hp [.acc Item.enc 2 z D] ∧ mergeZ a b = z ++ mergeZ a' b' ∧ z.length + a'.length + b'.length ≤ a.length + b.length ∧ (∀ x ∈ a',x ∈ a) ∧ (∀ x ∈ b',x ∈ b)) (fun m tm hq hfr hI=>?_) (a.length + b.length) ⟨a,b,[],.nil,rfl,rfl,rfl,rfl,S.accNil _ _,rfl,by simp,fun _ h=>h,fun _ h=>h⟩
 obtain ⟨a',b',z,D,hm,e0,e1,e9,S2,hall,hz,hma,hmb⟩:=hI
 have k2:=hfr 2 (by kernel_rfl)
 conv at k2=>rhs; whnf
 rw [← upd_id k2]
 have k3:=hfr 3 (by kernel_rfl)
 conv at k3=>rhs; whnf
 rw [← upd_id k3,← upd_id e0,← upd_id e1,← upd_id e9]
 clear hfr k2 k3 e0 e1 e9 S
 have S:=S2
 clear S2
 have hzl : z.length + 1 ≤ sizeLim:=by simp [sizeLim,big] at hla hlb ⊢; omega
 cases a' with
 | nil=>
  conv=>whnf
  refine ⟨trivial,?_⟩
  conv=>whnf
  refine ⟨_,rfl,itemsOk [],?_⟩
  refine appAccs (ys:=[]) S (by simp only [sizeLim,big] at *; simp only [List.length_append,List.length_cons,List.length_nil] at *; omega) fun D1 w1 hD1 S1=>?_
  conv=>whnf
  refine ⟨trivial,?_⟩
  conv=>whnf
  refine ⟨_,rfl,itemsOk b',?_⟩
  refine appAccs (ys:=b') S1 (by simp only [sizeLim,big] at *; simp only [List.length_append,List.length_cons,List.length_nil] at *; omega) fun D2 w2 hD2 S2=>?_
  conv=>whnf
  refine ⟨_,rfl,_,_,rfl,?_⟩
  have hfz:=(show AccP Item.enc 2 w2 _ D2 from S2.get 0 rfl).frozen fun x _=>item_snap x
  refine Eq.trans hfz ?_
  rw [hall]
  rw [mergeZ_nil,List.append_nil]
 | cons x xs=>
  cases b' with
  | nil=>
   conv=>whnf
   refine bsel_true (by simp; try omega) ?_
   conv=>whnf
   refine ⟨trivial,?_⟩
   conv=>whnf
   refine ⟨_,rfl,itemsOk (x :: xs),?_⟩
   refine appAccs (ys:=(x :: xs)) S (by simp only [sizeLim,big] at *; simp only [List.length_append,List.length_cons,List.length_nil] at *; omega) fun D1 w1 hD1 S1=>?_
   conv=>whnf
   refine ⟨trivial,?_⟩
   conv=>whnf
   refine ⟨_,rfl,itemsOk [],?_⟩
   refine appAccs (ys:=[]) S1 (by simp only [sizeLim,big] at *; simp only [List.length_append,List.length_cons,List.length_nil] at *; omega) fun D2 w2 hD2 S2=>?_
   conv=>whnf
   refine ⟨_,rfl,_,_,rfl,?_⟩
   have hfz:=(show AccP Item.enc 2 w2 _ D2 from S2.get 0 rfl).frozen fun x _=>item_snap x
   refine Eq.trans hfz ?_
   rw [hall]
   rw [mergeZ_nil2,List.append_nil]
  | cons y ys=>
   have hxr:=hra x (hma x (by simp))
   have hyr:=hrb y (hmb y (by simp))
   have h1:=cmpItem_r hp x y hxr hyr
   have h2:=mix_r hp x y
   rw [mergeZ] at hall
   have hm1 : mixI x y = ⟨x.row,addW x.w y.w⟩:=rfl
   generalize mixI x y = mx at h2 hall hm1
   obtain ⟨r,w⟩:=x
   obtain ⟨r2,w2⟩:=y
   obtain ⟨r3,w3⟩:=mx
   simp only at h1 h2 hall
   generalize cmpL r r2 = c at h1 hall
   generalize hb3 : (addW w w2 != 0) = b3 at h2 hall
   conv=>whnf
   refine bsel_true (by simp; try omega) ?_
   conv=>whnf
   refine bsel_true (by simp; try omega) ?_
   conv=>whnf
   refine ⟨_,rfl,by decide,rfl,?_⟩
   conv=>whnf
   refine ⟨_,rfl,by decide,rfl,?_⟩
   conv=>whnf
   refine ⟨_,h1 _,?_⟩
   conv=>whnf
   refine bsel_intro (fun g1=>?_) (fun g1=>?_)
   ·rw [if_pos (by simpa using g1)] at hall
    conv=>whnf
    refine ⟨_,rfl,by decide,rfl,?_⟩
    conv=>whnf
    intro k1 q1 hk1 hq1
    replace S:=S.alloc hk1 hq1
    conv=>whnf
    refine ⟨⟨by decide,by simp <;> omega,by simp <;> omega,itemsOk2 _⟩,?_⟩
    conv=>whnf
    refine ⟨trivial,?_⟩
    conv=>whnf
    refine ⟨[(Item.mk r w).enc],elems_row1 (S.row 0 rfl),rfl,?_⟩
    replace S:=S.drop 0
    dsimp only [List.eraseIdx] at S
    refine appAcc (sz:=2) S hzl fun k2 q2 S3 _=>?_
    conv=>whnf
    refine ⟨?_,?_⟩
    ·conv=>whnf
     refine ⟨reload_sl rfl rfl rfl rfl ⟨by decide,by simp <;> omega,by simp <;> omega,itemsOk2 _⟩ rfl,?_⟩
     conv=>whnf
     trivial
    conv=>whnf
    exact ⟨m - 1,by simp at hm; omega,xs,⟨r2,w2⟩ :: ys,z ++ [⟨r,w⟩],_,by simp at hm ⊢; omega,slT _ _,rfl,rfl,S3,by rw [hall,List.append_assoc]; rfl,by simp at hz ⊢; omega,fun x hx=>hma x (List.mem_cons_of_mem _ hx),hmb⟩
   ·rw [if_neg (by simpa using g1)] at hall
    conv=>whnf
    refine bsel_intro (fun g2=>?_) (fun g2=>?_)
    ·rw [if_pos (by simpa using g2)] at hall
     conv=>whnf
     refine ⟨_,rfl,by decide,rfl,?_⟩
     conv=>whnf
     intro k1 q1 hk1 hq1
     replace S:=S.alloc hk1 hq1
     conv=>whnf
     refine ⟨⟨by decide,by simp <;> omega,by simp <;> omega,itemsOk2 _⟩,?_⟩
     conv=>whnf
     refine ⟨trivial,?_⟩
     conv=>whnf
     refine ⟨[(Item.mk r2 w2).enc],elems_row1 (S.row 0 rfl),rfl,?_⟩
     replace S:=S.drop 0
     dsimp only [List.eraseIdx] at S
     refine appAcc (sz:=2) S hzl fun k2 q2 S3 _=>?_
     conv=>whnf
     refine ⟨?_,?_⟩
     ·conv=>whnf
      refine ⟨reload_sl rfl rfl rfl rfl ⟨by decide,by simp <;> omega,by simp <;> omega,itemsOk2 _⟩ rfl,?_⟩
      conv=>whnf
      trivial
     conv=>whnf
     exact ⟨m - 1,by simp at hm; omega,⟨r,w⟩ :: xs,ys,z ++ [⟨r2,w2⟩],_,by simp at hm ⊢; omega,rfl,slT _ _,rfl,S3,by rw [hall,List.append_assoc]; rfl,by simp at hz ⊢; omega,hma,fun x hx=>hmb x (List.mem_cons_of_mem _ hx)⟩
    ·rw [if_neg (by simpa using g2)] at hall
     cases b3 with
     | false=>
      rw [cond_false] at hall
      conv=>whnf
      refine ⟨_,rfl,by decide,rfl,?_⟩
      conv=>whnf
      refine ⟨_,rfl,by decide,rfl,?_⟩
      conv=>whnf
      refine ⟨_,h2 _,?_⟩
      conv=>whnf
      intro k1 q1 hk1 hq1
      replace S:=S.alloc hk1 hq1
      conv=>whnf
      refine ⟨_,rfl,rfl,rfl,.inl ⟨_,S.row 0 rfl,rfl,?_⟩⟩
      conv=>whnf
      intro q2 hh2
      replace S:=S.set 0 rfl hh2
      dsimp only [List.set] at S
      conv=>whnf
      refine ⟨⟨by decide,by simp <;> omega,by simp <;> omega,itemsOk2 _⟩,?_⟩
      conv=>whnf
      refine ⟨⟨by decide,by simp <;> omega,by simp <;> omega,itemsOk2 _⟩,?_⟩
      conv=>whnf
      replace S:=S.drop 0
      dsimp only [List.eraseIdx] at S
      exact ⟨m - 2,by simp at hm; omega,xs,ys,z,_,by simp at hm ⊢; omega,slT _ _,slT _ _,rfl,S,hall,by simp at hz ⊢; omega,fun x hx=>hma x (List.mem_cons_of_mem _ hx),fun x hx=>hmb x (List.mem_cons_of_mem _ hx)⟩
     | true=>
      rw [cond_true] at hall
      conv=>whnf
      refine ⟨_,rfl,by decide,rfl,?_⟩
      conv=>whnf
      refine ⟨_,rfl,by decide,rfl,?_⟩
      conv=>whnf
      refine ⟨_,h2 _,?_⟩
      conv=>whnf
      intro k1 q1 hk1 hq1
      replace S:=S.alloc hk1 hq1
      conv=>whnf
      refine ⟨_,rfl,rfl,rfl,.inl ⟨_,S.row 0 rfl,rfl,?_⟩⟩
      conv=>whnf
      intro q2 hh2
      replace S:=S.set 0 rfl hh2
      dsimp only [List.set] at S
      conv=>whnf
      refine .inl ⟨_,S.row 0 rfl,rfl,?_⟩
      conv=>whnf
      intro k3 q3 hk3 hq3
      replace S:=S.alloc hk3 hq3
      conv=>whnf
      refine ⟨trivial,?_⟩
      conv=>whnf
      refine ⟨[(Item.mk r3 w3).enc],elems_row1 (S.row 0 rfl),rfl,?_⟩
      replace S:=S.pick [2] (by decide)
      simp only [pickL,List.getElem?_cons_zero,List.getElem?_cons_succ] at S
      refine appAcc (sz:=2) S hzl fun k4 q4 S3 _=>?_
      conv=>whnf
      refine ⟨⟨by decide,by simp <;> omega,by simp <;> omega,itemsOk2 _⟩,?_⟩
      conv=>whnf
      refine ⟨⟨by decide,by simp <;> omega,by simp <;> omega,itemsOk2 _⟩,?_⟩
      conv=>whnf
      exact ⟨m - 2,by simp at hm; omega,xs,ys,z ++ [⟨r3,w3⟩],_,by simp at hm ⊢; omega,slT _ _,slT _ _,rfl,S3,by rw [hall,List.append_assoc]; rfl,by simp at hz ⊢; omega,fun x hx=>hma x (List.mem_cons_of_mem _ hx),fun x hx=>hmb x (List.mem_cons_of_mem _ hx)⟩
end Go.Proofs.YtncgofhhnhebjaaGreat

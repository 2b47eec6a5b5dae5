/- The look at every function of the seat. -/
import Derived.Test.YtebciagembenjaaDoorGH23
import Derived.Test.YtebciagembenjaaDoorGH18
set_option linter.unusedVariables false
set_option linter.unusedSimpArgs false
/- Lists of one's own that grow. No Go here. -/
set_option maxHeartbeats 4000000
namespace Go.Am
open Go
theorem mapO_imp {f g : AVal → Option AVal} (h : ∀ x a,f x = some a → g x = some a) : ∀ (l r : List AVal),mapO f l = some r → mapO g l = some r
 | [],r,e=>e
 | x :: xs,r,e=>by
  simp only [mapO] at e ⊢
  cases hx : f x with
  | none=>simp [hx] at e
  | some a=>
   cases hxs : mapO f xs with
   | none=>simp [hx,hxs] at e
   | some as2=>
    simp only [hx,hxs] at e
    simp only [h x a hx,mapO_imp h xs as2 hxs]
    exact e
theorem snapF_any (h : Heap) : ∀ (n : Nat) (v a : AVal),snapF [] n v = some a → snapF h n v = some a:=by
 intro n
 induction n with
 | zero=>intro v a e; cases e
 | succ n ih=>
  intro v a e
  have hm:=mapO_imp ih
  cases v
  case own id st len=>simp [snapF] at e
  case ptr id i off=>simp [snapF] at e
  case map id=>simp [snapF] at e
  case agg cs=>
   simp only [snapF,Option.map_eq_some_iff] at e ⊢
   obtain ⟨r,h1,h2⟩:=e
   exact ⟨r,hm _ _ h1,h2⟩
  case tup cs=>
   simp only [snapF,Option.map_eq_some_iff] at e ⊢
   obtain ⟨r,h1,h2⟩:=e
   exact ⟨r,hm _ _ h1,h2⟩
  case func fn x y=>
   simp only [snapF] at e ⊢
   cases h1 : mapO (snapF [] n) x with
   | none=>simp [h1] at e
   | some x'=>
    cases h2 : mapO (snapF [] n) y with
    | none=>simp [h1,h2] at e
    | some y'=>
     simp only [h1,h2] at e
     simp only [hm _ _ h1,hm _ _ h2]
     exact e
  case iface t v=>
   simp only [snapF,Option.map_eq_some_iff] at e ⊢
   obtain ⟨r,h1,h2⟩:=e
   exact ⟨r,ih _ _ h1,h2⟩
  all_goals exact e
theorem snapL_any (h : Heap) {l r : List AVal} (e : snapL [] l = some r) : snapL h l = some r:=mapO_imp (snapF_any h 4194304) l r e
theorem snapL_cons {h : Heap} {a a' : AVal} {l l' : List AVal} (ha : snap h a = some a') (hl : snapL h l = some l') : snapL h (a :: l) = some (a' :: l'):=by
 unfold snapL at hl ⊢
 simp only [mapO,ha,hl]
end Go.Am
namespace Go.Proofs.YtebciagembenjaaDoor
open Go Go.Am
theorem Ret.here {pr : Prims} {f : FuncId} {args args' : List AVal} {res : AVal} {h : Heap} (hr : Ret pr f args' res) (hs : snapL h args = Option.some args') (hi : snapL [] args' = Option.some args') (hres : res.isScalar = true) (hM : modes f = Am.Mode.P:=by rfl) :
  callM (cfp pr) (call (cfp pr)) f args h = Option.some (.ret res h):=by
   cases hn : snapL [] args with
   | none=>exact hr.frozen hn hs hi hres hM
   | some as2=>
    have:=snapL_any h hn
    rw [hs] at this
    cases this
    exact hr.snapped hn hi hM h
def AcD (sz : Nat) (h : Heap) (xs : List Dat) (v : AVal) (F : List Nat) : Prop:=Own h (.s sz xs) v F ∧ (v = .nil ∨ ∃ id,v = .own id 0 xs.length)
def _root_.Go.Am.Chunk.acd (sz : Nat) (xs : List Dat) (v : AVal) (F : List Nat) : Chunk:=⟨F,fun h=>AcD sz h xs v F,fun h h' hp hf=>⟨Own.frame hp.1 hf,hp.2⟩,fun h hp=>Own.lt hp.1⟩
theorem Sepa.acd0 {h : Heap} {L : List Chunk} (sz : Nat) (s : Sepa h L) : Sepa h (.acd sz [] .nil [] :: L):=
 s.more (c:=.acd sz [] .nil []) (List.prefix_refl _) (by show AcD _ _ _ _ _; exact ⟨by simp [Own],.inl rfl⟩) (by simp [Chunk.acd]) (by simp [Chunk.acd])
theorem Sepa.acdDat {h : Heap} {L : List Chunk} {sz : Nat} {xs : List Dat} {v : AVal} {F : List Nat} (s : Sepa h (.acd sz xs v F :: L)) : Sepa h (.dat (.s sz xs) v F :: L):=
 s.is (c':=.dat (.s sz xs) v F) (show AcD _ _ _ _ _ from s.get 0 rfl).1 rfl
theorem Sepa.acdOpen {h : Heap} {L : List Chunk} {sz : Nat} {xs : List Dat} {v : AVal} {F : List Nat} (s : Sepa h (.acd sz xs v F :: L)) :
  (xs = [] ∧ v = .nil ∧ Sepa h L) ∨ ∃ id vs Fs,v = .own id 0 xs.length ∧ Sepa h (.row id (.arr sz vs) :: .dats xs vs Fs :: L):=by
   have h0 : AcD sz h xs v F:=s.get 0 rfl
   obtain ⟨h1,h2⟩:=h0
   rcases Sepa.open (Sepa.acdDat s) with ⟨g1,g2,g3⟩ | ⟨id,vs,Fs,rfl,g2,g3⟩
   ·rcases h2 with rfl | ⟨id,rfl⟩
    ·exact .inl ⟨g1,rfl,g3⟩
    ·rcases g2 with g2 | g2 <;> cases g2
   ·exact .inr ⟨id,vs,Fs,rfl,g3⟩
theorem Sepa.acdClose {h : Heap} {L : List Chunk} {sz n id : Nat} {xs : List Dat} {vs : List AVal} {Fs : List Nat} (s : Sepa h (.row id (.arr sz vs) :: .dats xs vs Fs :: L)) (hn : n = xs.length) : Sepa h (.acd sz xs (.own id 0 n) (id :: Fs) :: L):=by
 have s1:=Sepa.close s hn
 exact s1.is (c':=.acd sz xs (.own id 0 n) (id :: Fs)) ⟨s1.get 0 rfl,.inr ⟨id,by rw [hn]⟩⟩ rfl
theorem appD {h : Heap} {B : List Chunk} {sz : Nat} {xs : List Dat} {d : Dat} {v w : AVal} {F Fw : List Nat} {K : AVal → Heap → Prop} (S : Sepa h (.acd sz xs v F :: .dat d w Fw :: B)) (hl : xs.length + 1 ≤ sizeLim)
  (hK : ∀ k h' F',Sepa h' (.acd sz (xs ++ [d]) (.own k 0 (xs.length + 1)) F' :: B) → K (.own k 0 (xs.length + 1)) h') : AppR h sz v [w] K:=by
   rcases Sepa.acdOpen S with ⟨rfl,rfl,S1⟩ | ⟨id,vs,Fs,rfl,S1⟩
   ·refine .inr ⟨by simp,by simp [sizeLim],fun k h' e1 e2=>?_⟩
    have S2:=S1.alloc e1 e2
    have S3:=(S2.swap.more (c:=.dats [] [] []) (List.prefix_refl _) (by show Owns _ _ _ _; simp [Owns]) (by simp [Chunk.dats]) (by simp [Chunk.dats])).swap
    have S4:=(Sepa.snoc S3).swap
    exact hK k h' _ (Sepa.acdClose S4 rfl)
   ·have hvl : vs.length = xs.length:=Owns_len (S1.get 1 rfl)
    refine ⟨vs,S1.row 0 rfl,rfl,by omega,.inr ⟨by simp,by simpa using hl,fun k h' e1 e2=>?_⟩⟩
    rw [show vs.take xs.length = vs by rw [List.take_of_length_le (by omega)]] at e2 ⊢
    have S2:=S1.move 0 rfl (by simpa using e1) e2
    dsimp only [List.eraseIdx] at S2
    have S3:=S2.swap.front 2 rfl
    dsimp only [List.eraseIdx] at S3
    have S4:=(Sepa.snoc S3).swap
    have S5:=Sepa.acdClose (n:=xs.length + 1) S4 (by simp)
    have:=hK k h' _ S5
    rw [List.length_append,hvl]
    exact this
def RetA (pr : Prims) (f : FuncId) (args : List AVal) (sz : Nat) (xs : List Dat) : Prop:=∃ v h1 F,call (cfp pr) f args [] = some (.ret v h1) ∧ AcD sz h1 xs v F ∧ F.Nodup
theorem RetA.toD {pr : Prims} {f : FuncId} {args : List AVal} {sz : Nat} {xs : List Dat} (hr : RetA pr f args sz xs) : RetD pr f args (.s sz xs):=by
 obtain ⟨v,h1,F,hc,ho,hn⟩:=hr
 exact ⟨v,h1,F,hc,ho.1,hn⟩
theorem callA {pr : Prims} {h : Heap} {L : List Chunk} {f : FuncId} {args args' : List AVal} {sz : Nat} {xs : List Dat} {K : ARes → Prop} (S : Sepa h L) (hr : RetA pr f args' sz xs) (hM : modes f = Am.Mode.N) (hs : snapL h args = some args')
  (hK : ∀ v hh F,Sepa hh (.acd sz xs v F :: L) → K (.ret v hh)) : ∃ r,callM (cfp pr) (call (cfp pr)) f args h = some r ∧ K r:=by
   obtain ⟨v,h1,F,hc,⟨ho,hv⟩,hn⟩:=hr
   obtain ⟨g1,g2,g3⟩:=(dat_shift (h:=h) _).1 (.s sz xs) v F (Nat.le_refl _) ho
   have hm : (cfp pr).M f = .N:=hM
   refine ⟨.ret (shift1 h.length v) (h ++ h1.map (AObj.keep h.length)),?_,hK _ _ (F.map (· + h.length)) (S.more (c:=.acd sz xs (shift1 h.length v) (F.map (· + h.length))) (List.prefix_append _ _) ⟨g1,?_⟩ (nodup_shift _ hn) fun id hid=>?_)⟩
   ·unfold callM
    simp only [hm,hs,hc,clean_1 g3 g2,if_true,shiftA_1 g3]
   ·rcases hv with rfl | ⟨id,rfl⟩
    ·exact .inl rfl
    ·exact .inr ⟨id + h.length,rfl⟩
   ·obtain ⟨y,_,rfl⟩:=List.mem_map.1 hid
    omega
theorem elem_agg {cs : List AVal} {sz : Nat} (hl : cs.length = sz) (h : cs.all AVal.isCell = true) : [AVal.agg cs].all (elemOk sz) = true:=by
 simp only [List.all_cons,List.all_nil,Bool.and_true,elemOk,AVal.cells,hl,h,beq_self_eq_true,Bool.true_and]
theorem elem_cell {v : AVal} (hv : v.cells = [v]) (h : v.isCell = true) : [v].all (elemOk 1) = true:=by
 simp [elemOk,hv,h]
theorem callT {pr : Prims} {h : Heap} {L : List Chunk} {f : FuncId} {args args' : List AVal} {ds : List Dat} {K : ARes → Prop} (S : Sepa h L) (hr : RetT pr f args' ds) (hM : modes f = Am.Mode.N) (hs : snapL h args = some args')
  (hK : ∀ vs hh F,Sepa hh (.dats ds vs F :: L) → K (.ret (.tup vs) hh)) : ∃ r,callM (cfp pr) (call (cfp pr)) f args h = some r ∧ K r:=by
   obtain ⟨vs,hh,F,hc,hpre,ho,hn,hd⟩:=hr.at (h:=h) hM hs
   exact ⟨_,hc,hK vs hh F (S.more (c:=.dats ds vs F) hpre ho hn hd)⟩
theorem Sepa.two {h : Heap} {L : List Chunk} {d1 d2 : Dat} {vs : List AVal} {F : List Nat} (S : Sepa h (.dats [d1,d2] vs F :: L)) : ∃ v1 v2 F1 F2,vs = [v1,v2] ∧ Sepa h (.dat d1 v1 F1 :: .dat d2 v2 F2 :: L):=by
 obtain ⟨v1,vs1,F1,G1,rfl,rfl,S1⟩:=Sepa.uncons S
 obtain ⟨v2,vs2,F2,G2,rfl,rfl,S2⟩:=Sepa.uncons S1.swap
 have h0 : Owns h [] vs2 G2:=S2.get 1 rfl
 simp only [Owns] at h0
 obtain ⟨rfl,rfl⟩:=h0
 exact ⟨v1,v2,F1,F2,rfl,(S2.drop 1).swap⟩
theorem Sepa.two_b {h : Heap} {L : List Chunk} {d1 : Dat} {b : Bool} {vs : List AVal} {F : List Nat} (S : Sepa h (.dats [d1,.b b] vs F :: L)) : ∃ v1 F1,vs = [v1,.bool b] ∧ Sepa h (.dat d1 v1 F1 :: L):=by
 obtain ⟨v1,v2,F1,F2,rfl,S1⟩:=Sepa.two S
 have h0 : Own h (.b b) v2 F2:=S1.get 1 rfl
 unfold Own at h0
 obtain ⟨rfl,rfl⟩:=h0
 exact ⟨v1,F1,rfl,S1.drop 1⟩
end Go.Proofs.YtebciagembenjaaDoor
/- The look at every function of the seat. -/
namespace Go.Am
open Go
def codesB (P : Program) (M : FuncId → Mode) (pm : Nat → Nat → Nat → Option (List Nat)) (skip : Nat → Bool) : Nat → List Func → Bool
 | _,[]=>true
 | n,fn :: r=>(skip n || (match fn.body with
  | some c=>codeOk P M pm fn.ntmps c
  | none=>true)) && codesB P M pm skip (n + 1) r
theorem codesB_spec {P : Program} {M : FuncId → Mode} {pm : Nat → Nat → Nat → Option (List Nat)} {skip : Nat → Bool} : ∀ (l : List Func) (n : Nat),codesB P M pm skip n l = true → ∀ (i : Nat) (fn : Func) (c : Code),l[i]? = some fn → fn.body = some c → skip (n + i) = false → codeOk P M pm fn.ntmps c = true:=by
 intro l
 induction l with
 | nil=>intro n _ i fn c h; simp at h
 | cons g r ih=>
  intro n h i fn c hi hb hs
  simp only [codesB,Bool.and_eq_true] at h
  cases i with
  | zero=>
   simp at hi
   subst hi
   have:=h.1
   rw [Nat.add_zero] at hs
   rw [hb,hs,Bool.false_or] at this
   exact this
  | succ i=>exact ih (n + 1) h.2 i fn c (by simpa using hi) hb (by rw [show n + 1 + i = n + (i + 1) by omega]; exact hs)
end Go.Am
namespace Go.Proofs.YtebciagembenjaaDoor
open Go Go.Am
set_option maxRecDepth 100000 in
theorem codes : codesB Tryd.prog modes pms bad 0 Tryd.prog.funcs.toList = true:=by kernel_rfl
set_option maxRecDepth 100000 in
theorem cfOk_of {pr : Prims} (hbad : ∀ f,bad f = true → pr f ≠ none) (hpr : ∀ f p args h r,pr f = some p → p args h = some r → ∀ (E : Env) (w : World) (vs : Array Value),bodied Tryd.prog f = true → Sim E h w → Full E h → GOk gV E.S w → Reps E w args vs → Calls Tryd.prog f vs w (Post E h w r)) : CfgOk (cfp pr) where
 mixed:=by kernel_rfl
 noX:=fun f h=>by
  have h : modes f = Am.Mode.X:=h
  unfold modes at h
  generalize isN f = a at h
  generalize isF f = b at h
  generalize isK f = c at h
  cases a <;> cases b <;> cases c <;> cases h
 code:=fun f fn c hp hf hb=>codesB_spec _ 0 codes f fn c (by simpa [cfp] using hf) hb (by rw [Nat.zero_add]; cases hx : bad f with | false=>rfl | true=>exact absurd hp (hbad f hx))
 prims:=hpr
noncomputable def cf : Cfg:=cfp pr0
theorem pr0_bad (f : FuncId) (h : bad f = true) : pr0 f ≠ none:=by unfold pr0; rw [h]; exact fun e=>by cases e
theorem pr0_none {f : FuncId} {p : List AVal → Heap → Option ARes} (h : pr0 f = some p) (args : List AVal) (hp : Heap) : p args hp = none:=by
 unfold pr0 at h
 cases hb : bad f with
 | false=>rw [hb] at h; cases h
 | true=>rw [hb] at h; cases h; rfl
theorem pr0_plain {f : FuncId} (h : plain f = true) : pr0 f = none:=by
 unfold plain at h
 simp only [Bool.and_eq_true,Bool.not_eq_true'] at h
 unfold pr0
 rw [h.2]
 rfl
theorem ok0 : Okp pr0:=⟨fun _ h=>pr0_plain h⟩
set_option maxRecDepth 100000 in
theorem cfOk : CfgOk cf:=cfOk_of pr0_bad fun _ _ _ _ _ h h2=>by rw [pr0_none h] at h2; cases h2
end Go.Proofs.YtebciagembenjaaDoor

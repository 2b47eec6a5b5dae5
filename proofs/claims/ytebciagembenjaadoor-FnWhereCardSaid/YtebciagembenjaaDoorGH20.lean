/- The reference's looks at lists and plans. -/
import Derived.Test.YtebciagembenjaaDoorGH19
import Derived.Test.YtebciagembenjaaDoorGH18
set_option linter.unusedVariables false
set_option linter.unusedSimpArgs false
/- Calls that come to values, by the plainer walk. -/
set_option maxHeartbeats 4000000
namespace Go.Am
theorem reload_sl {cf : Cfg} {tm : Nat → AVal} {h : Heap} {t : TypeId} {x : Operand} {lo hi : Option Operand} {lo' hi' : Option Int} {xs : List AVal} {p : TypeId × Nat} {v : AVal}
  (hx : ev cf.G tm x = some (.sl xs)) (hl : optI cf.G tm lo = some lo') (hh : optI cf.G tm hi = some hi') (ht : selA cf.P t = some p)
  (hc : 0 ≤ lo'.getD 0 ∧ lo'.getD 0 ≤ hi'.getD xs.length ∧ hi'.getD xs.length ≤ xs.length ∧ xs.all (fun y=>y.cells.length == p.2) = true)
  (hv : v = .sl ((xs.drop (lo'.getD 0).toNat).take ((hi'.getD xs.length).toNat - (lo'.getD 0).toNat))) :
  opEval cf tm h (.slice t x lo hi none) = some (.val v h):=by
   subst hv
   obtain ⟨t0,sz⟩:=p
   simp only [opEval,hx,hl,hh,sliceA,ht]
   rw [if_pos hc]
   rfl
end Go.Am
namespace Go.Proofs.YtebciagembenjaaDoor
open Go Go.Am
variable {pr : Prims} (hp : Okp pr)
set_option maxRecDepth 100000
theorem retg (hp : Okp pr) {f : FuncId} {args : List AVal} {res : AVal} (hn : noY f = true) (ha : snapL [] args = some args) (hw : wpFG (cfp pr) f args [] (fun r=>∃ v h,r = .ret v h ∧ snap h v = some res)) : Ret pr f args res:=by
 intro h
 obtain ⟨r,hr,v,h1,rfl,hs⟩:=wpFG_sound (hp.out f (by unfold noY at hn; simp only [Bool.and_eq_true] at hn; exact hn.1)) hw
 have hm : (cfp pr).M f = .P:=modes_P hn
 unfold callM
 simp only [hm,ha,hr,hs,Option.map_some]
theorem g_bool {h : Heap} {b c : Bool} (hb : b = c) : ∃ r,some (ARes.ret (.bool b) h) = some r ∧ ∃ v h1,r = ARes.ret v h1 ∧ snap h1 v = some (.bool c):=⟨_,rfl,_,_,rfl,by subst hb; rfl⟩
theorem g_int {h : Heap} {k : IntKind} {b c : Int} (hb : b = c) : ∃ r,some (ARes.ret (.int k b) h) = some r ∧ ∃ v h1,r = ARes.ret v h1 ∧ snap h1 v = some (.int k c):=⟨_,rfl,_,_,rfl,by subst hb; rfl⟩
theorem fin_cell_tmp {P : Program} {fn : Func} {st : St} {d t k a : Nat} {x v u : AVal} (hr : fn.results.toList = [.cell d t,.tmp k]) (ht : st.tm d = .ptr a 0 0) (hk : st.hp[a]? = some (.box x)) (hv : partA P t x 0 = some v) (hu : st.tm k = u) : finA P fn (some (.ret st)) = some (.ret (.tup [v,u]) st.hp):=by
 have h1 : resA P st (.cell d t) = some v:=by
  simp only [resA,ht,loadA,hk,if_true,hv]
 have h2 : resA P st (.tmp k) = some u:=by simp only [resA,hu]
 simp only [finA,hr,mapO,h1,h2,Option.map_some]
 rfl
def idxP {α : Type} (p : α → Bool) (k : Int) : List α → Int
 | []=>-1
 | x :: xs=>bif p x then k else idxP p (k + 1) xs
theorem idxP_iff {α : Type} (p : α → Bool) : ∀ (xs : List α) (k : Int),0 ≤ k → (idxP p k xs ≥ 0 ↔ xs.any p = true)
 | [],k,_=>by simp [idxP]
 | x :: xs,k,hk=>by
  have ih:=idxP_iff p xs (k + 1) (by omega)
  rw [List.any_cons]
  unfold idxP
  cases h : p x with
  | true=>simp; exact hk
  | false=>simp only [cond_false,Bool.false_or]; exact ih
theorem idxP_ge {α : Type} (p : α → Bool) (xs : List α) (k : Int) (hk : 0 ≤ k) : decide (idxP p k xs ≥ 0) = xs.any p:=by
 rw [Bool.eq_iff_iff,decide_eq_true_iff]
 exact idxP_iff p xs k hk
end Go.Proofs.YtebciagembenjaaDoor
/- Data in rows of one's own. -/
set_option maxHeartbeats 4000000
namespace Go.Proofs.YtebciagembenjaaDoor
open Go Go.Am
inductive Dat where
 | i (x : Int)
 | b (x : Bool)
 | p (q : Plan)
 | s (sz : Nat) (xs : List Dat)
 | g (ds : List Dat)
mutual
def Dat.enc : Dat → AVal
 | .i x=>i64 x
 | .b x=>.bool x
 | .p q=>q.enc
 | .s _ xs=>.sl (Dat.encs xs)
 | .g ds=>.agg (Dat.encC ds)
def Dat.encs : List Dat → List AVal
 | []=>[]
 | d :: ds=>d.enc :: Dat.encs ds
def Dat.encC : List Dat → List AVal
 | []=>[]
 | d :: ds=>d.enc.cells ++ Dat.encC ds
end
mutual
def Dat.dep : Dat → Nat
 | .i _=>1
 | .b _=>1
 | .p q=>2 * q.sz + 6
 | .s _ xs=>Dat.deps xs + 2
 | .g ds=>Dat.deps ds
def Dat.deps : List Dat → Nat
 | []=>1
 | d :: ds=>max d.dep (Dat.deps ds)
end
mutual
def Dat.tot : Dat → Nat
 | .i _=>0
 | .b _=>0
 | .p q=>q.sz
 | .s _ xs=>xs.length + Dat.tots xs
 | .g ds=>Dat.tots ds
def Dat.tots : List Dat → Nat
 | []=>0
 | d :: ds=>d.tot + Dat.tots ds
end
theorem Dat.encs_map (xs : List Dat) : Dat.encs xs = xs.map Dat.enc:=by induction xs with | nil=>rfl | cons x xs ih=>simp [Dat.encs,ih]
theorem Dat.encs_i (xs : List Int) : Dat.encs (xs.map Dat.i) = xs.map i64:=by induction xs with | nil=>rfl | cons x xs ih=>simp [Dat.encs,Dat.enc,ih]
mutual
def Own (h : Heap) : Dat → AVal → List Nat → Prop
 | .i x,v,F=>v = i64 x ∧ F = []
 | .b x,v,F=>v = .bool x ∧ F = []
 | .p q,v,F=>OwnP h q v F
 | .s sz xs,v,F=>(xs = [] ∧ F = [] ∧ (v = .nil ∨ v = .sl [])) ∨ ∃ id vs Fs,v = .own id 0 xs.length ∧ h[id]? = some (.arr sz vs) ∧ Owns h xs vs Fs ∧ F = id :: Fs
 | .g ds,v,F=>∃ vs,v = .agg vs ∧ OwnC h ds vs F
def Owns (h : Heap) : List Dat → List AVal → List Nat → Prop
 | [],vs,F=>vs = [] ∧ F = []
 | d :: ds,vs,F=>∃ v vs' F1 F2,vs = v :: vs' ∧ F = F1 ++ F2 ∧ Own h d v F1 ∧ Owns h ds vs' F2
def OwnC (h : Heap) : List Dat → List AVal → List Nat → Prop
 | [],vs,F=>vs = [] ∧ F = []
 | d :: ds,vs,F=>∃ v vs' F1 F2,vs = v.cells ++ vs' ∧ F = F1 ++ F2 ∧ Own h d v F1 ∧ OwnC h ds vs' F2
end
theorem Owns_len {h : Heap} : ∀ {ds : List Dat} {vs : List AVal} {F : List Nat},Owns h ds vs F → vs.length = ds.length
 | [],vs,F,hp=>by simp only [Owns] at hp; rw [hp.1]; rfl
 | p :: ps,vs,F,hp=>by
  simp only [Owns] at hp
  obtain ⟨v,vs',F1,F2,rfl,rfl,_,h2⟩:=hp
  simp [Owns_len h2]
theorem Owns_append {h : Heap} : ∀ {ps qs : List Dat} {vs ws : List AVal} {F G : List Nat},Owns h ps vs F → Owns h qs ws G → Owns h (ps ++ qs) (vs ++ ws) (F ++ G)
 | [],qs,vs,ws,F,G,hp,hq=>by simp only [Owns] at hp; obtain ⟨rfl,rfl⟩:=hp; simpa using hq
 | p :: ps,qs,vs,ws,F,G,hp,hq=>by
  simp only [Owns] at hp
  obtain ⟨v,vs',F1,F2,rfl,rfl,h1,h2⟩:=hp
  simp only [List.cons_append,Owns]
  exact ⟨v,vs' ++ ws,F1,F2 ++ G,rfl,by simp,h1,Owns_append h2 hq⟩
theorem Owns_one {h : Heap} {d : Dat} {v : AVal} {F : List Nat} (ho : Own h d v F) : Owns h [d] [v] F:=by
 simp only [Owns]
 exact ⟨v,[],F,[],rfl,by simp,ho,rfl,rfl⟩
theorem Owns_split {h : Heap} : ∀ {ps qs : List Dat} {vs : List AVal} {F : List Nat},Owns h (ps ++ qs) vs F → ∃ v1 v2 F1 F2,vs = v1 ++ v2 ∧ F = F1 ++ F2 ∧ Owns h ps v1 F1 ∧ Owns h qs v2 F2
 | [],qs,vs,F,hp=>⟨[],vs,[],F,rfl,rfl,by simp [Owns],by simpa using hp⟩
 | p :: ps,qs,vs,F,hp=>by
  simp only [List.cons_append,Owns] at hp
  obtain ⟨v,vs',F1,F2,rfl,rfl,h1,h2⟩:=hp
  obtain ⟨w1,w2,G1,G2,rfl,rfl,h3,h4⟩:=Owns_split h2
  exact ⟨v :: w1,w2,F1 ++ G1,G2,rfl,by simp,by simp only [Owns]; exact ⟨v,w1,F1,G1,rfl,rfl,h1,h3⟩,h4⟩
theorem dat_frame {h h' : Heap} : ∀ (N : Nat),(∀ (d : Dat) (v : AVal) (F : List Nat),SizeOf.sizeOf d ≤ N → Own h d v F → (∀ id ∈ F,h'[id]? = h[id]?) → Own h' d v F) ∧
  (∀ (ds : List Dat) (vs : List AVal) (F : List Nat),SizeOf.sizeOf ds ≤ N → Owns h ds vs F → (∀ id ∈ F,h'[id]? = h[id]?) → Owns h' ds vs F) ∧
  ∀ (ds : List Dat) (vs : List AVal) (F : List Nat),SizeOf.sizeOf ds ≤ N → OwnC h ds vs F → (∀ id ∈ F,h'[id]? = h[id]?) → OwnC h' ds vs F:=by
   intro N
   induction N with
   | zero=>
    refine ⟨fun d v F hs=>?_,fun ds vs F hs=>?_,fun ds vs F hs=>?_⟩
    ·cases d <;> simp at hs
    ·cases ds <;> simp at hs
    ·cases ds <;> simp at hs
   | succ N ih=>
    refine ⟨fun d v F hs hp hf=>?_,fun ds vs F hs hp hf=>?_,fun ds vs F hs hp hf=>?_⟩
    ·cases d with
     | i x=>simp only [Own] at hp ⊢; exact hp
     | b x=>simp only [Own] at hp ⊢; exact hp
     | p q=>simp only [Own] at hp ⊢; exact OwnP.frame hp hf
     | s sz xs=>
      simp only [Own] at hp ⊢
      rcases hp with h3 | ⟨id,vs,Fs,h4,h5,h6,rfl⟩
      ·exact .inl h3
      ·exact .inr ⟨id,vs,Fs,h4,by rw [hf id (by simp)]; exact h5,ih.2.1 xs vs Fs (by simp at hs; omega) h6 fun id hid=>hf id (by simp [hid]),rfl⟩
     | g ds=>
      simp only [Own] at hp ⊢
      obtain ⟨vs,rfl,h1⟩:=hp
      exact ⟨vs,rfl,ih.2.2 ds vs F (by simp at hs; omega) h1 hf⟩
    ·cases ds with
     | nil=>simp only [Owns] at hp ⊢; exact hp
     | cons p ps=>
      simp only [Owns] at hp ⊢
      obtain ⟨v,vs',F1,F2,rfl,rfl,h1,h2⟩:=hp
      simp at hs
      exact ⟨v,vs',F1,F2,rfl,rfl,ih.1 p v F1 (by omega) h1 fun id hid=>hf id (by simp [hid]),ih.2.1 ps vs' F2 (by omega) h2 fun id hid=>hf id (by simp [hid])⟩
    ·cases ds with
     | nil=>simp only [OwnC] at hp ⊢; exact hp
     | cons p ps=>
      simp only [OwnC] at hp ⊢
      obtain ⟨v,vs',F1,F2,rfl,rfl,h1,h2⟩:=hp
      simp at hs
      exact ⟨v,vs',F1,F2,rfl,rfl,ih.1 p v F1 (by omega) h1 fun id hid=>hf id (by simp [hid]),ih.2.2 ps vs' F2 (by omega) h2 fun id hid=>hf id (by simp [hid])⟩
theorem Own.frame {h h' : Heap} {d : Dat} {v : AVal} {F : List Nat} (ho : Own h d v F) (hf : ∀ id ∈ F,h'[id]? = h[id]?) : Own h' d v F:=(dat_frame _).1 d v F (Nat.le_refl _) ho hf
theorem Owns.frame {h h' : Heap} {ds : List Dat} {vs : List AVal} {F : List Nat} (ho : Owns h ds vs F) (hf : ∀ id ∈ F,h'[id]? = h[id]?) : Owns h' ds vs F:=(dat_frame _).2.1 ds vs F (Nat.le_refl _) ho hf
theorem dat_lt {h : Heap} : ∀ (N : Nat),(∀ (d : Dat) (v : AVal) (F : List Nat),SizeOf.sizeOf d ≤ N → Own h d v F → ∀ id ∈ F,id < h.length) ∧
  (∀ (ds : List Dat) (vs : List AVal) (F : List Nat),SizeOf.sizeOf ds ≤ N → Owns h ds vs F → ∀ id ∈ F,id < h.length) ∧
  ∀ (ds : List Dat) (vs : List AVal) (F : List Nat),SizeOf.sizeOf ds ≤ N → OwnC h ds vs F → ∀ id ∈ F,id < h.length:=by
   intro N
   induction N with
   | zero=>
    refine ⟨fun d v F hs=>?_,fun ds vs F hs=>?_,fun ds vs F hs=>?_⟩
    ·cases d <;> simp at hs
    ·cases ds <;> simp at hs
    ·cases ds <;> simp at hs
   | succ N ih=>
    refine ⟨fun d v F hs hp=>?_,fun ds vs F hs hp=>?_,fun ds vs F hs hp=>?_⟩
    ·cases d with
     | i x=>simp only [Own] at hp; rw [hp.2]; simp
     | b x=>simp only [Own] at hp; rw [hp.2]; simp
     | p q=>simp only [Own] at hp; exact OwnP.lt hp
     | s sz xs=>
      simp only [Own] at hp
      rcases hp with ⟨_,rfl,_⟩ | ⟨id,vs,Fs,h4,h5,h6,rfl⟩
      ·simp
      ·intro i hi
       rcases List.mem_cons.1 hi with rfl | hi
       ·exact get_lt h5
       ·exact ih.2.1 xs vs Fs (by simp at hs; omega) h6 i hi
     | g ds=>
      simp only [Own] at hp
      obtain ⟨vs,rfl,h1⟩:=hp
      exact ih.2.2 ds vs F (by simp at hs; omega) h1
    ·cases ds with
     | nil=>simp only [Owns] at hp; rw [hp.2]; simp
     | cons p ps=>
      simp only [Owns] at hp
      obtain ⟨v,vs',F1,F2,rfl,rfl,h1,h2⟩:=hp
      simp at hs
      intro id hid
      rcases List.mem_append.1 hid with hid | hid
      ·exact ih.1 p v F1 (by omega) h1 id hid
      ·exact ih.2.1 ps vs' F2 (by omega) h2 id hid
    ·cases ds with
     | nil=>simp only [OwnC] at hp; rw [hp.2]; simp
     | cons p ps=>
      simp only [OwnC] at hp
      obtain ⟨v,vs',F1,F2,rfl,rfl,h1,h2⟩:=hp
      simp at hs
      intro id hid
      rcases List.mem_append.1 hid with hid | hid
      ·exact ih.1 p v F1 (by omega) h1 id hid
      ·exact ih.2.2 ps vs' F2 (by omega) h2 id hid
theorem Own.lt {h : Heap} {d : Dat} {v : AVal} {F : List Nat} (ho : Own h d v F) : ∀ id ∈ F,id < h.length:=(dat_lt _).1 d v F (Nat.le_refl _) ho
theorem Owns.lt {h : Heap} {ds : List Dat} {vs : List AVal} {F : List Nat} (ho : Owns h ds vs F) : ∀ id ∈ F,id < h.length:=(dat_lt _).2.1 ds vs F (Nat.le_refl _) ho
theorem mapO_app {α β : Type} (f : α → Option β) : ∀ (xs ys : List α) {us ws : List β},mapO f xs = some us → mapO f ys = some ws → mapO f (xs ++ ys) = some (us ++ ws)
 | [],ys,us,ws,h1,h2=>by simp only [mapO,Option.some.injEq] at h1; subst h1; exact h2
 | x :: xs,ys,us,ws,h1,h2=>by
  simp only [mapO] at h1
  cases e1 : f x with
  | none=>rw [e1] at h1; simp at h1
  | some u=>
   rw [e1] at h1
   cases e2 : mapO f xs with
   | none=>rw [e2] at h1; simp at h1
   | some us'=>
    rw [e2] at h1
    simp only [Option.some.injEq] at h1
    subst h1
    simp only [List.cons_append,mapO,e1,mapO_app f xs ys e2 h2]
theorem plan_agg {h : Heap} {q : Plan} {v : AVal} {F : List Nat} (ho : OwnP h q v F) : ∃ cs,v = .agg cs:=by
 obtain ⟨kind,n,test,cells,a,b,keys,agg,col,kids⟩:=q
 rw [OwnP_mk] at ho
 obtain ⟨C,K,D,Fc,Fk,Fd,rfl,_⟩:=ho
 exact ⟨_,rfl⟩
theorem planE_agg (q : Plan) : ∃ cs,q.enc = .agg cs:=by
 obtain ⟨kind,n,test,cells,a,b,keys,agg,col,kids⟩:=q
 exact ⟨_,rfl⟩
theorem dat_snap {h : Heap} : ∀ (N : Nat),(∀ (d : Dat) (v : AVal) (F : List Nat) (n : Nat),SizeOf.sizeOf d ≤ N → Own h d v F → d.dep ≤ n → snapF h (n + 1) v = some d.enc ∧ mapO (snapF h n) v.cells = some d.enc.cells) ∧
  (∀ (ds : List Dat) (vs : List AVal) (F : List Nat) (n : Nat),SizeOf.sizeOf ds ≤ N → Owns h ds vs F → Dat.deps ds ≤ n → mapO (snapF h (n + 1)) vs = some (Dat.encs ds)) ∧
  ∀ (ds : List Dat) (vs : List AVal) (F : List Nat) (n : Nat),SizeOf.sizeOf ds ≤ N → OwnC h ds vs F → Dat.deps ds ≤ n → mapO (snapF h n) vs = some (Dat.encC ds):=by
   intro N
   induction N with
   | zero=>
    refine ⟨fun d v F n hs=>?_,fun ds vs F n hs=>?_,fun ds vs F n hs=>?_⟩
    ·cases d <;> simp at hs
    ·cases ds <;> simp at hs
    ·cases ds <;> simp at hs
   | succ N ih=>
    refine ⟨fun d v F n hs hp hn=>?_,fun ds vs F n hs hp hn=>?_,fun ds vs F n hs hp hn=>?_⟩
    ·cases d with
     | i x=>
      simp only [Own] at hp
      obtain ⟨rfl,_⟩:=hp
      simp only [Dat.dep] at hn
      obtain ⟨n,rfl⟩ : ∃ k,n = k + 1:=⟨n - 1,by omega⟩
      exact ⟨rfl,rfl⟩
     | b x=>
      simp only [Own] at hp
      obtain ⟨rfl,_⟩:=hp
      simp only [Dat.dep] at hn
      obtain ⟨n,rfl⟩ : ∃ k,n = k + 1:=⟨n - 1,by omega⟩
      exact ⟨rfl,rfl⟩
     | p q=>
      simp only [Own] at hp
      simp only [Dat.dep] at hn
      have e : snapF h (n + 1) v = some q.enc:=(own_snap _).1 q v F (n + 1) (Nat.le_refl _) hp (by omega)
      refine ⟨e,?_⟩
      obtain ⟨cs,rfl⟩:=plan_agg hp
      obtain ⟨cs',hc'⟩:=planE_agg q
      have e2 : (mapO (snapF h n) cs).map AVal.agg = some q.enc:=e
      rw [hc'] at e2
      simp only [Dat.enc,hc',AVal.cells]
      cases e3 : mapO (snapF h n) cs with
      | none=>rw [e3] at e2; simp at e2
      | some us=>rw [e3] at e2; simpa using e2
     | s sz xs=>
      simp only [Own] at hp
      simp only [Dat.dep] at hn
      obtain ⟨n,rfl⟩ : ∃ k,n = k + 2:=⟨n - 2,by omega⟩
      rcases hp with ⟨rfl,_,rfl | rfl⟩ | ⟨id,vs,Fs,rfl,h5,h6,_⟩
      ·exact ⟨rfl,rfl⟩
      ·exact ⟨rfl,rfl⟩
      ·have hl:=Owns_len h6
       have e1:=ih.2.1 xs vs Fs (n + 1) (by simp at hs; omega) h6 (by omega)
       have e2:=ih.2.1 xs vs Fs n (by simp at hs; omega) h6 (by omega)
       refine ⟨snapF_own h5 hl.symm e1,?_⟩
       have e3:=snapF_own h5 hl.symm e2
       simp only [AVal.cells,mapO,e3,Dat.enc]
     | g ds=>
      simp only [Own] at hp
      simp only [Dat.dep] at hn
      obtain ⟨vs,rfl,h1⟩:=hp
      have e1:=ih.2.2 ds vs F n (by simp at hs; omega) h1 (by omega)
      refine ⟨?_,?_⟩
      ·show (mapO (snapF h n) vs).map AVal.agg = _
       rw [e1]
       rfl
      ·simp only [AVal.cells,Dat.enc]
       exact e1
    ·cases ds with
     | nil=>simp only [Owns] at hp; rw [hp.1]; rfl
     | cons p ps=>
      simp only [Owns] at hp
      obtain ⟨v,vs',F1,F2,rfl,rfl,h1,h2⟩:=hp
      simp at hs
      simp only [Dat.deps] at hn
      simp only [mapO,(ih.1 p v F1 n (by omega) h1 (by omega)).1,ih.2.1 ps vs' F2 n (by omega) h2 (by omega),Dat.encs]
    ·cases ds with
     | nil=>simp only [OwnC] at hp; rw [hp.1]; rfl
     | cons p ps=>
      simp only [OwnC] at hp
      obtain ⟨v,vs',F1,F2,rfl,rfl,h1,h2⟩:=hp
      simp at hs
      simp only [Dat.deps] at hn
      exact mapO_app _ _ _ (ih.1 p v F1 n (by omega) h1 (by omega)).2 (ih.2.2 ps vs' F2 n (by omega) h2 (by omega))
theorem Own.snap {h : Heap} {d : Dat} {v : AVal} {F : List Nat} (ho : Own h d v F) (hd : d.dep ≤ 4194303) : Am.snap h v = some d.enc:=by
 obtain ⟨n,hn⟩ : ∃ n : Nat,4194304 = n + 1:=⟨4194303,by decide⟩
 unfold Am.snap
 rw [hn]
 exact ((dat_snap _).1 d v F n (Nat.le_refl _) ho (by omega)).1
theorem shift1_cells {v : AVal} {n : Nat} (h : (∃ cs,v = .agg cs) ∨ v.ownc = true) : (shift1 n v).cells = v.cells.map (shift0 n):=by
 rcases h with ⟨cs,rfl⟩ | h
 ·rfl
 ·cases v <;> first | rfl | (simp [AVal.ownc,AVal.isScalar] at h)
theorem keep_cells {v : AVal} (h : (∃ cs,v = .agg cs) ∨ v.ownc = true) (hk : v.cells.all AVal.ownc = true) : keepV v = true:=by
 rcases h with ⟨cs,rfl⟩ | h
 ·exact hk
 ·cases v <;> first | exact h | (simp [AVal.ownc,AVal.isScalar] at h)
theorem dat_shift {h h1 : Heap} : ∀ (N : Nat),(∀ (d : Dat) (v : AVal) (F : List Nat),SizeOf.sizeOf d ≤ N → Own h1 d v F → Own (h ++ h1.map (AObj.keep h.length)) d (shift1 h.length v) (F.map (· + h.length)) ∧ v.cells.all AVal.ownc = true ∧ ((∃ cs,v = .agg cs) ∨ v.ownc = true)) ∧
  (∀ (ds : List Dat) (vs : List AVal) (F : List Nat),SizeOf.sizeOf ds ≤ N → Owns h1 ds vs F → Owns (h ++ h1.map (AObj.keep h.length)) ds (vs.map (shift1 h.length)) (F.map (· + h.length)) ∧ ∀ v ∈ vs,keepV v = true) ∧
  ∀ (ds : List Dat) (vs : List AVal) (F : List Nat),SizeOf.sizeOf ds ≤ N → OwnC h1 ds vs F → OwnC (h ++ h1.map (AObj.keep h.length)) ds (vs.map (shift0 h.length)) (F.map (· + h.length)) ∧ vs.all AVal.ownc = true:=by
   intro N
   induction N with
   | zero=>
    refine ⟨fun d v F hs=>?_,fun ds vs F hs=>?_,fun ds vs F hs=>?_⟩
    ·cases d <;> simp at hs
    ·cases ds <;> simp at hs
    ·cases ds <;> simp at hs
   | succ N ih=>
    refine ⟨fun d v F hs hp=>?_,fun ds vs F hs hp=>?_,fun ds vs F hs hp=>?_⟩
    ·cases d with
     | i x=>
      simp only [Own] at hp ⊢
      obtain ⟨rfl,rfl⟩:=hp
      exact ⟨⟨rfl,rfl⟩,rfl,.inr rfl⟩
     | b x=>
      simp only [Own] at hp ⊢
      obtain ⟨rfl,rfl⟩:=hp
      exact ⟨⟨rfl,rfl⟩,rfl,.inr rfl⟩
     | p q=>
      simp only [Own] at hp ⊢
      have:=(own_shift (h:=h) _).1 q v F (Nat.le_refl _) hp
      obtain ⟨g1,g2,cs,rfl⟩:=this
      exact ⟨g1,g2,.inl ⟨cs,rfl⟩⟩
     | s sz xs=>
      simp only [Own] at hp ⊢
      rcases hp with ⟨rfl,rfl,rfl | rfl⟩ | ⟨id,vs,Fs,rfl,h5,h6,rfl⟩
      ·exact ⟨.inl ⟨rfl,rfl,.inl rfl⟩,rfl,.inr rfl⟩
      ·exact ⟨.inl ⟨rfl,rfl,.inr rfl⟩,rfl,.inr rfl⟩
      ·obtain ⟨g1,g2⟩:=ih.2.1 xs vs Fs (by simp at hs; omega) h6
       exact ⟨.inr ⟨id + h.length,_,_,rfl,by rw [joined_get h5,keep_arr g2],g1,by simp⟩,rfl,.inr rfl⟩
     | g ds=>
      simp only [Own] at hp ⊢
      obtain ⟨vs,rfl,h2⟩:=hp
      obtain ⟨g1,g2⟩:=ih.2.2 ds vs F (by simp at hs; omega) h2
      exact ⟨⟨_,rfl,g1⟩,g2,.inl ⟨_,rfl⟩⟩
    ·cases ds with
     | nil=>simp only [Owns] at hp ⊢; obtain ⟨rfl,rfl⟩:=hp; exact ⟨⟨rfl,rfl⟩,by simp⟩
     | cons p ps=>
      simp only [Owns] at hp ⊢
      obtain ⟨v,vs',F1,F2,rfl,rfl,h1,h2⟩:=hp
      simp at hs
      obtain ⟨g1,g2,g5⟩:=ih.1 p v F1 (by omega) h1
      obtain ⟨g3,g4⟩:=ih.2.1 ps vs' F2 (by omega) h2
      refine ⟨⟨_,_,_,_,rfl,by simp,g1,g3⟩,fun w hw=>?_⟩
      rcases List.mem_cons.1 hw with rfl | hw
      ·exact keep_cells g5 g2
      ·exact g4 w hw
    ·cases ds with
     | nil=>simp only [OwnC] at hp ⊢; obtain ⟨rfl,rfl⟩:=hp; exact ⟨⟨rfl,rfl⟩,by simp⟩
     | cons p ps=>
      simp only [OwnC] at hp ⊢
      obtain ⟨v,vs',F1,F2,rfl,rfl,h1,h2⟩:=hp
      simp at hs
      obtain ⟨g1,g2,g5⟩:=ih.1 p v F1 (by omega) h1
      obtain ⟨g3,g4⟩:=ih.2.2 ps vs' F2 (by omega) h2
      exact ⟨⟨_,_,_,_,by rw [shift1_cells g5,List.map_append],by simp,g1,g3⟩,by simp [g2,g4]⟩
def RetD (pr : Prims) (f : FuncId) (args : List AVal) (d : Dat) : Prop:=∃ v h1 F,call (cfp pr) f args [] = some (.ret v h1) ∧ Own h1 d v F ∧ F.Nodup
theorem shiftA_1 {n : Nat} {v : AVal} (h : (∃ cs,v = .agg cs) ∨ v.ownc = true) : shiftA n v = shift1 n v:=by
 rcases h with ⟨cs,rfl⟩ | h
 ·rfl
 ·cases v <;> first | rfl | (simp [AVal.ownc,AVal.isScalar] at h)
theorem clean_1 {v : AVal} (h : (∃ cs,v = .agg cs) ∨ v.ownc = true) (hk : v.cells.all AVal.ownc = true) : v.clean = true:=by
 rcases h with ⟨cs,rfl⟩ | h
 ·exact hk
 ·exact clean_ownc h
theorem RetD.at {pr : Prims} {f : FuncId} {args args' : List AVal} {d : Dat} {h : Heap} (hr : RetD pr f args' d) (hM : modes f = Am.Mode.N) (hs : snapL h args = some args') :
  ∃ v hh F,callM (cfp pr) (call (cfp pr)) f args h = some (.ret v hh) ∧ h <+: hh ∧ Own hh d v F ∧ F.Nodup ∧ ∀ id ∈ F,h.length ≤ id:=by
   obtain ⟨v,h1,F,hc,ho,hn⟩:=hr
   obtain ⟨g1,g2,g3⟩:=(dat_shift (h:=h) _).1 d v F (Nat.le_refl _) ho
   have hm : (cfp pr).M f = .N:=hM
   refine ⟨shift1 h.length v,h ++ h1.map (AObj.keep h.length),F.map (· + h.length),?_,List.prefix_append _ _,g1,nodup_shift _ hn,fun id hid=>?_⟩
   ·unfold callM
    simp only [hm,hs,hc,clean_1 g3 g2,if_true,shiftA_1 g3]
   ·obtain ⟨y,_,rfl⟩:=List.mem_map.1 hid
    omega
def RetT (pr : Prims) (f : FuncId) (args : List AVal) (ds : List Dat) : Prop:=∃ vs h1 F,call (cfp pr) f args [] = some (.ret (.tup vs) h1) ∧ Owns h1 ds vs F ∧ F.Nodup
theorem keepV_clean {vs : List AVal} (h : ∀ v ∈ vs,keepV v = true) : (AVal.tup vs).clean = true:=by
 show vs.all _ = true
 rw [List.all_eq_true]
 intro v hv
 have:=h v hv
 cases v <;> exact this
theorem RetT.at {pr : Prims} {f : FuncId} {args args' : List AVal} {ds : List Dat} {h : Heap} (hr : RetT pr f args' ds) (hM : modes f = Am.Mode.N) (hs : snapL h args = some args') :
  ∃ vs hh F,callM (cfp pr) (call (cfp pr)) f args h = some (.ret (.tup vs) hh) ∧ h <+: hh ∧ Owns hh ds vs F ∧ F.Nodup ∧ ∀ id ∈ F,h.length ≤ id:=by
   obtain ⟨vs,h1,F,hc,ho,hn⟩:=hr
   obtain ⟨g1,g2⟩:=(dat_shift (h:=h) _).2.1 ds vs F (Nat.le_refl _) ho
   have hm : (cfp pr).M f = .N:=hM
   refine ⟨vs.map (shift1 h.length),h ++ h1.map (AObj.keep h.length),F.map (· + h.length),?_,List.prefix_append _ _,g1,nodup_shift _ hn,fun id hid=>?_⟩
   ·unfold callM
    simp only [hm,hs,hc,keepV_clean g2,if_true]
    rfl
   ·obtain ⟨y,_,rfl⟩:=List.mem_map.1 hid
    omega
def _root_.Go.Am.Chunk.dat (d : Dat) (v : AVal) (F : List Nat) : Chunk:=⟨F,fun h=>Own h d v F,fun h h' hp hf=>Own.frame hp hf,fun h hp=>Own.lt hp⟩
def _root_.Go.Am.Chunk.dats (ds : List Dat) (vs : List AVal) (F : List Nat) : Chunk:=⟨F,fun h=>Owns h ds vs F,fun h h' hp hf=>Owns.frame hp hf,fun h hp=>Owns.lt hp⟩
set_option maxRecDepth 100000 in
theorem retD_of {pr : Prims} (hp : Okp pr) {f : FuncId} {args : List AVal} {d : Dat} (hn : plain f = true) (hw : wpFG (cfp pr) f args [] (fun r=>∃ v h F,r = .ret v h ∧ Own h d v F ∧ F.Nodup)) : RetD pr f args d:=by
 obtain ⟨r,hr,v,h,F,rfl,h1,h2⟩:=wpFG_sound (hp.out f hn) hw
 exact ⟨v,h,F,hr,h1,h2⟩
set_option maxRecDepth 100000 in
theorem retT_of {pr : Prims} (hp : Okp pr) {f : FuncId} {args : List AVal} {ds : List Dat} (hn : plain f = true) (hw : wpFG (cfp pr) f args [] (fun r=>∃ vs h F,r = .ret (.tup vs) h ∧ Owns h ds vs F ∧ F.Nodup)) : RetT pr f args ds:=by
 obtain ⟨r,hr,vs,h,F,rfl,h1,h2⟩:=wpFG_sound (hp.out f hn) hw
 exact ⟨vs,h,F,hr,h1,h2⟩
theorem OwnL_i {h : Heap} {xs : List Int} {v : AVal} {F : List Nat} : OwnL i64 1 h xs v F ↔ Own h (.s 1 (xs.map Dat.i)) v F:=by
 have key : ∀ (xs : List Int) (vs : List AVal) (F : List Nat),Owns h (xs.map Dat.i) vs F ↔ vs = xs.map i64 ∧ F = []:=by
  intro xs
  induction xs with
  | nil=>intro vs F; simp only [List.map_nil,Owns]
  | cons x xs ih=>
   intro vs F
   simp only [List.map_cons,Owns,Own]
   constructor
   ·rintro ⟨v,vs',F1,F2,rfl,rfl,⟨rfl,rfl⟩,h2⟩
    obtain ⟨rfl,rfl⟩:=(ih _ _).1 h2
    exact ⟨rfl,rfl⟩
   ·rintro ⟨rfl,rfl⟩
    exact ⟨_,_,[],[],rfl,rfl,⟨rfl,rfl⟩,(ih _ _).2 ⟨rfl,rfl⟩⟩
 simp only [OwnL,Own]
 constructor
 ·rintro (⟨rfl,rfl,hv⟩ | ⟨id,rfl,h2,rfl⟩)
  ·exact .inl ⟨rfl,rfl,hv⟩
  ·exact .inr ⟨id,_,[],by simp,h2,(key _ _ _).2 ⟨rfl,rfl⟩,rfl⟩
 ·rintro (⟨h1,rfl,hv⟩ | ⟨id,vs,Fs,rfl,h2,h3,rfl⟩)
  ·exact .inl ⟨by simpa using h1,rfl,hv⟩
  ·obtain ⟨rfl,rfl⟩:=(key _ _ _).1 h3
   exact .inr ⟨id,by simp,h2,rfl⟩
end Go.Proofs.YtebciagembenjaaDoor
/- The reference's looks at lists and plans. -/
set_option maxHeartbeats 4000000
namespace Go.Proofs.YtebciagembenjaaDoor
open Go Go.Am
variable {pr : Prims} (hp : Okp pr)
set_option maxRecDepth 100000
def many : Nat → Plan → Nat
 | 0,_=>1
 | d + 1,p=>1 + (p.kids.map (many d)).sum
end Go.Proofs.YtebciagembenjaaDoor

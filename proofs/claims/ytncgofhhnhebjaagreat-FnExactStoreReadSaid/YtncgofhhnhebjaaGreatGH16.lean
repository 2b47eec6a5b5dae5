/- The program's tests of cells and tests. -/
import Derived.Test.YtncgofhhnhebjaaGreatGH15
import Derived.Test.YtncgofhhnhebjaaGreatGH14
set_option linter.unusedVariables false
set_option linter.unusedSimpArgs false
/- Data in rows of one's own. -/
set_option maxHeartbeats 4000000
namespace Go.Proofs.YtncgofhhnhebjaaGreat
open Go Go.Am
inductive Dat where
 | i (x : Int)
 | b (x : Bool)
 | p (q : Plan)
 | s (sz : Nat) (xs : List Dat)
 | g (ds : List Dat)
mutual
def Dat.enc : Dat → AVal
 | .i x=>i64 x
 | .b x=>.bool x
 | .p q=>q.enc
 | .s _ xs=>.sl (Dat.encs xs)
 | .g ds=>.agg (Dat.encC ds)
def Dat.encs : List Dat → List AVal
 | []=>[]
 | d :: ds=>d.enc :: Dat.encs ds
def Dat.encC : List Dat → List AVal
 | []=>[]
 | d :: ds=>d.enc.cells ++ Dat.encC ds
end
mutual
def Dat.dep : Dat → Nat
 | .i _=>1
 | .b _=>1
 | .p q=>2 * q.sz + 6
 | .s _ xs=>Dat.deps xs + 2
 | .g ds=>Dat.deps ds
def Dat.deps : List Dat → Nat
 | []=>1
 | d :: ds=>max d.dep (Dat.deps ds)
end
mutual
def Dat.tot : Dat → Nat
 | .i _=>0
 | .b _=>0
 | .p q=>q.sz
 | .s _ xs=>xs.length + Dat.tots xs
 | .g ds=>Dat.tots ds
def Dat.tots : List Dat → Nat
 | []=>0
 | d :: ds=>d.tot + Dat.tots ds
end
theorem dat_dep : ∀ (N : Nat),(∀ d : Dat,SizeOf.sizeOf d ≤ N → d.dep ≤ 3 * d.tot + 6) ∧ ∀ ds : List Dat,SizeOf.sizeOf ds ≤ N → Dat.deps ds ≤ 3 * Dat.tots ds + 6:=by
 intro N
 induction N with
 | zero=>
  refine ⟨fun d hs=>?_,fun ds hs=>?_⟩
  ·cases d <;> simp at hs
  ·cases ds <;> simp at hs
 | succ N ih=>
  refine ⟨fun d hs=>?_,fun ds hs=>?_⟩
  ·cases d with
   | i x=>simp [Dat.dep]
   | b x=>simp [Dat.dep]
   | p q=>simp only [Dat.dep,Dat.tot]; omega
   | s sz xs=>
    have:=ih.2 xs (by simp at hs; omega)
    simp only [Dat.dep,Dat.tot]
    cases xs with
    | nil=>simp [Dat.deps]
    | cons x xs=>simp only [List.length_cons]; omega
   | g ds=>simp only [Dat.dep,Dat.tot]; exact ih.2 ds (by simp at hs; omega)
  ·cases ds with
   | nil=>simp [Dat.deps]
   | cons d ds=>
    simp at hs
    have h1:=ih.1 d (by omega)
    have h2:=ih.2 ds (by omega)
    simp only [Dat.deps,Dat.tots]
    omega
theorem Dat.dep_le (d : Dat) (h : d.tot ≤ 1048576) : d.dep ≤ 4194303:=by
 have:=(dat_dep _).1 d (Nat.le_refl _)
 omega
theorem Dat.tots_mem {d : Dat} : ∀ {ds : List Dat},d ∈ ds → d.tot ≤ Dat.tots ds
 | x :: xs,h=>by
  rcases List.mem_cons.1 h with rfl | h
  ·simp only [Dat.tots]; omega
  ·have:=Dat.tots_mem h; simp only [Dat.tots]; omega
theorem Dat.encs_map (xs : List Dat) : Dat.encs xs = xs.map Dat.enc:=by induction xs with | nil=>rfl | cons x xs ih=>simp [Dat.encs,ih]
theorem Dat.encs_i (xs : List Int) : Dat.encs (xs.map Dat.i) = xs.map i64:=by induction xs with | nil=>rfl | cons x xs ih=>simp [Dat.encs,Dat.enc,ih]
theorem Dat.encs_len (xs : List Dat) : (Dat.encs xs).length = xs.length:=by simp [Dat.encs_map]
mutual
def Own (h : Heap) : Dat → AVal → List Nat → Prop
 | .i x,v,F=>v = i64 x ∧ F = []
 | .b x,v,F=>v = .bool x ∧ F = []
 | .p q,v,F=>OwnP h q v F
 | .s sz xs,v,F=>(xs = [] ∧ F = [] ∧ (v = .nil ∨ v = .sl [])) ∨ ∃ id vs Fs,v = .own id 0 xs.length ∧ h[id]? = some (.arr sz vs) ∧ Owns h xs vs Fs ∧ F = id :: Fs
 | .g ds,v,F=>∃ vs,v = .agg vs ∧ OwnC h ds vs F
def Owns (h : Heap) : List Dat → List AVal → List Nat → Prop
 | [],vs,F=>vs = [] ∧ F = []
 | d :: ds,vs,F=>∃ v vs' F1 F2,vs = v :: vs' ∧ F = F1 ++ F2 ∧ Own h d v F1 ∧ Owns h ds vs' F2
def OwnC (h : Heap) : List Dat → List AVal → List Nat → Prop
 | [],vs,F=>vs = [] ∧ F = []
 | d :: ds,vs,F=>∃ v vs' F1 F2,vs = v.cells ++ vs' ∧ F = F1 ++ F2 ∧ Own h d v F1 ∧ OwnC h ds vs' F2
end
theorem Owns_len {h : Heap} : ∀ {ds : List Dat} {vs : List AVal} {F : List Nat},Owns h ds vs F → vs.length = ds.length
 | [],vs,F,hp=>by simp only [Owns] at hp; rw [hp.1]; rfl
 | p :: ps,vs,F,hp=>by
  simp only [Owns] at hp
  obtain ⟨v,vs',F1,F2,rfl,rfl,_,h2⟩:=hp
  simp [Owns_len h2]
theorem Owns_append {h : Heap} : ∀ {ps qs : List Dat} {vs ws : List AVal} {F G : List Nat},Owns h ps vs F → Owns h qs ws G → Owns h (ps ++ qs) (vs ++ ws) (F ++ G)
 | [],qs,vs,ws,F,G,hp,hq=>by simp only [Owns] at hp; obtain ⟨rfl,rfl⟩:=hp; simpa using hq
 | p :: ps,qs,vs,ws,F,G,hp,hq=>by
  simp only [Owns] at hp
  obtain ⟨v,vs',F1,F2,rfl,rfl,h1,h2⟩:=hp
  simp only [List.cons_append,Owns]
  exact ⟨v,vs' ++ ws,F1,F2 ++ G,rfl,by simp,h1,Owns_append h2 hq⟩
theorem Owns_one {h : Heap} {d : Dat} {v : AVal} {F : List Nat} (ho : Own h d v F) : Owns h [d] [v] F:=by
 simp only [Owns]
 exact ⟨v,[],F,[],rfl,by simp,ho,rfl,rfl⟩
theorem Owns_split {h : Heap} : ∀ {ps qs : List Dat} {vs : List AVal} {F : List Nat},Owns h (ps ++ qs) vs F → ∃ v1 v2 F1 F2,vs = v1 ++ v2 ∧ F = F1 ++ F2 ∧ Owns h ps v1 F1 ∧ Owns h qs v2 F2
 | [],qs,vs,F,hp=>⟨[],vs,[],F,rfl,rfl,by simp [Owns],by simpa using hp⟩
 | p :: ps,qs,vs,F,hp=>by
  simp only [List.cons_append,Owns] at hp
  obtain ⟨v,vs',F1,F2,rfl,rfl,h1,h2⟩:=hp
  obtain ⟨w1,w2,G1,G2,rfl,rfl,h3,h4⟩:=Owns_split h2
  exact ⟨v :: w1,w2,F1 ++ G1,G2,rfl,by simp,by simp only [Owns]; exact ⟨v,w1,F1,G1,rfl,rfl,h1,h3⟩,h4⟩
theorem dat_frame {h h' : Heap} : ∀ (N : Nat),(∀ (d : Dat) (v : AVal) (F : List Nat),SizeOf.sizeOf d ≤ N → Own h d v F → (∀ id ∈ F,h'[id]? = h[id]?) → Own h' d v F) ∧
  (∀ (ds : List Dat) (vs : List AVal) (F : List Nat),SizeOf.sizeOf ds ≤ N → Owns h ds vs F → (∀ id ∈ F,h'[id]? = h[id]?) → Owns h' ds vs F) ∧
  ∀ (ds : List Dat) (vs : List AVal) (F : List Nat),SizeOf.sizeOf ds ≤ N → OwnC h ds vs F → (∀ id ∈ F,h'[id]? = h[id]?) → OwnC h' ds vs F:=by
   intro N
   induction N with
   | zero=>
    refine ⟨fun d v F hs=>?_,fun ds vs F hs=>?_,fun ds vs F hs=>?_⟩
    ·cases d <;> simp at hs
    ·cases ds <;> simp at hs
    ·cases ds <;> simp at hs
   | succ N ih=>
    refine ⟨fun d v F hs hp hf=>?_,fun ds vs F hs hp hf=>?_,fun ds vs F hs hp hf=>?_⟩
    ·cases d with
     | i x=>simp only [Own] at hp ⊢; exact hp
     | b x=>simp only [Own] at hp ⊢; exact hp
     | p q=>simp only [Own] at hp ⊢; exact OwnP.frame hp hf
     | s sz xs=>
      simp only [Own] at hp ⊢
      rcases hp with h3 | ⟨id,vs,Fs,h4,h5,h6,rfl⟩
      ·exact .inl h3
      ·exact .inr ⟨id,vs,Fs,h4,by rw [hf id (by simp)]; exact h5,ih.2.1 xs vs Fs (by simp at hs; omega) h6 fun id hid=>hf id (by simp [hid]),rfl⟩
     | g ds=>
      simp only [Own] at hp ⊢
      obtain ⟨vs,rfl,h1⟩:=hp
      exact ⟨vs,rfl,ih.2.2 ds vs F (by simp at hs; omega) h1 hf⟩
    ·cases ds with
     | nil=>simp only [Owns] at hp ⊢; exact hp
     | cons p ps=>
      simp only [Owns] at hp ⊢
      obtain ⟨v,vs',F1,F2,rfl,rfl,h1,h2⟩:=hp
      simp at hs
      exact ⟨v,vs',F1,F2,rfl,rfl,ih.1 p v F1 (by omega) h1 fun id hid=>hf id (by simp [hid]),ih.2.1 ps vs' F2 (by omega) h2 fun id hid=>hf id (by simp [hid])⟩
    ·cases ds with
     | nil=>simp only [OwnC] at hp ⊢; exact hp
     | cons p ps=>
      simp only [OwnC] at hp ⊢
      obtain ⟨v,vs',F1,F2,rfl,rfl,h1,h2⟩:=hp
      simp at hs
      exact ⟨v,vs',F1,F2,rfl,rfl,ih.1 p v F1 (by omega) h1 fun id hid=>hf id (by simp [hid]),ih.2.2 ps vs' F2 (by omega) h2 fun id hid=>hf id (by simp [hid])⟩
theorem Own.frame {h h' : Heap} {d : Dat} {v : AVal} {F : List Nat} (ho : Own h d v F) (hf : ∀ id ∈ F,h'[id]? = h[id]?) : Own h' d v F:=(dat_frame _).1 d v F (Nat.le_refl _) ho hf
theorem Owns.frame {h h' : Heap} {ds : List Dat} {vs : List AVal} {F : List Nat} (ho : Owns h ds vs F) (hf : ∀ id ∈ F,h'[id]? = h[id]?) : Owns h' ds vs F:=(dat_frame _).2.1 ds vs F (Nat.le_refl _) ho hf
theorem dat_lt {h : Heap} : ∀ (N : Nat),(∀ (d : Dat) (v : AVal) (F : List Nat),SizeOf.sizeOf d ≤ N → Own h d v F → ∀ id ∈ F,id < h.length) ∧
  (∀ (ds : List Dat) (vs : List AVal) (F : List Nat),SizeOf.sizeOf ds ≤ N → Owns h ds vs F → ∀ id ∈ F,id < h.length) ∧
  ∀ (ds : List Dat) (vs : List AVal) (F : List Nat),SizeOf.sizeOf ds ≤ N → OwnC h ds vs F → ∀ id ∈ F,id < h.length:=by
   intro N
   induction N with
   | zero=>
    refine ⟨fun d v F hs=>?_,fun ds vs F hs=>?_,fun ds vs F hs=>?_⟩
    ·cases d <;> simp at hs
    ·cases ds <;> simp at hs
    ·cases ds <;> simp at hs
   | succ N ih=>
    refine ⟨fun d v F hs hp=>?_,fun ds vs F hs hp=>?_,fun ds vs F hs hp=>?_⟩
    ·cases d with
     | i x=>simp only [Own] at hp; rw [hp.2]; simp
     | b x=>simp only [Own] at hp; rw [hp.2]; simp
     | p q=>simp only [Own] at hp; exact OwnP.lt hp
     | s sz xs=>
      simp only [Own] at hp
      rcases hp with ⟨_,rfl,_⟩ | ⟨id,vs,Fs,h4,h5,h6,rfl⟩
      ·simp
      ·intro i hi
       rcases List.mem_cons.1 hi with rfl | hi
       ·exact get_lt h5
       ·exact ih.2.1 xs vs Fs (by simp at hs; omega) h6 i hi
     | g ds=>
      simp only [Own] at hp
      obtain ⟨vs,rfl,h1⟩:=hp
      exact ih.2.2 ds vs F (by simp at hs; omega) h1
    ·cases ds with
     | nil=>simp only [Owns] at hp; rw [hp.2]; simp
     | cons p ps=>
      simp only [Owns] at hp
      obtain ⟨v,vs',F1,F2,rfl,rfl,h1,h2⟩:=hp
      simp at hs
      intro id hid
      rcases List.mem_append.1 hid with hid | hid
      ·exact ih.1 p v F1 (by omega) h1 id hid
      ·exact ih.2.1 ps vs' F2 (by omega) h2 id hid
    ·cases ds with
     | nil=>simp only [OwnC] at hp; rw [hp.2]; simp
     | cons p ps=>
      simp only [OwnC] at hp
      obtain ⟨v,vs',F1,F2,rfl,rfl,h1,h2⟩:=hp
      simp at hs
      intro id hid
      rcases List.mem_append.1 hid with hid | hid
      ·exact ih.1 p v F1 (by omega) h1 id hid
      ·exact ih.2.2 ps vs' F2 (by omega) h2 id hid
theorem Own.lt {h : Heap} {d : Dat} {v : AVal} {F : List Nat} (ho : Own h d v F) : ∀ id ∈ F,id < h.length:=(dat_lt _).1 d v F (Nat.le_refl _) ho
theorem Owns.lt {h : Heap} {ds : List Dat} {vs : List AVal} {F : List Nat} (ho : Owns h ds vs F) : ∀ id ∈ F,id < h.length:=(dat_lt _).2.1 ds vs F (Nat.le_refl _) ho
theorem mapO_app {α β : Type} (f : α → Option β) : ∀ (xs ys : List α) {us ws : List β},mapO f xs = some us → mapO f ys = some ws → mapO f (xs ++ ys) = some (us ++ ws)
 | [],ys,us,ws,h1,h2=>by simp only [mapO,Option.some.injEq] at h1; subst h1; exact h2
 | x :: xs,ys,us,ws,h1,h2=>by
  simp only [mapO] at h1
  cases e1 : f x with
  | none=>rw [e1] at h1; simp at h1
  | some u=>
   rw [e1] at h1
   cases e2 : mapO f xs with
   | none=>rw [e2] at h1; simp at h1
   | some us'=>
    rw [e2] at h1
    simp only [Option.some.injEq] at h1
    subst h1
    simp only [List.cons_append,mapO,e1,mapO_app f xs ys e2 h2]
theorem plan_agg {h : Heap} {q : Plan} {v : AVal} {F : List Nat} (ho : OwnP h q v F) : ∃ cs,v = .agg cs:=by
 obtain ⟨kind,n,test,cells,a,b,keys,agg,col,kids⟩:=q
 rw [OwnP_mk] at ho
 obtain ⟨C,K,D,Fc,Fk,Fd,rfl,_⟩:=ho
 exact ⟨_,rfl⟩
theorem planE_agg (q : Plan) : ∃ cs,q.enc = .agg cs:=by
 obtain ⟨kind,n,test,cells,a,b,keys,agg,col,kids⟩:=q
 exact ⟨_,rfl⟩
theorem dat_snap {h : Heap} : ∀ (N : Nat),(∀ (d : Dat) (v : AVal) (F : List Nat) (n : Nat),SizeOf.sizeOf d ≤ N → Own h d v F → d.dep ≤ n → snapF h (n + 1) v = some d.enc ∧ mapO (snapF h n) v.cells = some d.enc.cells) ∧
  (∀ (ds : List Dat) (vs : List AVal) (F : List Nat) (n : Nat),SizeOf.sizeOf ds ≤ N → Owns h ds vs F → Dat.deps ds ≤ n → mapO (snapF h (n + 1)) vs = some (Dat.encs ds)) ∧
  ∀ (ds : List Dat) (vs : List AVal) (F : List Nat) (n : Nat),SizeOf.sizeOf ds ≤ N → OwnC h ds vs F → Dat.deps ds ≤ n → mapO (snapF h n) vs = some (Dat.encC ds):=by
   intro N
   induction N with
   | zero=>
    refine ⟨fun d v F n hs=>?_,fun ds vs F n hs=>?_,fun ds vs F n hs=>?_⟩
    ·cases d <;> simp at hs
    ·cases ds <;> simp at hs
    ·cases ds <;> simp at hs
   | succ N ih=>
    refine ⟨fun d v F n hs hp hn=>?_,fun ds vs F n hs hp hn=>?_,fun ds vs F n hs hp hn=>?_⟩
    ·cases d with
     | i x=>
      simp only [Own] at hp
      obtain ⟨rfl,_⟩:=hp
      simp only [Dat.dep] at hn
      obtain ⟨n,rfl⟩ : ∃ k,n = k + 1:=⟨n - 1,by omega⟩
      exact ⟨rfl,rfl⟩
     | b x=>
      simp only [Own] at hp
      obtain ⟨rfl,_⟩:=hp
      simp only [Dat.dep] at hn
      obtain ⟨n,rfl⟩ : ∃ k,n = k + 1:=⟨n - 1,by omega⟩
      exact ⟨rfl,rfl⟩
     | p q=>
      simp only [Own] at hp
      simp only [Dat.dep] at hn
      have e : snapF h (n + 1) v = some q.enc:=(own_snap _).1 q v F (n + 1) (Nat.le_refl _) hp (by omega)
      refine ⟨e,?_⟩
      obtain ⟨cs,rfl⟩:=plan_agg hp
      obtain ⟨cs',hc'⟩:=planE_agg q
      have e2 : (mapO (snapF h n) cs).map AVal.agg = some q.enc:=e
      rw [hc'] at e2
      simp only [Dat.enc,hc',AVal.cells]
      cases e3 : mapO (snapF h n) cs with
      | none=>rw [e3] at e2; simp at e2
      | some us=>rw [e3] at e2; simpa using e2
     | s sz xs=>
      simp only [Own] at hp
      simp only [Dat.dep] at hn
      obtain ⟨n,rfl⟩ : ∃ k,n = k + 2:=⟨n - 2,by omega⟩
      rcases hp with ⟨rfl,_,rfl | rfl⟩ | ⟨id,vs,Fs,rfl,h5,h6,_⟩
      ·exact ⟨rfl,rfl⟩
      ·exact ⟨rfl,rfl⟩
      ·have hl:=Owns_len h6
       have e1:=ih.2.1 xs vs Fs (n + 1) (by simp at hs; omega) h6 (by omega)
       have e2:=ih.2.1 xs vs Fs n (by simp at hs; omega) h6 (by omega)
       refine ⟨snapF_own h5 hl.symm e1,?_⟩
       have e3:=snapF_own h5 hl.symm e2
       simp only [AVal.cells,mapO,e3,Dat.enc]
     | g ds=>
      simp only [Own] at hp
      simp only [Dat.dep] at hn
      obtain ⟨vs,rfl,h1⟩:=hp
      have e1:=ih.2.2 ds vs F n (by simp at hs; omega) h1 (by omega)
      refine ⟨?_,?_⟩
      ·show (mapO (snapF h n) vs).map AVal.agg = _
       rw [e1]
       rfl
      ·simp only [AVal.cells,Dat.enc]
       exact e1
    ·cases ds with
     | nil=>simp only [Owns] at hp; rw [hp.1]; rfl
     | cons p ps=>
      simp only [Owns] at hp
      obtain ⟨v,vs',F1,F2,rfl,rfl,h1,h2⟩:=hp
      simp at hs
      simp only [Dat.deps] at hn
      simp only [mapO,(ih.1 p v F1 n (by omega) h1 (by omega)).1,ih.2.1 ps vs' F2 n (by omega) h2 (by omega),Dat.encs]
    ·cases ds with
     | nil=>simp only [OwnC] at hp; rw [hp.1]; rfl
     | cons p ps=>
      simp only [OwnC] at hp
      obtain ⟨v,vs',F1,F2,rfl,rfl,h1,h2⟩:=hp
      simp at hs
      simp only [Dat.deps] at hn
      exact mapO_app _ _ _ (ih.1 p v F1 n (by omega) h1 (by omega)).2 (ih.2.2 ps vs' F2 n (by omega) h2 (by omega))
theorem Own.snap {h : Heap} {d : Dat} {v : AVal} {F : List Nat} (ho : Own h d v F) (hd : d.dep ≤ 4194303) : Am.snap h v = some d.enc:=by
 obtain ⟨n,hn⟩ : ∃ n : Nat,4194304 = n + 1:=⟨4194303,by decide⟩
 unfold Am.snap
 rw [hn]
 exact ((dat_snap _).1 d v F n (Nat.le_refl _) ho (by omega)).1
theorem shift1_cells {v : AVal} {n : Nat} (h : (∃ cs,v = .agg cs) ∨ v.ownc = true) : (shift1 n v).cells = v.cells.map (shift0 n):=by
 rcases h with ⟨cs,rfl⟩ | h
 ·rfl
 ·cases v <;> first | rfl | (simp [AVal.ownc,AVal.isScalar] at h)
theorem keep_cells {v : AVal} (h : (∃ cs,v = .agg cs) ∨ v.ownc = true) (hk : v.cells.all AVal.ownc = true) : keepV v = true:=by
 rcases h with ⟨cs,rfl⟩ | h
 ·exact hk
 ·cases v <;> first | exact h | (simp [AVal.ownc,AVal.isScalar] at h)
theorem dat_shift {h h1 : Heap} : ∀ (N : Nat),(∀ (d : Dat) (v : AVal) (F : List Nat),SizeOf.sizeOf d ≤ N → Own h1 d v F → Own (h ++ h1.map (AObj.keep h.length)) d (shift1 h.length v) (F.map (· + h.length)) ∧ v.cells.all AVal.ownc = true ∧ ((∃ cs,v = .agg cs) ∨ v.ownc = true)) ∧
  (∀ (ds : List Dat) (vs : List AVal) (F : List Nat),SizeOf.sizeOf ds ≤ N → Owns h1 ds vs F → Owns (h ++ h1.map (AObj.keep h.length)) ds (vs.map (shift1 h.length)) (F.map (· + h.length)) ∧ ∀ v ∈ vs,keepV v = true) ∧
  ∀ (ds : List Dat) (vs : List AVal) (F : List Nat),SizeOf.sizeOf ds ≤ N → OwnC h1 ds vs F → OwnC (h ++ h1.map (AObj.keep h.length)) ds (vs.map (shift0 h.length)) (F.map (· + h.length)) ∧ vs.all AVal.ownc = true:=by
   intro N
   induction N with
   | zero=>
    refine ⟨fun d v F hs=>?_,fun ds vs F hs=>?_,fun ds vs F hs=>?_⟩
    ·cases d <;> simp at hs
    ·cases ds <;> simp at hs
    ·cases ds <;> simp at hs
   | succ N ih=>
    refine ⟨fun d v F hs hp=>?_,fun ds vs F hs hp=>?_,fun ds vs F hs hp=>?_⟩
    ·cases d with
     | i x=>
      simp only [Own] at hp ⊢
      obtain ⟨rfl,rfl⟩:=hp
      exact ⟨⟨rfl,rfl⟩,rfl,.inr rfl⟩
     | b x=>
      simp only [Own] at hp ⊢
      obtain ⟨rfl,rfl⟩:=hp
      exact ⟨⟨rfl,rfl⟩,rfl,.inr rfl⟩
     | p q=>
      simp only [Own] at hp ⊢
      have:=(own_shift (h:=h) _).1 q v F (Nat.le_refl _) hp
      obtain ⟨g1,g2,cs,rfl⟩:=this
      exact ⟨g1,g2,.inl ⟨cs,rfl⟩⟩
     | s sz xs=>
      simp only [Own] at hp ⊢
      rcases hp with ⟨rfl,rfl,rfl | rfl⟩ | ⟨id,vs,Fs,rfl,h5,h6,rfl⟩
      ·exact ⟨.inl ⟨rfl,rfl,.inl rfl⟩,rfl,.inr rfl⟩
      ·exact ⟨.inl ⟨rfl,rfl,.inr rfl⟩,rfl,.inr rfl⟩
      ·obtain ⟨g1,g2⟩:=ih.2.1 xs vs Fs (by simp at hs; omega) h6
       exact ⟨.inr ⟨id + h.length,_,_,rfl,by rw [joined_get h5,keep_arr g2],g1,by simp⟩,rfl,.inr rfl⟩
     | g ds=>
      simp only [Own] at hp ⊢
      obtain ⟨vs,rfl,h2⟩:=hp
      obtain ⟨g1,g2⟩:=ih.2.2 ds vs F (by simp at hs; omega) h2
      exact ⟨⟨_,rfl,g1⟩,g2,.inl ⟨_,rfl⟩⟩
    ·cases ds with
     | nil=>simp only [Owns] at hp ⊢; obtain ⟨rfl,rfl⟩:=hp; exact ⟨⟨rfl,rfl⟩,by simp⟩
     | cons p ps=>
      simp only [Owns] at hp ⊢
      obtain ⟨v,vs',F1,F2,rfl,rfl,h1,h2⟩:=hp
      simp at hs
      obtain ⟨g1,g2,g5⟩:=ih.1 p v F1 (by omega) h1
      obtain ⟨g3,g4⟩:=ih.2.1 ps vs' F2 (by omega) h2
      refine ⟨⟨_,_,_,_,rfl,by simp,g1,g3⟩,fun w hw=>?_⟩
      rcases List.mem_cons.1 hw with rfl | hw
      ·exact keep_cells g5 g2
      ·exact g4 w hw
    ·cases ds with
     | nil=>simp only [OwnC] at hp ⊢; obtain ⟨rfl,rfl⟩:=hp; exact ⟨⟨rfl,rfl⟩,by simp⟩
     | cons p ps=>
      simp only [OwnC] at hp ⊢
      obtain ⟨v,vs',F1,F2,rfl,rfl,h1,h2⟩:=hp
      simp at hs
      obtain ⟨g1,g2,g5⟩:=ih.1 p v F1 (by omega) h1
      obtain ⟨g3,g4⟩:=ih.2.2 ps vs' F2 (by omega) h2
      exact ⟨⟨_,_,_,_,by rw [shift1_cells g5,List.map_append],by simp,g1,g3⟩,by simp [g2,g4]⟩
def RetD (pr : Prims) (f : FuncId) (args : List AVal) (d : Dat) : Prop:=∃ v h1 F,call (cfp pr) f args [] = some (.ret v h1) ∧ Own h1 d v F ∧ F.Nodup
theorem shiftA_1 {n : Nat} {v : AVal} (h : (∃ cs,v = .agg cs) ∨ v.ownc = true) : shiftA n v = shift1 n v:=by
 rcases h with ⟨cs,rfl⟩ | h
 ·rfl
 ·cases v <;> first | rfl | (simp [AVal.ownc,AVal.isScalar] at h)
theorem clean_1 {v : AVal} (h : (∃ cs,v = .agg cs) ∨ v.ownc = true) (hk : v.cells.all AVal.ownc = true) : v.clean = true:=by
 rcases h with ⟨cs,rfl⟩ | h
 ·exact hk
 ·exact clean_ownc h
theorem RetD.at {pr : Prims} {f : FuncId} {args args' : List AVal} {d : Dat} {h : Heap} (hr : RetD pr f args' d) (hM : modes f = Am.Mode.N) (hs : snapL h args = some args') :
  ∃ v hh F,callM (cfp pr) (call (cfp pr)) f args h = some (.ret v hh) ∧ h <+: hh ∧ Own hh d v F ∧ F.Nodup ∧ ∀ id ∈ F,h.length ≤ id:=by
   obtain ⟨v,h1,F,hc,ho,hn⟩:=hr
   obtain ⟨g1,g2,g3⟩:=(dat_shift (h:=h) _).1 d v F (Nat.le_refl _) ho
   have hm : (cfp pr).M f = .N:=hM
   refine ⟨shift1 h.length v,h ++ h1.map (AObj.keep h.length),F.map (· + h.length),?_,List.prefix_append _ _,g1,nodup_shift _ hn,fun id hid=>?_⟩
   ·unfold callM
    simp only [hm,hs,hc,clean_1 g3 g2,if_true,shiftA_1 g3]
   ·obtain ⟨y,_,rfl⟩:=List.mem_map.1 hid
    omega
def RetT (pr : Prims) (f : FuncId) (args : List AVal) (ds : List Dat) : Prop:=∃ vs h1 F,call (cfp pr) f args [] = some (.ret (.tup vs) h1) ∧ Owns h1 ds vs F ∧ F.Nodup
theorem keepV_clean {vs : List AVal} (h : ∀ v ∈ vs,keepV v = true) : (AVal.tup vs).clean = true:=by
 show vs.all _ = true
 rw [List.all_eq_true]
 intro v hv
 have:=h v hv
 cases v <;> exact this
theorem RetT.at {pr : Prims} {f : FuncId} {args args' : List AVal} {ds : List Dat} {h : Heap} (hr : RetT pr f args' ds) (hM : modes f = Am.Mode.N) (hs : snapL h args = some args') :
  ∃ vs hh F,callM (cfp pr) (call (cfp pr)) f args h = some (.ret (.tup vs) hh) ∧ h <+: hh ∧ Owns hh ds vs F ∧ F.Nodup ∧ ∀ id ∈ F,h.length ≤ id:=by
   obtain ⟨vs,h1,F,hc,ho,hn⟩:=hr
   obtain ⟨g1,g2⟩:=(dat_shift (h:=h) _).2.1 ds vs F (Nat.le_refl _) ho
   have hm : (cfp pr).M f = .N:=hM
   refine ⟨vs.map (shift1 h.length),h ++ h1.map (AObj.keep h.length),F.map (· + h.length),?_,List.prefix_append _ _,g1,nodup_shift _ hn,fun id hid=>?_⟩
   ·unfold callM
    simp only [hm,hs,hc,keepV_clean g2,if_true]
    rfl
   ·obtain ⟨y,_,rfl⟩:=List.mem_map.1 hid
    omega
def _root_.Go.Am.Chunk.dat (d : Dat) (v : AVal) (F : List Nat) : Chunk:=⟨F,fun h=>Own h d v F,fun h h' hp hf=>Own.frame hp hf,fun h hp=>Own.lt hp⟩
def _root_.Go.Am.Chunk.dats (ds : List Dat) (vs : List AVal) (F : List Nat) : Chunk:=⟨F,fun h=>Owns h ds vs F,fun h h' hp hf=>Owns.frame hp hf,fun h hp=>Owns.lt hp⟩
set_option maxRecDepth 100000 in
theorem retD_of {pr : Prims} (hp : Okp pr) {f : FuncId} {args : List AVal} {d : Dat} (hn : plain f = true) (hw : wpFG (cfp pr) f args [] (fun r=>∃ v h F,r = .ret v h ∧ Own h d v F ∧ F.Nodup)) : RetD pr f args d:=by
 obtain ⟨r,hr,v,h,F,rfl,h1,h2⟩:=wpFG_sound (hp.out f hn) hw
 exact ⟨v,h,F,hr,h1,h2⟩
set_option maxRecDepth 100000 in
theorem retT_of {pr : Prims} (hp : Okp pr) {f : FuncId} {args : List AVal} {ds : List Dat} (hn : plain f = true) (hw : wpFG (cfp pr) f args [] (fun r=>∃ vs h F,r = .ret (.tup vs) h ∧ Owns h ds vs F ∧ F.Nodup)) : RetT pr f args ds:=by
 obtain ⟨r,hr,vs,h,F,rfl,h1,h2⟩:=wpFG_sound (hp.out f hn) hw
 exact ⟨vs,h,F,hr,h1,h2⟩
theorem OwnL_i {h : Heap} {xs : List Int} {v : AVal} {F : List Nat} : OwnL i64 1 h xs v F ↔ Own h (.s 1 (xs.map Dat.i)) v F:=by
 have key : ∀ (xs : List Int) (vs : List AVal) (F : List Nat),Owns h (xs.map Dat.i) vs F ↔ vs = xs.map i64 ∧ F = []:=by
  intro xs
  induction xs with
  | nil=>intro vs F; simp only [List.map_nil,Owns]
  | cons x xs ih=>
   intro vs F
   simp only [List.map_cons,Owns,Own]
   constructor
   ·rintro ⟨v,vs',F1,F2,rfl,rfl,⟨rfl,rfl⟩,h2⟩
    obtain ⟨rfl,rfl⟩:=(ih _ _).1 h2
    exact ⟨rfl,rfl⟩
   ·rintro ⟨rfl,rfl⟩
    exact ⟨_,_,[],[],rfl,rfl,⟨rfl,rfl⟩,(ih _ _).2 ⟨rfl,rfl⟩⟩
 simp only [OwnL,Own]
 constructor
 ·rintro (⟨rfl,rfl,hv⟩ | ⟨id,rfl,h2,rfl⟩)
  ·exact .inl ⟨rfl,rfl,hv⟩
  ·exact .inr ⟨id,_,[],by simp,h2,(key _ _ _).2 ⟨rfl,rfl⟩,rfl⟩
 ·rintro (⟨h1,rfl,hv⟩ | ⟨id,vs,Fs,rfl,h2,h3,rfl⟩)
  ·exact .inl ⟨by simpa using h1,rfl,hv⟩
  ·obtain ⟨rfl,rfl⟩:=(key _ _ _).1 h3
   exact .inr ⟨id,by simp,h2,rfl⟩
end Go.Proofs.YtncgofhhnhebjaaGreat
/- The reference's looks at lists and plans. -/
set_option maxHeartbeats 4000000
namespace Go.Proofs.YtncgofhhnhebjaaGreat
open Go Go.Am
variable {pr : Prims} (hp : Okp pr)
set_option maxRecDepth 100000
def cellsOk (xs : List Cell) (wide : Int) : Bool:=xs.all (fun c=>cellOk c wide) && (decide (1 ≤ xs.length) && decide (xs.length ≤ 6))
theorem l4Cells_r (hp : Okp pr) (xs : List Cell) (wide : Int) (hl : xs.length ≤ 1048576) : Ret pr 162 [.sl (xs.map Cell.enc),i64 wide] (.bool (cellsOk xs wide)):=by
 refine ret_of hp rfl rfl ?_
 conv=>whnf
 refine loop_rule (fun m st=>∃ j : Nat,j + m = xs.length ∧ st.tm 0 = .sl (xs.map Cell.enc) ∧ st.tm 1 = i64 wide ∧ st.tm 5 = i64 j ∧ st.hp = [] ∧ xs.all (fun c=>cellOk c wide) = (xs.drop j).all (fun c=>cellOk c wide)) (fun m st hI=>?_) (xs.length) _ ⟨0,by simp,(by first | kernel_rfl | rfl | simp),(by first | kernel_rfl | rfl | simp),(by first | kernel_rfl | rfl | simp),(by first | kernel_rfl | rfl | simp),(by first | rfl | simp)⟩
 obtain ⟨j,hj,e0,e1,e5,hh,hall⟩:=hI
 obtain ⟨tm,hq⟩:=st
 simp only at e0 e1 e5 hh
 subst hh
 rw [show tm = upd (upd (upd tm 0 (.sl (xs.map Cell.enc))) 1 (i64 wide)) 5 (i64 j) by rw [upd_id e0,upd_id e1,upd_id e5]]
 clear e0 e1 e5
 conv=>whnf
 refine bsel_intro (fun h1=>?_) (fun h1=>?_)
 ·have hjl : j < xs.length:=by simpa using h1
  rw [List.drop_eq_getElem_cons hjl,List.all_cons] at hall
  conv=>whnf
  refine ⟨(xs[j]).enc,by simp [hjl],by omega,rfl,?_⟩
  conv=>whnf
  refine ⟨_,sCellOk_r hp xs[j] wide _,?_⟩
  conv=>whnf
  refine bsel_intro (fun h2=>?_) (fun h2=>?_)
  ·conv=>whnf
   exact ⟨m - 1,by omega,j + 1,by omega,rfl,rfl,nat_step j (by omega),rfl,by rw [hall,h2]; rfl⟩
  ·conv=>whnf
   exact fin_bool (by simp [cellsOk,hall,h2])
 ·have hjl : j = xs.length := by have : ¬ j < xs.length := by simpa using h1
                                 omega
  subst hjl
  rw [List.drop_length] at hall
  conv=>whnf
  iterate 3
   all_goals (try (conv=>whnf))
   all_goals (first | (refine bsel_intro (fun hb=>?_) (fun hb=>?_)) | skip)
  all_goals exact fin_bool (by first | (simp_all [cellsOk]; done) | (simp_all [cellsOk]; omega) | (simp_all [cellsOk]; intros; omega))
def keysGo (pre : List Int) (wide : Int) : List Int → Bool
 | []=>true
 | x :: xs=>col x wide && (!(pre.contains x) && keysGo (pre ++ [x]) wide xs)
def keysOk (xs : List Int) (wide : Int) : Bool:=keysGo [] wide xs && decide (xs.length < 6)
theorem contains_drop {xs : List Int} {k : Nat} {x : Int} (h : k < xs.length) : (xs.drop k).contains x = (xs[k] == x || (xs.drop (k + 1)).contains x):=by
 rw [List.drop_eq_getElem_cons h,List.contains_cons,BEq.comm]
theorem l4Keys_r (hp : Okp pr) (xs : List Int) (wide : Int) (hl : xs.length ≤ 1048576) : Ret pr 164 [.sl (xs.map i64),i64 wide] (.bool (keysOk xs wide)):=by
 refine ret_of hp rfl rfl ?_
 conv=>whnf
 refine loop_rule (fun m st=>∃ j : Nat,j + m = xs.length ∧ st.tm 0 = .sl (xs.map i64) ∧ st.tm 1 = i64 wide ∧ st.tm 5 = i64 j ∧ st.hp = [] ∧ keysGo [] wide xs = keysGo (xs.take j) wide (xs.drop j)) (fun m st hI=>?_) (xs.length) _ ⟨0,by simp,(by first | kernel_rfl | rfl | simp),(by first | kernel_rfl | rfl | simp),(by first | kernel_rfl | rfl | simp),(by first | kernel_rfl | rfl | simp),(by first | rfl | simp)⟩
 obtain ⟨j,hj,e0,e1,e5,hh,hall⟩:=hI
 obtain ⟨tm,hq⟩:=st
 simp only at e0 e1 e5 hh
 subst hh
 rw [show tm = upd (upd (upd tm 0 (.sl (xs.map i64))) 1 (i64 wide)) 5 (i64 j) by rw [upd_id e0,upd_id e1,upd_id e5]]
 clear e0 e1 e5
 conv=>whnf
 refine bsel_intro (fun h1=>?_) (fun h1=>?_)
 ·have hjl : j < xs.length:=by simpa using h1
  have hjg : (xs.map i64)[((j : Nat) : Int).toNat]? = some (i64 xs[j]):=by simp [hjl]
  rw [List.drop_eq_getElem_cons hjl] at hall
  simp only [keysGo] at hall
  conv=>whnf
  refine ⟨i64 xs[j],hjg,by omega,rfl,?_⟩
  conv=>whnf
  refine ⟨_,l3Col_r hp xs[j] wide _,?_⟩
  conv=>whnf
  refine bsel_intro (fun h2=>?_) (fun h2=>?_)
  ·rw [h2,Bool.true_and] at hall
   conv=>whnf
   refine loop_rule (fun m' st=>∃ k : Nat,k + m' = j ∧ st.tm 0 = .sl (xs.map i64) ∧ st.tm 1 = i64 wide ∧ st.tm 5 = i64 (j : Nat) ∧ st.tm 6 = i64 (k : Nat) ∧ st.hp = [] ∧ (xs.take j).contains xs[j] = ((xs.take j).drop k).contains xs[j]) (fun m' st hI=>?_) j _ ⟨0,by omega,rfl,rfl,rfl,rfl,rfl,rfl⟩
   obtain ⟨k,hk,e0,e1,e5,e6,hh,hcon⟩:=hI
   obtain ⟨tm,hq⟩:=st
   simp only at e0 e1 e5 e6 hh
   subst hh
   rw [show tm = upd (upd (upd (upd tm 0 (.sl (xs.map i64))) 1 (i64 wide)) 5 (i64 (j : Nat))) 6 (i64 (k : Nat)) by rw [upd_id e0,upd_id e1,upd_id e5,upd_id e6]]
   clear e0 e1 e5 e6
   conv=>whnf
   refine bsel_intro (fun h3=>?_) (fun h3=>?_)
   ·have hkj : k < j:=by simpa using h3
    have hkg : (xs.map i64)[((k : Nat) : Int).toNat]? = some (i64 xs[k]):=by simp [show k < xs.length by omega]
    have hkt : k < (xs.take j).length:=by simp; omega
    rw [contains_drop hkt] at hcon
    have hel : (xs.take j)[k] = xs[k]:=by simp
    rw [hel] at hcon
    conv=>whnf
    refine ⟨i64 xs[k],hkg,by omega,rfl,?_⟩
    conv=>whnf
    refine ⟨i64 xs[j],hjg,by omega,rfl,?_⟩
    conv=>whnf
    refine bsel_intro (fun h4=>?_) (fun h4=>?_)
    ·conv=>whnf
     refine fin_bool ?_
     rw [h4,Bool.true_or] at hcon
     rw [keysOk,hall,hcon]
     rfl
    ·rw [h4,Bool.false_or] at hcon
     conv=>whnf
     exact ⟨m' - 1,by omega,k + 1,by omega,rfl,rfl,rfl,nat_step k (by omega),rfl,hcon⟩
   ·have hkj : k = j := by have : ¬ k < j := by simpa using h3
                           omega
    subst hkj
    conv=>whnf
    have hd : (xs.take k).drop k = []:=by simp
    rw [hd] at hcon
    refine ⟨m - 1,by omega,k + 1,by omega,rfl,rfl,nat_step k (by omega),rfl,?_⟩
    have htk : xs.take (k + 1) = xs.take k ++ [xs[k]]:=(List.take_append_getElem hjl).symm
    rw [hall,hcon,htk]
    rfl
  ·conv=>whnf
   exact fin_bool (by simp [keysOk,hall,h2])
 ·have hjl : j = xs.length := by have : ¬ j < xs.length := by simpa using h1
                                 omega
  subst hjl
  rw [List.drop_length] at hall
  simp only [keysGo] at hall
  conv=>whnf
  refine bsel_intro (fun h2=>?_) (fun h2=>?_)
  ·conv=>whnf
   exact fin_bool (by rw [keysOk,hall,Bool.true_and]; clear hall; simp at h2 ⊢; omega)
  ·conv=>whnf
   exact fin_bool (by rw [keysOk,hall,Bool.true_and]; clear hall; simp at h2 ⊢; omega)
def many : Nat → Plan → Nat
 | 0,_=>1
 | d + 1,p=>1 + (p.kids.map (many d)).sum
theorem many_le : ∀ (N : Nat) (p : Plan),SizeOf.sizeOf p ≤ N → ∀ d,many d p ≤ p.sz + 1:=by
 intro N
 induction N with
 | zero=>intro p h; cases p; simp at h
 | succ N ih=>
  intro p hs d
  cases d with
  | zero=>simp only [many]; omega
  | succ d=>
   obtain ⟨kind,n,test,cells,a,b,keys,agg,col,kids⟩:=p
   simp only [many,Plan.kids,Plan.sz]
   simp at hs
   have : ∀ l : List Plan,SizeOf.sizeOf l ≤ N + 1 → (l.map (many d)).sum ≤ l.length + Plan.szs l:=by
    intro l
    induction l with
    | nil=>intro _; simp [Plan.szs]
    | cons q l ihl=>
     intro h
     simp at h
     have h1:=ih q (by omega) d
     have h2:=ihl (by omega)
     simp only [List.map_cons,List.sum_cons,List.length_cons,Plan.szs]
     omega
   have:=this kids (by omega)
   omega
theorem sum_drop {l : List Nat} {j : Nat} (h : j < l.length) : (l.take (j + 1)).sum = (l.take j).sum + l[j]:=by
 rw [List.take_add_one,List.sum_append]; simp [h]
theorem sum_take_le {l : List Nat} (j : Nat) : (l.take j).sum ≤ l.sum:=by
 have:=congrArg List.sum (List.take_append_drop j l)
 rw [List.sum_append] at this
 omega
theorem l4Many_r (hp : Okp pr) : ∀ (d : Nat) (p : Plan),p.small → d ≤ 6 → Ret pr 126 [p.enc,i64 d] (i64 (many d p)):=by
 intro d
 induction d with
 | zero=>
  intro p hsm _
  obtain ⟨kind,n,test,cells,a,b,keys,agg,col,kids⟩:=p
  refine ret_of hp rfl rfl ?_
  conv=>whnf
  refine loop_rule (fun m st=>st.tm = upd (upd (upd (upd (initA [(Plan.mk kind n test cells a b keys agg col kids).enc,i64 0]) 2 (.ptr 0 0 0)) 4 (i64 0)) 5 (i64 1)) 6 (i64 0) ∧ st.hp = [.box (Plan.mk kind n test cells a b keys agg col kids).enc]) (fun m st hI=>?_) 0 _ ⟨rfl,rfl⟩
  obtain ⟨tm,hq⟩:=st
  obtain ⟨e1,e2⟩:=hI
  simp only at e1 e2
  subst e1 e2
  iterate 4
   all_goals (try (conv=>whnf))
   all_goals (first | (refine bsel_intro (fun hb=>?_) (fun hb=>?_)) | skip)
  all_goals exact ⟨_,_,rfl,rfl⟩
 | succ d ih=>
  intro p hsm hd
  have hle:=many_le _ p (Nat.le_refl _) (d + 1)
  have hsm':=hsm
  simp only [Plan.small] at hsm'
  obtain ⟨kind,n,test,cells,a,b,keys,agg,col,kids⟩:=p
  simp only [many,Plan.kids] at hle ⊢
  obtain ⟨hsc,hsk,hskids,hsks⟩:=small_split hsm
  refine ret_of hp rfl rfl ?_
  conv=>whnf
  have hst : ∀ j,((kids.map (many d)).take j).sum ≤ (kids.map (many d)).sum:=fun j=>sum_take_le j
  refine loop_rule (fun m st=>∃ j : Nat,j + m = kids.length ∧ st.tm 1 = i64 ((d + 1 : Nat) : Int) ∧ st.tm 2 = .ptr 0 0 0 ∧ st.tm 5 = i64 ((1 + ((kids.map (many d)).take j).sum : Nat) : Int) ∧ st.tm 6 = i64 (j : Nat) ∧ st.hp = [.box (Plan.mk kind n test cells a b keys agg col kids).enc]) (fun m st hI=>?_) (kids.length) _ ⟨0,by simp,(by first | kernel_rfl | rfl | simp),(by first | kernel_rfl | rfl | simp),(by first | kernel_rfl | rfl | simp),(by first | kernel_rfl | rfl | simp),(by first | kernel_rfl | rfl | simp)⟩
  obtain ⟨j,hj,e1,e2,e5,e6,hh⟩:=hI
  obtain ⟨tm,hq⟩:=st
  simp only at e1 e2 e5 e6 hh
  subst hh
  rw [show tm = upd (upd (upd (upd tm 1 (i64 ((d + 1 : Nat) : Int))) 2 (.ptr 0 0 0)) 5 (i64 ((1 + ((kids.map (many d)).take j).sum : Nat) : Int))) 6 (i64 (j : Nat)) by rw [upd_id e1,upd_id e2,upd_id e5,upd_id e6]]
  clear e1 e2 e5 e6
  conv=>whnf
  refine bsel_intro (fun h1=>?_) (fun h1=>?_)
  ·have hjl : j < kids.length := by have : j < (Plan.encs kids).length := by simpa using h1
                                    rwa [encs_len] at this
   have hd0 : decide (((d + 1 : Nat) : Int) > 0) = true:=by simp
   conv=>whnf
   refine bsel_true hd0 ?_
   conv=>whnf
   have hq : SizeOf.sizeOf kids[j] = SizeOf.sizeOf kids[j]:=rfl
   have hih:=ih kids[j] (hsks _ (List.getElem_mem hjl)) (by omega)
   have hge : (Plan.encs kids)[((j : Nat) : Int).toNat]? = some kids[j].enc:=by rw [Int.toNat_natCast,encs_get,List.getElem?_eq_getElem hjl]; rfl
   have hsum:=sum_drop (l:=kids.map (many d)) (j:=j) (by simpa using hjl)
   have hst1:=hst (j + 1)
   rw [List.getElem_map] at hsum
   generalize kids[j] = q at hih hge hsum
   obtain ⟨kind',n',test',cells',a',b',keys',agg',col',kids'⟩:=q
   refine ⟨_,hge,by omega,rfl,?_⟩
   conv=>whnf
   have hw : AVal.int .i64 (IntKind.i64.wrap (((d + 1 : Nat) : Int) - 1)) = i64 (d : Nat):=by
    have : IntKind.i64.wrap (((d + 1 : Nat) : Int) - 1) = (d : Nat):=by rw [IntKind.wrap_i64]; omega
    rw [this]; rfl
   have hih2 : Ret pr 126 [(Plan.mk kind' n' test' cells' a' b' keys' agg' col' kids').enc,AVal.int .i64 (IntKind.i64.wrap (((d + 1 : Nat) : Int) - 1))] (i64 (many d (Plan.mk kind' n' test' cells' a' b' keys' agg' col' kids'))):=by rw [hw]; exact hih
   refine ⟨_,hih2 _,?_⟩
   conv=>whnf
   refine ⟨m - 1,by omega,j + 1,by omega,rfl,rfl,?_,nat_step j (by omega),rfl⟩
   refine Eq.trans (b:=AVal.int .i64 (IntKind.i64.wrap (((1 + ((kids.map (many d)).take j).sum : Nat) : Int) + (many d (Plan.mk kind' n' test' cells' a' b' keys' agg' col' kids') : Nat)))) (by kernel_rfl) ?_
   have : IntKind.i64.wrap (((1 + ((kids.map (many d)).take j).sum : Nat) : Int) + (many d (Plan.mk kind' n' test' cells' a' b' keys' agg' col' kids') : Nat)) = ((1 + ((kids.map (many d)).take (j + 1)).sum : Nat) : Int):=by
    rw [IntKind.wrap_i64]; omega
   rw [this]; rfl
  ·have hjl : j = kids.length := by have : ¬ j < (Plan.encs kids).length := by simpa using h1
                                    rw [encs_len] at this
                                    omega
   subst hjl
   conv=>whnf
   exact fin_int (by congr 2; rw [List.take_of_length_le (by simp)])
end Go.Proofs.YtncgofhhnhebjaaGreat
/- The program's tests of cells and tests. -/
set_option maxHeartbeats 4000000
namespace Go.Proofs.YtncgofhhnhebjaaGreat
open Go Go.Am
variable {pr : Prims} (hp : Okp pr)
set_option maxRecDepth 100000
theorem zero_beq (b : Int) : ((0 : Int) == b) = (b == 0):=by rw [BEq.comm]
theorem isPlace_r (hp : Okp pr) (n wide : Int) : Ret pr 272 [i64 n,i64 wide] (.bool (col n wide)):=by
 refine ret_of hp rfl rfl ?_
 have hm : ∀ n,n < (if 6 < wide then 6 else wide) ↔ (n < wide ∧ n < 6):=fun n=>by split <;> omega
 iterate 4
  all_goals (try (conv=>whnf))
  all_goals (first | (refine bsel_intro (fun hb=>?_) (fun hb=>?_)) | skip)
 all_goals exact fin_bool (by simp only [ge_iff_le,decide_eq_true_eq,decide_eq_false_iff_not,hm] at *; first | (simp_all [col]; done) | (simp_all [col]; omega) | (simp_all [col]; intros; omega))
theorem isCell_r (hp : Okp pr) (n : Int) : Ret pr 90 [i64 n] (.bool (isCell n)):=by
 refine ret_of hp rfl rfl ?_
 iterate 3
  all_goals (try (conv=>whnf))
  all_goals (first | (refine bsel_intro (fun hb=>?_) (fun hb=>?_)) | skip)
 all_goals exact fin_bool (by first | (simp_all [isCell]; done) | (simp_all [isCell]; omega) | (simp_all [isCell]; intros; omega))
theorem wideIf_r (hp : Okp pr) (ok : Bool) (w : Int) : Ret pr 40 [.bool ok,i64 w] (i64 (if ok then w else -1)):=by
 refine ret_of hp rfl rfl ?_
 cases ok
 ·conv=>whnf
  exact fin_int rfl
 ·conv=>whnf
  exact fin_int rfl
def tCol : TypeId:=291
def tNum : TypeId:=293
def tSum : TypeId:=295
def reck (c : Cell) : AVal:=
 if c.kind = 1 then .iface tCol (.agg [i64 c.a])
 else if c.kind = 2 then .iface tNum (.agg [i64 c.n])
 else if c.kind = 3 then .iface tSum (.agg [i64 c.a,i64 c.b])
 else .nili
theorem reckoningOf_r (hp : Okp pr) (c : Cell) : Ret pr 258 [c.enc] (reck c):=by
 obtain ⟨k,a,b,n⟩:=c
 refine ret_of hp rfl rfl ?_
 rcases kind3_cases k with rfl | rfl | rfl | ⟨h1,h2,h3⟩
 iterate 3
  ·conv=>whnf
   exact ⟨_,_,rfl,rfl⟩
 ·iterate 4
   all_goals (try (conv=>whnf))
   all_goals (first | (refine bsel_false h1 ?_) | (refine bsel_false h2 ?_) | (refine bsel_false h3 ?_) | (refine bsel_intro (fun hb=>?_) (fun hb=>?_)) | skip)
  have : reck ⟨k,a,b,n⟩ = .nili:=by simp_all [reck]
  rw [this]
  exact ⟨_,_,rfl,rfl⟩
theorem colCell_r (hp : Okp pr) (a : Int) : Ret pr 292 [.agg [i64 a]] (Cell.enc ⟨1,a,0,0⟩):=by
 refine ret_of hp rfl rfl ?_
 conv=>whnf
 exact ⟨_,_,rfl,rfl⟩
theorem numCell_r (hp : Okp pr) (n : Int) : Ret pr 296 [.agg [i64 n]] (Cell.enc ⟨2,0,0,n⟩):=by
 refine ret_of hp rfl rfl ?_
 conv=>whnf
 exact ⟨_,_,rfl,rfl⟩
theorem sumCell_r (hp : Okp pr) (a b : Int) : Ret pr 300 [.agg [i64 a,i64 b]] (Cell.enc ⟨3,a,b,0⟩):=by
 refine ret_of hp rfl rfl ?_
 conv=>whnf
 exact ⟨_,_,rfl,rfl⟩
theorem colOk_r (hp : Okp pr) (a w : Int) : Ret pr 294 [.agg [i64 a],i64 w] (.bool (col a w)):=by
 refine ret_of hp rfl rfl ?_
 iterate 3
  all_goals (try (conv=>whnf))
  all_goals (first | (refine bsel_intro (fun hb=>?_) (fun hb=>?_)) | (refine ⟨_,isPlace_r hp _ _ _,?_⟩) | skip)
 all_goals exact fin_bool hb.symm
theorem numOk_r (hp : Okp pr) (n w : Int) : Ret pr 298 [.agg [i64 n],i64 w] (.bool (isCell n)):=by
 refine ret_of hp rfl rfl ?_
 iterate 3
  all_goals (try (conv=>whnf))
  all_goals (first | (refine bsel_intro (fun hb=>?_) (fun hb=>?_)) | (refine ⟨_,isCell_r hp _ _,?_⟩) | skip)
 all_goals exact fin_bool hb.symm
theorem sumOk_r (hp : Okp pr) (a b w : Int) : Ret pr 302 [.agg [i64 a,i64 b],i64 w] (.bool (col a w && col b w)):=by
 refine ret_of hp rfl rfl ?_
 iterate 5
  all_goals (try (conv=>whnf))
  all_goals (first | (refine bsel_intro (fun hb=>?_) (fun hb=>?_)) | (refine ⟨_,isPlace_r hp _ _ _,?_⟩) | skip)
 all_goals exact fin_bool (by simp_all)
theorem iCellOk_r (hp : Okp pr) (c : Cell) (w : Int) : Ret pr 257 [c.enc,i64 w] (.bool (cellOk c w)):=by
 have h0:=reckoningOf_r hp c
 obtain ⟨k,a,b,n⟩:=c
 refine ret_of hp rfl rfl ?_
 rcases kind3_cases k with rfl | rfl | rfl | ⟨h1,h2,h3⟩
 iterate 3
  ·iterate 8
    all_goals (try (conv=>whnf))
    all_goals (first | (refine bsel_intro (fun hb=>?_) (fun hb=>?_)) | (refine ⟨_,h0 _,?_⟩) | (refine ⟨_,colCell_r hp _ _,?_⟩) | (refine ⟨_,numCell_r hp _ _,?_⟩) | (refine ⟨_,sumCell_r hp _ _ _,?_⟩) | (refine ⟨_,colOk_r hp _ _ _,?_⟩) | (refine ⟨_,numOk_r hp _ _ _,?_⟩) | (refine ⟨_,sumOk_r hp _ _ _ _,?_⟩) | (refine ⟨_,_,eqS_cell,rfl,?_⟩) | skip)
   all_goals exact fin_bool (by clear h0; (try simp only [zero_beq] at *); first | (simp_all [cellOk]; done) | (simp_all [cellOk]; omega))
 ·have hr : reck ⟨k,a,b,n⟩ = .nili:=by simp_all [reck]
  rw [hr] at h0
  conv=>whnf
  refine ⟨_,h0 _,?_⟩
  conv=>whnf
  exact fin_bool (by clear h0; simp_all [cellOk])
theorem iTestOk_r (hp : Okp pr) (t : Test) (wide : Int) : Ret pr 256 [t.enc,i64 wide] (.bool (testOk t wide)):=by
 obtain ⟨k,no,l,r⟩:=t
 refine ret_of hp rfl rfl ?_
 iterate 10
  all_goals (try (conv=>whnf))
  all_goals (first | (refine bsel_intro (fun hb=>?_) (fun hb=>?_)) | (refine ⟨_,iCellOk_r hp l _ _,?_⟩) | (refine ⟨_,iCellOk_r hp r _ _,?_⟩) | skip)
 all_goals exact fin_bool (by first | (simp_all [testOk]; done) | (simp_all [testOk]; omega) | (simp_all [testOk]; intros; omega))
end Go.Proofs.YtncgofhhnhebjaaGreat

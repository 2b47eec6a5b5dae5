/- Marks in plans. -/
import Derived.Test.YtncgofhhnhebjaaGreatGH18
import Derived.Test.YtncgofhhnhebjaaGreatGSDe
import Derived.Test.YtncgofhhnhebjaaGreatGH19
set_option linter.unusedVariables false
set_option linter.unusedSimpArgs false
/- Marks in lists. -/
set_option maxHeartbeats 4000000
namespace Go.Am
open Go
structure Fr (h0 h : Heap) (F : List Nat) : Prop where
 len : h0.length ≤ h.length
 out : ∀ id,id < h0.length → id ∉ F → h[id]? = h0[id]?
theorem Fr.refl (h : Heap) (F : List Nat) : Fr h h F:=⟨Nat.le_refl _,fun _ _ _=>rfl⟩
theorem Fr.set {h0 h h' : Heap} {F : List Nat} {k : Nat} {o : AObj} (f : Fr h0 h F) (e : h' = h.set k o) (hk : k ∈ F ∨ h0.length ≤ k) : Fr h0 h' F:=
 ⟨by subst e; simpa using f.len,fun id h1 h2=>by
  subst e
  rw [List.getElem?_set_ne (fun e => by subst e; rcases hk with h | h; · exact h2 h
                                        ·omega)]
  exact f.out id h1 h2⟩
theorem Fr.alloc {h0 h h' : Heap} {F : List Nat} {o : AObj} (f : Fr h0 h F) (e : h' = h ++ [o]) : Fr h0 h' F:=
 ⟨by subst e; have:=f.len; simp; omega,fun id h1 h2=>by
  subst e
  rw [List.getElem?_append_left (by have:=f.len; omega)]
  exact f.out id h1 h2⟩
theorem Fr.turn {h0 h h' : Heap} {F F2 : List Nat} (f : Fr h0 h F) (g : Fr h h' F2) (hF : ∀ id ∈ F2,id ∈ F ∨ h0.length ≤ id) : Fr h0 h' F:=
 ⟨Nat.le_trans f.len g.len,fun id h1 h2=>by
  rw [g.out id (by have := f.len; omega) (fun hm => by rcases hF id hm with h | h; · exact h2 h
                                                       ·omega)]
  exact f.out id h1 h2⟩
theorem Fr.mono {h0 h : Heap} {F F2 : List Nat} (f : Fr h0 h F) (hF : ∀ id ∈ F,id ∈ F2 ∨ h0.length ≤ id) : Fr h0 h F2:=
 ⟨f.len, fun id h1 h2 => f.out id h1 fun hm => by rcases hF id hm with h | h; · exact h2 h
                                                  ·omega⟩
theorem Sepa.one {h : Heap} {c : Chunk} (hc : c.P h) (hn : c.F.Nodup) : Sepa h [c]:=by
 refine ⟨fun i d hi=>?_,fun i j d e hij hi hj=>?_⟩
 ·cases i with
  | zero=>simp at hi; subst hi; exact ⟨hc,hn⟩
  | succ i=>simp at hi
 ·cases i with
  | zero=>
   cases j with
   | zero=>exact absurd rfl hij
   | succ j=>simp at hj
  | succ i=>simp at hi
theorem Sepa.fr {h h' : Heap} {L : List Chunk} (s : Sepa h L) (i : Nat) {c c' : Chunk} (hi : L[i]? = some c) (g : Fr h h' c.F) (hc : c'.P h') (hF : c'.F = c.F) : Sepa h' (L.set i c'):=
 s.turn i hi g.out hc (by rw [hF]; exact (s.get' i c hi).2) fun id hid=>.inl (by rw [← hF]; exact hid)
theorem rowGet {A B : List AVal} {e : AVal} {i : Nat} (h : i = A.length) : (A ++ e :: B)[i]? = some e:=by
 subst h
 rw [List.getElem?_append_right (Nat.le_refl _),Nat.sub_self]
 rfl
theorem rowSet {A B : List AVal} {e e' : AVal} {i : Nat} (h : i = A.length) : (A ++ e :: B).set i e' = A ++ e' :: B:=by
 subst h
 rw [List.set_append_right _ _ (Nat.le_refl _),Nat.sub_self]
 rfl
theorem Sepa.setRow {h h' : Heap} {L : List Chunk} (s : Sepa h L) (i : Nat) {k sz idx : Nat} {A B : List AVal} {e e' : AVal} (hi : L[i]? = some (.row k (.arr sz (A ++ e :: B)))) (hx : idx = A.length) (hh : h' = h.set k (.arr sz ((A ++ e :: B).set idx e'))) :
  Sepa h' (L.set i (.row k (.arr sz (A ++ e' :: B)))):=by
   rw [rowSet hx] at hh
   exact s.set i hi hh
theorem wrap1 (x : Int) (h0 : 0 ≤ x) (h1 : x < 4611686018427387904) : IntKind.i64.wrap (x + 1) = x + 1:=by
 rw [IntKind.wrap_i64]
 omega
end Go.Am
namespace Go.Proofs.YtncgofhhnhebjaaGreat
open Go Go.Am
variable {pr : Prims} (hp : Okp pr)
theorem callF {f : FuncId} (hM : modes f = Am.Mode.F) (args : List AVal) (h : Heap) : callM (cfp pr) (call (cfp pr)) f args h = call (cfp pr) f args h:=by
 have hm : (cfp pr).M f = .F:=hM
 unfold callM
 simp only [hm]
def mkCells (k : Int) (n : Nat) : List Cell:=(List.range n).map fun (i : Nat)=>⟨k + 4 * (i : Int),k + 4 * (i : Int) + 1,k + 4 * (i : Int) + 1 + 1,k + 4 * (i : Int) + 1 + 1 + 1⟩
def mkInts (k : Int) (n : Nat) : List Int:=(List.range n).map fun (i : Nat)=>k + (i : Int)
theorem mkCells_len (k : Int) (n : Nat) : (mkCells k n).length = n:=by simp [mkCells]
theorem mkInts_len (k : Int) (n : Nat) : (mkInts k n).length = n:=by simp [mkInts]
theorem mkCells_succ (k : Int) (n : Nat) : mkCells k (n + 1) = mkCells k n ++ [⟨k + 4 * (n : Int),k + 4 * (n : Int) + 1,k + 4 * (n : Int) + 1 + 1,k + 4 * (n : Int) + 1 + 1 + 1⟩]:=by simp [mkCells,List.range_succ]
theorem mkInts_succ (k : Int) (n : Nat) : mkInts k (n + 1) = mkInts k n ++ [k + (n : Int)]:=by simp [mkInts,List.range_succ]
set_option maxRecDepth 100000
theorem markCellS_f (hp : Okp pr) (xs : List Cell) (v : AVal) (F : List Nat) (h : Heap) (k : Int) (ho : OwnL Cell.enc 4 h xs v F) (h0 : 0 ≤ k) (hb : k + 4 * (xs.length : Int) ≤ 1152921504606846976) :
  ∃ h',callM (cfp pr) (call (cfp pr)) 97 [v,i64 k] h = some (.ret (i64 (k + 4 * (xs.length : Int))) h') ∧ Fr h h' F ∧ OwnL Cell.enc 4 h' (mkCells k xs.length) v F:=by
   rw [callF rfl]
   suffices hw : wpFq (cfp pr) 97 [v,i64 k] h (fun r=>∃ h',r = .ret (i64 (k + 4 * (xs.length : Int))) h' ∧ Fr h h' F ∧ OwnL Cell.enc 4 h' (mkCells k xs.length) v F) by
    obtain ⟨r,hr,h',rfl,h1,h2⟩:=wpFq_sound (hp.out _ rfl) hw
    exact ⟨h',hr,h1,h2⟩
   rcases ho with ⟨rfl,rfl,hv⟩ | ⟨id,rfl,hrow,rfl⟩
   ·rcases hv with rfl | rfl
    iterate 2
     ·conv=>whnf
      refine loop_unroll ?_
      conv=>whnf
      exact ⟨_,rfl,h,by simp; rfl,Fr.refl _ _,.inl ⟨by simp [mkCells],rfl,by simp⟩⟩
   ·refine loop_ruley true (fun m st=>∃ j : Nat,j + m = xs.length ∧ st.tm 0 = .own id 0 xs.length ∧ st.tm 1 = i64 (k + 4 * (j : Int)) ∧ st.tm 5 = i64 (j : Nat) ∧
     Sepa st.hp [.row id (.arr 4 ((mkCells k j).map Cell.enc ++ (xs.drop j).map Cell.enc))] ∧ Fr h st.hp [id]) (fun m st hI=>?_) xs.length _ ⟨0,by simp,rfl,by simp; rfl,rfl,?_,Fr.refl _ _⟩
    rotate_left
    ·exact Sepa.one (c:=.row id (.arr 4 _)) (by show h[id]? = _; rw [hrow]; simp [mkCells]) (by simp [Chunk.row])
    obtain ⟨j,hj,e0,e1,e5,S,fr⟩:=hI
    obtain ⟨tm,hq⟩:=st
    simp only at e0 e1 e5 S fr
    rw [show tm = upd (upd (upd tm 0 (.own id 0 xs.length)) 1 (i64 (k + 4 * (j : Int)))) 5 (i64 (j : Nat)) by rw [upd_id e0,upd_id e1,upd_id e5]]
    clear e0 e1 e5
    have hAl : ((mkCells k j).map Cell.enc).length = j:=by simp [mkCells_len]
    have hms:=mkCells_succ k j
    have hkk : k + 4 * ((j + 1 : Nat) : Int) = k + 4 * (j : Int) + 1 + 1 + 1 + 1:=by omega
    have hb2 : j < xs.length → k + 4 * (j : Int) + 4 ≤ 1152921504606846976:=fun hjl=>by omega
    have hpos : 0 ≤ k + 4 * (j : Int):=by omega
    generalize hkd : k + 4 * (j : Int) = kk at hms hkk hb2 hpos
    conv=>whnf
    refine bsel_intro (fun h1=>?_) (fun h1=>?_)
    ·have hjl : j < xs.length:=by simpa using h1
     have hidx : 0 + ((j : Nat) : Int).toNat = ((mkCells k j).map Cell.enc).length:=by rw [hAl]; simp
     have hb3:=hb2 hjl
     rw [List.drop_eq_getElem_cons hjl,List.map_cons] at S
     generalize xs[j] = q at S
     obtain ⟨q1,q2,q3,q4⟩:=q
     conv=>whnf
     refine ⟨_,S.row 0 rfl,⟨by omega,by omega⟩,?_⟩
     conv=>whnf
     refine ⟨_,rfl,rfl,rfl,.inr ⟨_,_,_,S.row 0 rfl,rowGet hidx,?_⟩⟩
     conv=>whnf
     intro c1 hh_c1
     replace fr:=fr.set hh_c1 (.inl (by simp))
     replace S:=S.setRow 0 rfl hidx hh_c1
     dsimp only [List.set] at S
     conv=>whnf
     rw [wrap1 (kk) (by omega) (by omega)]
     refine ⟨_,S.row 0 rfl,⟨by omega,by omega⟩,?_⟩
     conv=>whnf
     refine ⟨_,rfl,rfl,rfl,.inr ⟨_,_,_,S.row 0 rfl,rowGet hidx,?_⟩⟩
     conv=>whnf
     intro c2 hh_c2
     replace fr:=fr.set hh_c2 (.inl (by simp))
     replace S:=S.setRow 0 rfl hidx hh_c2
     dsimp only [List.set] at S
     conv=>whnf
     rw [wrap1 (kk + 1) (by omega) (by omega)]
     refine ⟨_,S.row 0 rfl,⟨by omega,by omega⟩,?_⟩
     conv=>whnf
     refine ⟨_,rfl,rfl,rfl,.inr ⟨_,_,_,S.row 0 rfl,rowGet hidx,?_⟩⟩
     conv=>whnf
     intro c3 hh_c3
     replace fr:=fr.set hh_c3 (.inl (by simp))
     replace S:=S.setRow 0 rfl hidx hh_c3
     dsimp only [List.set] at S
     conv=>whnf
     rw [wrap1 (kk + 1 + 1) (by omega) (by omega)]
     refine ⟨_,S.row 0 rfl,⟨by omega,by omega⟩,?_⟩
     conv=>whnf
     refine ⟨_,rfl,rfl,rfl,.inr ⟨_,_,_,S.row 0 rfl,rowGet hidx,?_⟩⟩
     conv=>whnf
     intro c4 hh_c4
     replace fr:=fr.set hh_c4 (.inl (by simp))
     replace S:=S.setRow 0 rfl hidx hh_c4
     dsimp only [List.set] at S
     conv=>whnf
     rw [wrap1 (kk + 1 + 1 + 1) (by omega) (by omega)]
     conv=>whnf
     refine ⟨m - 1,by omega,j + 1,by omega,rfl,by rw [hkk]; rfl,nat_step j (by omega),?_,fr⟩
     rw [hms,List.map_append,List.append_assoc]
     exact S
    ·have hje : j = xs.length:=by
      have : ¬ j < xs.length:=by simpa using h1
      omega
     subst hje
     conv=>whnf
     have e:=S.row 0 rfl
     rw [List.drop_length,List.map_nil,List.append_nil] at e
     exact ⟨_,rfl,hq,by rw [hkd]; rfl,fr,.inr ⟨id,by rw [mkCells_len],e,rfl⟩⟩
theorem markIntS_f (hp : Okp pr) (xs : List Int) (v : AVal) (F : List Nat) (h : Heap) (k : Int) (ho : OwnL i64 1 h xs v F) (h0 : 0 ≤ k) (hb : k + (xs.length : Int) ≤ 1152921504606846976) :
  ∃ h',callM (cfp pr) (call (cfp pr)) 53 [v,i64 k] h = some (.ret (i64 (k + (xs.length : Int))) h') ∧ Fr h h' F ∧ OwnL i64 1 h' (mkInts k xs.length) v F:=by
   rw [callF rfl]
   suffices hw : wpFq (cfp pr) 53 [v,i64 k] h (fun r=>∃ h',r = .ret (i64 (k + (xs.length : Int))) h' ∧ Fr h h' F ∧ OwnL i64 1 h' (mkInts k xs.length) v F) by
    obtain ⟨r,hr,h',rfl,h1,h2⟩:=wpFq_sound (hp.out _ rfl) hw
    exact ⟨h',hr,h1,h2⟩
   rcases ho with ⟨rfl,rfl,hv⟩ | ⟨id,rfl,hrow,rfl⟩
   ·rcases hv with rfl | rfl
    iterate 2
     ·conv=>whnf
      refine loop_unroll ?_
      conv=>whnf
      exact ⟨_,rfl,h,by simp; rfl,Fr.refl _ _,.inl ⟨by simp [mkInts],rfl,by simp⟩⟩
   ·refine loop_ruley true (fun m st=>∃ j : Nat,j + m = xs.length ∧ st.tm 0 = .own id 0 xs.length ∧ st.tm 1 = i64 (k + (j : Int)) ∧ st.tm 5 = i64 (j : Nat) ∧
     Sepa st.hp [.row id (.arr 1 ((mkInts k j).map i64 ++ (xs.drop j).map i64))] ∧ Fr h st.hp [id]) (fun m st hI=>?_) xs.length _ ⟨0,by simp,rfl,by simp; rfl,rfl,?_,Fr.refl _ _⟩
    rotate_left
    ·exact Sepa.one (c:=.row id (.arr 1 _)) (by show h[id]? = _; rw [hrow]; simp [mkInts]) (by simp [Chunk.row])
    obtain ⟨j,hj,e0,e1,e5,S,fr⟩:=hI
    obtain ⟨tm,hq⟩:=st
    simp only at e0 e1 e5 S fr
    rw [show tm = upd (upd (upd tm 0 (.own id 0 xs.length)) 1 (i64 (k + (j : Int)))) 5 (i64 (j : Nat)) by rw [upd_id e0,upd_id e1,upd_id e5]]
    clear e0 e1 e5
    have hAl : ((mkInts k j).map i64).length = j:=by simp [mkInts_len]
    have hms:=mkInts_succ k j
    have hkk : k + ((j + 1 : Nat) : Int) = k + (j : Int) + 1:=by omega
    have hb2 : j < xs.length → k + (j : Int) + 1 ≤ 1152921504606846976:=fun hjl=>by omega
    have hpos : 0 ≤ k + (j : Int):=by omega
    generalize hkd : k + (j : Int) = kk at hms hkk hb2 hpos
    conv=>whnf
    refine bsel_intro (fun h1=>?_) (fun h1=>?_)
    ·have hjl : j < xs.length:=by simpa using h1
     have hidx : 0 + ((j : Nat) : Int).toNat = ((mkInts k j).map i64).length:=by rw [hAl]; simp
     have hb3:=hb2 hjl
     rw [List.drop_eq_getElem_cons hjl,List.map_cons] at S
     generalize xs[j] = q at S
     conv=>whnf
     refine ⟨_,S.row 0 rfl,⟨by omega,by omega⟩,?_⟩
     conv=>whnf
     refine ⟨_,rfl,rfl,rfl,.inr ⟨_,_,_,S.row 0 rfl,rowGet hidx,?_⟩⟩
     conv=>whnf
     intro c1 hh_c1
     replace fr:=fr.set hh_c1 (.inl (by simp))
     replace S:=S.setRow 0 rfl hidx hh_c1
     dsimp only [List.set] at S
     conv=>whnf
     rw [wrap1 (kk) (by omega) (by omega)]
     conv=>whnf
     refine ⟨m - 1,by omega,j + 1,by omega,rfl,by rw [hkk]; rfl,nat_step j (by omega),?_,fr⟩
     rw [hms,List.map_append,List.append_assoc]
     exact S
    ·have hje : j = xs.length:=by
      have : ¬ j < xs.length:=by simpa using h1
      omega
     subst hje
     conv=>whnf
     have e:=S.row 0 rfl
     rw [List.drop_length,List.map_nil,List.append_nil] at e
     exact ⟨_,rfl,hq,by rw [hkd]; rfl,fr,.inr ⟨id,by rw [mkInts_len],e,rfl⟩⟩
end Go.Proofs.YtncgofhhnhebjaaGreat
/- Marks in items. -/
set_option maxHeartbeats 4000000
namespace Go.Am
open Go
theorem Sepa.cut {h : Heap} {L : List Chunk} {c c1 c2 : Chunk} (s : Sepa h (c :: L)) (hF : c.F = c1.F ++ c2.F) (h1 : c1.P h) (h2 : c2.P h) : Sepa h (c1 :: c2 :: L):=by
 have hn:=(s.get' 0 c rfl).2
 rw [hF,List.nodup_append] at hn
 obtain ⟨n1,n2,n3⟩:=hn
 have ha : ∀ (j : Nat) (d : Chunk),L[j]? = some d → ∀ id ∈ c.F,id ∉ d.F:=fun j d hd=>s.apart 0 (j + 1) c d (by omega) rfl (by simpa using hd)
 have hb : ∀ (j : Nat) (d : Chunk),L[j]? = some d → ∀ id ∈ d.F,id ∉ c.F:=fun j d hd=>s.apart (j + 1) 0 d c (by omega) (by simpa using hd) rfl
 refine ⟨fun i d hi=>?_,fun i j d e hij hi hj id hid hm=>?_⟩
 ·match i,hi with
  | 0,hi=>simp at hi; subst hi; exact ⟨h1,n1⟩
  | 1,hi=>simp at hi; subst hi; exact ⟨h2,n2⟩
  | i + 2,hi=>exact s.get' (i + 1) d (by simpa using hi)
 ·match i,j,hi,hj with
  | 0,0,_,_=>exact hij rfl
  | 1,1,_,_=>exact hij rfl
  | 0,1,hi,hj=>simp at hi hj; subst hi hj; exact n3 id hid id hm rfl
  | 1,0,hi,hj=>simp at hi hj; subst hi hj; exact n3 id hm id hid rfl
  | 0,j + 2,hi,hj=>simp at hi; subst hi; exact ha j e (by simpa using hj) id (by rw [hF]; simp [hid]) hm
  | 1,j + 2,hi,hj=>simp at hi; subst hi; exact ha j e (by simpa using hj) id (by rw [hF]; simp [hid]) hm
  | i + 2,0,hi,hj=>simp at hj; subst hj; exact hb i d (by simpa using hi) id hid (by rw [hF]; simp [hm])
  | i + 2,1,hi,hj=>simp at hj; subst hj; exact hb i d (by simpa using hi) id hid (by rw [hF]; simp [hm])
  | i + 2,j + 2,hi,hj=>exact s.apart (i + 1) (j + 1) d e (by omega) (by simpa using hi) (by simpa using hj) id hid hm
theorem Sepa.frTo {h h' : Heap} {L : List Chunk} {c c' : Chunk} (s : Sepa h (c :: L)) (g : Fr h h' c.F) (hc : c'.P h') (hF : c'.F = c.F) : Sepa h' (c' :: L):=s.fr 0 rfl g hc hF
theorem Sepa.is {h : Heap} {L : List Chunk} {c c' : Chunk} (s : Sepa h (c :: L)) (hc : c'.P h) (hF : c'.F = c.F) : Sepa h (c' :: L):=s.frTo (Fr.refl h _) hc hF
end Go.Am
namespace Go.Proofs.YtncgofhhnhebjaaGreat
open Go Go.Am
variable {pr : Prims} (hp : Okp pr)
set_option maxRecDepth 100000
theorem Sepa.uncons {h : Heap} {L : List Chunk} {d : Dat} {ds : List Dat} {vs : List AVal} {F : List Nat} (s : Sepa h (.dats (d :: ds) vs F :: L)) : ∃ v vs' F1 F2,vs = v :: vs' ∧ F = F1 ++ F2 ∧ Sepa h (.dat d v F1 :: .dats ds vs' F2 :: L):=by
 have h0 : Owns h (d :: ds) vs F:=s.get 0 rfl
 simp only [Owns] at h0
 obtain ⟨v,vs',F1,F2,rfl,rfl,h1,h2⟩:=h0
 exact ⟨v,vs',F1,F2,rfl,rfl,s.cut rfl h1 h2⟩
theorem Sepa.open {h : Heap} {L : List Chunk} {sz : Nat} {xs : List Dat} {v : AVal} {F : List Nat} (s : Sepa h (.dat (.s sz xs) v F :: L)) : (xs = [] ∧ (v = .nil ∨ v = .sl []) ∧ Sepa h L) ∨ ∃ id vs Fs,v = .own id 0 xs.length ∧ F = id :: Fs ∧ Sepa h (.row id (.arr sz vs) :: .dats xs vs Fs :: L):=by
 have h0 : Own h (.s sz xs) v F:=s.get 0 rfl
 simp only [Own] at h0
 rcases h0 with ⟨h1,h2,h3⟩ | ⟨id,vs,Fs,rfl,h1,h2,rfl⟩
 ·exact .inl ⟨h1,h3,s.drop 0⟩
 ·exact .inr ⟨id,vs,Fs,rfl,rfl,s.cut rfl h1 h2⟩
theorem Sepa.close {h : Heap} {L : List Chunk} {sz n id : Nat} {xs : List Dat} {vs : List AVal} {Fs : List Nat} (s : Sepa h (.row id (.arr sz vs) :: .dats xs vs Fs :: L)) (hn : n = xs.length) : Sepa h (.dat (.s sz xs) (.own id 0 n) (id :: Fs) :: L):=by
 subst hn
 refine s.merge (e:=.dat (.s sz xs) (.own id 0 xs.length) (id :: Fs)) ?_ (fun j hj=>?_) ?_
 ·show Own h _ _ _
  simp only [Own]
  exact .inr ⟨id,vs,Fs,rfl,s.get 0 rfl,s.get 1 rfl,rfl⟩
 ·rcases List.mem_cons.1 hj with rfl | hj
  ·exact .inl (by simp [Chunk.row])
  ·exact .inr hj
 ·exact List.nodup_cons.2 ⟨fun hm=>s.apart 0 1 _ _ (by omega) rfl rfl id (by simp [Chunk.row]) hm,(s.get' 1 _ rfl).2⟩
theorem Sepa.snoc {h : Heap} {L : List Chunk} {ds : List Dat} {d : Dat} {vs : List AVal} {v : AVal} {F F2 : List Nat} (s : Sepa h (.dat d v F2 :: .dats ds vs F :: L)) : Sepa h (.dats (ds ++ [d]) (vs ++ [v]) (F ++ F2) :: L):=
 s.merge (e:=.dats (ds ++ [d]) (vs ++ [v]) (F ++ F2)) (Owns_append (s.get 1 rfl) (Owns_one (s.get 0 rfl))) (fun id hid=>(List.mem_append.1 hid).symm) s.nodup2
def mkItems : Int → List Item → List Item
 | _,[]=>[]
 | k,x :: xs=>⟨mkInts k x.row.length,k + x.row.length⟩ :: mkItems (k + x.row.length + 1) xs
theorem mkItems_len : ∀ (xs : List Item) (k : Int),(mkItems k xs).length = xs.length
 | [],_=>rfl
 | x :: xs,k=>by simp [mkItems,mkItems_len xs]
theorem tot_ints (ys : List Int) : Dat.tots (ys.map Dat.i) = 0:=by induction ys with | nil=>rfl | cons y ys ih=>simp [Dat.tots,Dat.tot,ih]
theorem Item.tot (x : Item) : x.d.tot = x.row.length:=by simp [Item.d,Ints.d,Dat.tot,Dat.tots,tot_ints]
def cntZ (xs : List Item) : Nat:=(Items.d xs).tot
theorem cntZ_nil : cntZ [] = 0:=rfl
theorem cntZ_cons (x : Item) (xs : List Item) : cntZ (x :: xs) = x.row.length + 1 + cntZ xs:=by
 simp only [cntZ,Items.d,Dat.tot,List.map_cons,Dat.tots,Item.tot,List.length_cons,List.length_map]
 omega
theorem cntZ_ge (xs : List Item) : xs.length ≤ cntZ xs:=by simp only [cntZ,Items.d,Dat.tot,List.length_map]; omega
theorem markInts_t (hp : Okp pr) (xs : List Int) {v : AVal} {F : List Nat} {h : Heap} {L : List Chunk} {k : Int} (S : Sepa h (.dat (Ints.d xs) v F :: L)) (h0 : 0 ≤ k) (hb : k + (xs.length : Int) ≤ 1152921504606846976) :
  ∃ h',callM (cfp pr) (call (cfp pr)) 53 [v,i64 k] h = some (.ret (i64 (k + (xs.length : Int))) h') ∧ Sepa h' (.dat (Ints.d (mkInts k xs.length)) v F :: L):=by
   obtain ⟨h',hc,hf,ho⟩:=markIntS_f hp xs v F h k (OwnL_i.2 (S.get 0 rfl)) h0 hb
   exact ⟨h',hc,S.frTo hf (OwnL_i.1 ho) rfl⟩
theorem markItemS_t (hp : Okp pr) (xs : List Item) {v : AVal} {F : List Nat} {h : Heap} {L : List Chunk} {k : Int} (S : Sepa h (.dat (Items.d xs) v F :: L)) (h0 : 0 ≤ k) (hb : k + (cntZ xs : Int) ≤ 1152921504606846976) :
  ∃ h' F',callM (cfp pr) (call (cfp pr)) 18 [v,i64 k] h = some (.ret (i64 (k + (cntZ xs : Int))) h') ∧ Sepa h' (.dat (Items.d (mkItems k xs)) v F' :: L):=by
   rw [callF rfl]
   suffices hw : wpFG (cfp pr) 18 [v,i64 k] h (fun r=>∃ h' F',r = .ret (i64 (k + (cntZ xs : Int))) h' ∧ Sepa h' (.dat (Items.d (mkItems k xs)) v F' :: L)) by
    obtain ⟨r,hr,h',F',rfl,h1⟩:=wpFG_sound (hp.out _ rfl) hw
    exact ⟨h',F',hr,h1⟩
   have hcg:=cntZ_ge xs
   rcases Sepa.open S with ⟨hx,hv,S1⟩ | ⟨id,vs,Fs,rfl,rfl,S1⟩
   ·have hx : xs = []:=List.map_eq_nil_iff.1 hx
    subst hx
    rcases hv with rfl | rfl
    iterate 2
     ·conv=>whnf
      refine loopG1 ?_
      conv=>whnf
      exact ⟨_,rfl,h,F,by simp [cntZ_nil]; rfl,S⟩
   ·rw [List.length_map] at *
    conv=>whnf
    refine loopG (fun m tm hp=>∃ (j : Nat) (done : List Item) (rest : List Item) (A B : List AVal) (F0 F2 : List Nat),rest.length = m ∧ j + m = xs.length ∧ A.length = j ∧ done.length = j ∧ tm 5 = i64 (j : Nat) ∧ tm 1 = i64 (k + (cntZ xs : Int) - cntZ rest) ∧ cntZ rest ≤ cntZ xs ∧ mkItems k xs = done ++ mkItems (k + (cntZ xs : Int) - cntZ rest) rest ∧
     Sepa hp (.row id (.arr 2 (A ++ B)) :: .dats (done.map Item.d) A F0 :: .dats (rest.map Item.d) B F2 :: L)) (fun m tm hq hfr hI=>?_) xs.length ⟨0,[],xs,[],vs,[],Fs,rfl,by simp,rfl,rfl,rfl,by rw [show k + (cntZ xs : Int) - cntZ xs = k by omega]; rfl,Nat.le_refl _,by simp,?_⟩
    rotate_left
    ·have S2:=S1.more (c:=.dats [] [] []) (List.prefix_refl _) (by show Owns _ _ _ _; simp [Owns]) (by simp [Chunk.dats]) (by simp [Chunk.dats])
     exact S2.swap
    obtain ⟨j,done,rest,A,B,F0,F2,hm,hj,hA,hdone,e5,e1,hle,hmk,S2⟩:=hI
    clear S S1
    have S:=S2
    clear S2
    have k0:=hfr 0 (by kernel_rfl)
    conv at k0=>rhs; whnf
    rw [← upd_id k0,← upd_id e1,← upd_id e5]
    clear hfr k0 e1 e5
    have hidx : 0 + ((j : Nat) : Int).toNat = A.length:=by rw [hA]; simp
    conv=>whnf
    refine bsel_intro (fun g1=>?_) (fun g1=>?_)
    ·have hjl : j < xs.length:=by simpa using g1
     cases rest with
     | nil=>simp at hm; omega
     | cons x rest=>
      obtain ⟨row,w⟩:=x
      replace S:=S.front 2 rfl
      dsimp only [List.eraseIdx] at S
      rw [List.map_cons] at S
      obtain ⟨v,B',F1,F3,rfl,rfl,S3⟩:=Sepa.uncons S
      have ho : Own hq (Item.d ⟨row,w⟩) v F1:=S3.get 0 rfl
      obtain ⟨vv,rfl,hu⟩:=Own_g.1 ho
      obtain ⟨P,w1,G1,G2,rfl,rfl,gP,ho2⟩:=OwnC_s.1 hu
      obtain ⟨w2,rfl,ho3⟩:=OwnC_i.1 ho2
      obtain ⟨rfl,rfl⟩:=OwnC_nil.1 ho3
      clear S
      have S:=S3.is (c':=.dat (Ints.d row) P G1) gP (by simp [Chunk.dat])
      clear S3
      rw [cntZ_cons] at hle hmk
      rw [cntZ_cons]
      have hrl : (Item.mk row w).row.length = row.length:=rfl
      rw [hrl] at *
      have hmk2 : mkItems k xs = (done ++ [⟨mkInts (k + (cntZ xs : Int) - ((row.length + 1 + cntZ rest : Nat) : Int)) row.length,k + (cntZ xs : Int) - ((row.length + 1 + cntZ rest : Nat) : Int) + row.length⟩]) ++ mkItems (k + (cntZ xs : Int) - cntZ rest) rest:=by
       rw [hmk,List.append_assoc,mkItems,show k + (cntZ xs : Int) - ((row.length + 1 + cntZ rest : Nat) : Int) + (row.length : Int) + 1 = k + (cntZ xs : Int) - cntZ rest by omega]
       rfl
      generalize hkk : k + (cntZ xs : Int) - ((row.length + 1 + cntZ rest : Nat) : Int) = kk at *
      obtain ⟨q1,hc,S4⟩:=markInts_t hp row (k:=kk) S (by omega) (by omega)
      conv=>whnf
      refine ⟨_,S.row 2 rfl,⟨by omega,by omega⟩,?_⟩
      conv=>whnf
      refine .inr ⟨_,_,_,S.row 2 rfl,rowGet hidx,?_⟩
      conv=>whnf
      refine ⟨_,hc,?_⟩
      clear S
      have S:=S4
      clear S4
      conv=>whnf
      refine ⟨_,S.row 2 rfl,⟨by omega,by omega⟩,?_⟩
      conv=>whnf
      refine ⟨_,rfl,rfl,rfl,.inr ⟨_,_,_,S.row 2 rfl,rowGet hidx,?_⟩⟩
      conv=>whnf
      intro c2 hh_c2
      replace S:=S.setRow 2 rfl hidx hh_c2
      dsimp only [List.set] at S
      conv=>whnf
      rw [wrap1 _ (by omega) (by omega)]
      conv=>whnf
      replace S:=S.front 3 rfl
      dsimp only [List.eraseIdx] at S
      replace S:=S.swap
      have S5:=S.is (c':=.dat (Item.d ⟨mkInts kk row.length,kk + row.length⟩) (.agg [P,i64 (kk + row.length)]) (G1 ++ [])) (Own_g.2 ⟨_,rfl,OwnC_one (S.get 0 rfl) (OwnC_int OwnC_no)⟩) (by simp [Chunk.dat])
      have S6:=(Sepa.snoc S5).front 2 rfl
      dsimp only [List.eraseIdx] at S6
      refine ⟨m - 1,by simp at hm; omega,j + 1,done ++ [⟨mkInts kk row.length,kk + row.length⟩],rest,A ++ [.agg [P,i64 (kk + row.length)]],B',_,_,by simp at hm; omega,by simp at hm; omega,by simp [hA],by simp [hdone],nat_step j (by omega),?_,by omega,hmk2,by rw [List.append_assoc,List.map_append]; exact S6⟩
      rw [show k + (cntZ xs : Int) - cntZ rest = kk + row.length + 1 by omega]
      rfl
    ·have hjl : ¬ j < xs.length:=by simpa using g1
     have hr : rest = []:=List.length_eq_zero_iff.1 (by omega)
     subst hr
     conv=>whnf
     have hmk' : mkItems k xs = done:=by rw [hmk]; simp [mkItems]
     refine ⟨_,rfl,hq,id :: F0,?_,?_⟩
     ·have e : k + (cntZ xs : Int) - cntZ [] = k + (cntZ xs : Int):=by rw [cntZ_nil]; omega
      exact (congrArg (fun z=>ARes.ret (i64 z) hq) e : ARes.ret (i64 (k + (cntZ xs : Int) - cntZ [])) hq = _)
     ·rw [hmk']
      have S1:=(S.front 2 rfl).drop 0
      dsimp only [List.eraseIdx] at S1
      have hB : B = []:=by
       have : Owns hq [] B F2:=S.get 2 rfl
       simp only [Owns] at this
       exact this.1
      subst hB
      rw [List.append_nil] at S1
      exact Sepa.close S1 (by rw [List.length_map]; omega)
end Go.Proofs.YtncgofhhnhebjaaGreat
/- Parts in any order, and parts of parts. No Go here. -/
set_option maxHeartbeats 4000000
namespace Go.Am
open Go
def Chunk.off (c d : Chunk) : Prop:=∀ id ∈ c.F,id ∉ d.F
theorem Chunk.off_symm {c d : Chunk} (h : c.off d) : d.off c:=fun id h1 h2=>h id h2 h1
theorem Sepa.iff {h : Heap} {L : List Chunk} : Sepa h L ↔ (∀ c ∈ L,c.P h ∧ c.F.Nodup) ∧ L.Pairwise Chunk.off:=by
 constructor
 ·intro s
  refine ⟨fun c hc=>?_,List.pairwise_iff_getElem.2 fun i j hi hj hij=>?_⟩
  ·obtain ⟨i,hi⟩:=List.getElem?_of_mem hc
   exact s.get' i c hi
  ·exact s.apart i j _ _ (by omega) (List.getElem?_eq_getElem hi) (List.getElem?_eq_getElem hj)
 ·rintro ⟨h1,h2⟩
  rw [List.pairwise_iff_getElem] at h2
  refine ⟨fun i c hi=>h1 c (List.mem_of_getElem? hi),fun i j c d hij hi hj=>?_⟩
  obtain ⟨hi',rfl⟩:=List.getElem?_eq_some_iff.1 hi
  obtain ⟨hj',rfl⟩:=List.getElem?_eq_some_iff.1 hj
  rcases Nat.lt_or_gt_of_ne hij with h | h
  ·exact h2 i j hi' hj' h
  ·exact Chunk.off_symm (h2 j i hj' hi' h)
theorem nodup_flat : ∀ {Cs : List Chunk},(Cs.flatMap Chunk.F).Nodup → (∀ c ∈ Cs,c.F.Nodup) ∧ Cs.Pairwise Chunk.off
 | [],_=>⟨fun c hc=>by simp at hc,.nil⟩
 | c :: Cs,hn=>by
  rw [List.flatMap_cons,List.nodup_append] at hn
  obtain ⟨n1,n2,n3⟩:=hn
  obtain ⟨i1,i2⟩:=nodup_flat n2
  refine ⟨fun d hd=>?_,List.pairwise_cons.2 ⟨fun d hd id h1 h2=>n3 id h1 id (List.mem_flatMap.2 ⟨d,hd,h2⟩) rfl,i2⟩⟩
  rcases List.mem_cons.1 hd with rfl | hd
  ·exact n1
  ·exact i1 d hd
theorem Sepa.cuts {h : Heap} {L : List Chunk} {c : Chunk} (s : Sepa h (c :: L)) (Cs : List Chunk) (hF : c.F = Cs.flatMap Chunk.F) (hP : ∀ d ∈ Cs,d.P h) : Sepa h (Cs ++ L):=by
 obtain ⟨h1,h2⟩:=Sepa.iff.1 s
 obtain ⟨h3,h4⟩:=List.pairwise_cons.1 h2
 have hn:=(h1 c (by simp)).2
 rw [hF] at hn
 obtain ⟨n1,n2⟩:=nodup_flat hn
 refine Sepa.iff.2 ⟨fun d hd=>?_,List.pairwise_append.2 ⟨n2,h4,fun a ha b hb id hi=>h3 b hb id ?_⟩⟩
 ·rcases List.mem_append.1 hd with hd | hd
  ·exact ⟨hP d hd,n1 d hd⟩
  ·exact h1 d (by simp [hd])
 ·rw [hF]
  exact List.mem_flatMap.2 ⟨a,ha,hi⟩
end Go.Am
/- Marks in plans. -/
set_option maxHeartbeats 4000000
namespace Go.Am
open Go
theorem Sepa.split {h : Heap} {L : List Chunk} {c d e : Chunk} (s : Sepa h (e :: L)) (hc : c.P h) (hd : d.P h) (hF : ∀ id,id ∈ c.F ∨ id ∈ d.F → id ∈ e.F) (hn : (c.F ++ d.F).Nodup) : Sepa h (c :: d :: L):=by
 rw [List.nodup_append] at hn
 obtain ⟨n1,n2,n3⟩:=hn
 refine ⟨fun i x hi=>?_,fun i j x y hij hi hj id hid hm=>?_⟩
 ·match i,hi with
  | 0,hi=>simp at hi; subst hi; exact ⟨hc,n1⟩
  | 1,hi=>simp at hi; subst hi; exact ⟨hd,n2⟩
  | i + 2,hi=>exact s.get' (i + 1) x (by simpa using hi)
 ·match i,hi,j,hj with
  | 0,_,0,_=>exact hij rfl
  | 1,_,1,_=>exact hij rfl
  | 0,hi,1,hj=>simp at hi hj; subst hi; subst hj; exact n3 id hid id hm rfl
  | 1,hi,0,hj=>simp at hi hj; subst hi; subst hj; exact n3 id hm id hid rfl
  | 0,hi,j + 2,hj=>simp at hi; subst hi; exact s.apart 0 (j + 1) e y (by omega) rfl (by simpa using hj) id (hF id (.inl hid)) hm
  | 1,hi,j + 2,hj=>simp at hi; subst hi; exact s.apart 0 (j + 1) e y (by omega) rfl (by simpa using hj) id (hF id (.inr hid)) hm
  | i + 2,hi,0,hj=>simp at hj; subst hj; exact s.apart 0 (i + 1) e x (by omega) rfl (by simpa using hi) id (hF id (.inl hm)) hid
  | i + 2,hi,1,hj=>simp at hj; subst hj; exact s.apart 0 (i + 1) e x (by omega) rfl (by simpa using hi) id (hF id (.inr hm)) hid
  | i + 2,hi,j + 2,hj=>exact s.apart (i + 1) (j + 1) x y (by omega) (by simpa using hi) (by simpa using hj) id hid hm
end Go.Am
namespace Go.Proofs.YtncgofhhnhebjaaGreat
open Go Go.Am
variable {pr : Prims} (hp : Okp pr)
def k12 (k : Int) : Int:=k + 1 + 1 + 1 + 1 + 1 + 1 + 1 + 1 + 1 + 1 + 1 + 1
def mkTest (k : Int) : Test:=⟨k + 1 + 1,(k + 1 + 1 + 1).tmod 3 == 0,⟨k + 1 + 1 + 1 + 1,k + 1 + 1 + 1 + 1 + 1,k + 1 + 1 + 1 + 1 + 1 + 1,k + 1 + 1 + 1 + 1 + 1 + 1 + 1⟩,
 ⟨k + 1 + 1 + 1 + 1 + 1 + 1 + 1 + 1,k + 1 + 1 + 1 + 1 + 1 + 1 + 1 + 1 + 1,k + 1 + 1 + 1 + 1 + 1 + 1 + 1 + 1 + 1 + 1,k + 1 + 1 + 1 + 1 + 1 + 1 + 1 + 1 + 1 + 1 + 1⟩⟩
mutual
def MkOne : Plan → Int → Int → Prop
 | .mk kind n test cells a b keys agg col kids,k,k'=>kind = k ∧ n = k + 1 ∧ test = mkTest k ∧ cells = mkCells (k12 k) cells.length ∧ a = k12 k + 4 * (cells.length : Int) ∧ b = k12 k + 4 * (cells.length : Int) + 1 ∧
   keys = mkInts (k12 k + 4 * (cells.length : Int) + 1 + 1) keys.length ∧ agg = k12 k + 4 * (cells.length : Int) + 1 + 1 + (keys.length : Int) ∧ col = k12 k + 4 * (cells.length : Int) + 1 + 1 + (keys.length : Int) + 1 ∧
   MkS kids (k12 k + 4 * (cells.length : Int) + 1 + 1 + (keys.length : Int) + 1 + 1) k'
def MkS : List Plan → Int → Int → Prop
 | [],k,k'=>k' = k
 | p :: ps,k,k'=>∃ k1,MkOne p k k1 ∧ MkS ps k1 k'
end
theorem MkS_append : ∀ {ps : List Plan} {p : Plan} {k k1 k2 : Int},MkS ps k k1 → MkOne p k1 k2 → MkS (ps ++ [p]) k k2
 | [],p,k,k1,k2,h,h2=>by simp only [MkS] at h; subst h; simp only [List.nil_append,MkS]; exact ⟨k2,h2,rfl⟩
 | q :: qs,p,k,k1,k2,h,h2=>by
  simp only [MkS] at h
  obtain ⟨k3,h3,h4⟩:=h
  simp only [List.cons_append,MkS]
  exact ⟨k3,h3,MkS_append h4 h2⟩
mutual
def cm : Plan → Nat
 | .mk kind n test cells a b keys agg col kids=>16 + 4 * cells.length + keys.length + cms kids
def cms : List Plan → Nat
 | []=>0
 | p :: ps=>cm p + cms ps
end
theorem cms_append : ∀ (ps qs : List Plan),cms (ps ++ qs) = cms ps + cms qs
 | [],qs=>by simp [cms]
 | p :: ps,qs=>by simp only [List.cons_append,cms,cms_append ps qs]; omega
theorem cm_sz' : ∀ (N : Nat),(∀ p : Plan,SizeOf.sizeOf p ≤ N → cm p ≤ 16 + 16 * p.sz) ∧ ∀ ps : List Plan,SizeOf.sizeOf ps ≤ N → cms ps ≤ 16 * ps.length + 16 * Plan.szs ps:=by
 intro N
 induction N with
 | zero=>
  refine ⟨fun p h=>?_,fun ps h=>?_⟩
  ·cases p; simp at h
  ·cases ps <;> simp at h
 | succ N ih=>
  refine ⟨fun p h=>?_,fun ps h=>?_⟩
  ·obtain ⟨kind,n,test,cells,a,b,keys,agg,col,kids⟩:=p
   have:=ih.2 kids (by simp at h; omega)
   simp only [cm,Plan.sz]
   omega
  ·cases ps with
   | nil=>simp [cms]
   | cons p ps=>
    simp at h
    have h1:=ih.1 p (by omega)
    have h2:=ih.2 ps (by omega)
    simp only [cms,Plan.szs,List.length_cons]
    omega
theorem cms_ge : ∀ ps : List Plan,ps.length ≤ cms ps
 | []=>by simp
 | .mk .. :: ps=>by have:=cms_ge ps; simp only [cms,cm,List.length_cons]; omega
theorem cms_sz (ps : List Plan) : cms ps ≤ 16 * ps.length + 16 * Plan.szs ps:=(cm_sz' _).2 ps (Nat.le_refl _)
def _root_.Go.Am.Chunk.two (c d : Chunk) : Chunk:=⟨c.F ++ d.F,fun h=>c.P h ∧ d.P h,fun h h' hp hf=>⟨c.loc h h' hp.1 fun id hid=>hf id (by simp [hid]),d.loc h h' hp.2 fun id hid=>hf id (by simp [hid])⟩,
 fun h hp id hid=>(List.mem_append.1 hid).elim (c.lt h hp.1 id) (d.lt h hp.2 id)⟩
theorem gather {h : Heap} {R P2 : Chunk} {qs : List Plan} {v1 : List AVal} {F1 Fc Fk Fd : List Nat} {C K D : AVal} {kind n : Int} {test : Test} {cells : List Cell} {a b : Int} {keys : List Int} {agg col : Int} {kids : List Plan}
  (S : Sepa h [R,.plans qs v1 F1,.list Cell.enc 4 cells C Fc,.list i64 1 keys K Fk,.kids kids D Fd,P2]) :
  Sepa h [R,.plans (qs ++ [.mk kind n test cells a b keys agg col kids]) (v1 ++ [pval kind n test C a b K agg col D]) (F1 ++ (Fc ++ (Fk ++ Fd))),P2]:=by
   have T1:=((S.front 4 rfl).front 4 rfl).swap
   dsimp only [List.eraseIdx] at T1
   have T2:=T1.merge (e:=(Chunk.list i64 1 keys K Fk).two (.kids kids D Fd)) ⟨T1.get 1 rfl,T1.get 0 rfl⟩ (fun id hid=>(List.mem_append.1 hid).symm) T1.nodup2
   have T3:=(T2.front 3 rfl).swap
   dsimp only [List.eraseIdx] at T3
   have T4:=T3.merge (e:=.plan (.mk kind n test cells a b keys agg col kids) (pval kind n test C a b K agg col D) (Fc ++ (Fk ++ Fd))) (OwnP.of (T3.get 1 rfl) (T3.get 0 rfl).1 (T3.get 0 rfl).2) (fun id hid=>(List.mem_append.1 hid).symm) T3.nodup2
   have T5:=(T4.front 2 rfl).swap
   dsimp only [List.eraseIdx] at T5
   have T6:=T5.merge (e:=.plans (qs ++ [.mk kind n test cells a b keys agg col kids]) (v1 ++ [pval kind n test C a b K agg col D]) (F1 ++ (Fc ++ (Fk ++ Fd))))
    (OwnPs_append (T5.get 1 rfl) (by simp only [OwnPs]; exact ⟨_,[],_,[],rfl,by simp,T5.get 0 rfl,rfl,rfl⟩)) (fun id hid=>(List.mem_append.1 hid).symm) T5.nodup2
   exact T6.swap
theorem ungather {h : Heap} {R P1 : Chunk} {v2 : List AVal} {F2 : List Nat} {kind n : Int} {test : Test} {cells : List Cell} {a b : Int} {keys : List Int} {agg col : Int} {kids rest : List Plan}
  (S : Sepa h [R,P1,.plans (.mk kind n test cells a b keys agg col kids :: rest) v2 F2]) :
  ∃ C K D v2' Fc Fk Fd F2',v2 = pval kind n test C a b K agg col D :: v2' ∧ F2 = (Fc ++ (Fk ++ Fd)) ++ F2' ∧ Sepa h [R,P1,.list Cell.enc 4 cells C Fc,.list i64 1 keys K Fk,.kids kids D Fd,.plans rest v2' F2']:=by
   have h1 : OwnPs h _ v2 F2:=S.get 2 rfl
   simp only [OwnPs] at h1
   obtain ⟨v,v2',Fp,F2',rfl,rfl,h2,h3⟩:=h1
   have h2':=h2
   rw [OwnP_mk] at h2
   obtain ⟨C,K,D,Fc,Fk,Fd,rfl,g1,g2,g3,rfl⟩:=h2
   have hn : (((Fc ++ (Fk ++ Fd)) ++ F2')).Nodup:=(S.get' 2 _ rfl).2
   refine ⟨C,K,D,v2',Fc,Fk,Fd,F2',rfl,rfl,?_⟩
   have T0:=S.front 2 rfl
   dsimp only [List.eraseIdx] at T0
   have T1:=T0.split (c:=.plan (.mk kind n test cells a b keys agg col kids) _ (Fc ++ (Fk ++ Fd))) (d:=.plans rest v2' F2') h2' h3 (fun id hid=>List.mem_append.2 hid) hn
   have hn1 : (Fc ++ (Fk ++ Fd)).Nodup:=(List.nodup_append.1 hn).1
   have T2:=T1.split (c:=.list Cell.enc 4 cells C Fc) (d:=(Chunk.list i64 1 keys K Fk).two (.kids kids D Fd)) g1 ⟨g2,g3⟩ (fun id hid=>List.mem_append.2 hid) hn1
   have T3:=T2.swap.split (c:=.list i64 1 keys K Fk) (d:=.kids kids D Fd) g2 g3 (fun id hid=>List.mem_append.2 hid) (List.nodup_append.1 hn1).2.1
   -- [lk,kd,lc,P2,R,P1]
   have T4:=T3.front 4 rfl
   dsimp only [List.eraseIdx] at T4
   have T5:=(T4.front 5 rfl).swap
   dsimp only [List.eraseIdx] at T5
   -- [R,P1,lk,kd,lc,P2]
   have T6:=T5.front 4 rfl
   dsimp only [List.eraseIdx] at T6
   have T7:=(T6.front 2 rfl)
   dsimp only [List.eraseIdx] at T7
   have T8:=T7.front 2 rfl
   dsimp only [List.eraseIdx] at T8
   exact T8
end Go.Proofs.YtncgofhhnhebjaaGreat

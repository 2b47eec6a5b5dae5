/- Marks in runs, flows, pasts, views, stores. (Printed by genmk.py.) -/
import Derived.Test.YtncgofhhnhebjaaGreatGH22
import Derived.Test.YtncgofhhnhebjaaGreatGH23
set_option linter.unusedVariables false
set_option linter.unusedSimpArgs false
/- Marks in runs, flows, pasts, views, stores. (Printed by genmk.py.) -/
set_option maxHeartbeats 4000000
namespace Go.Proofs.YtncgofhhnhebjaaGreat
open Go Go.Am
variable {pr : Prims} (hp : Okp pr)
set_option maxRecDepth 100000
def inc (x : Int) : Int:=IntKind.i64.wrap (x + 1)
def incs : Nat → Int → Int
 | 0,x=>x
 | n + 1,x=>inc (incs n x)
theorem incs_eq (n : Nat) (x : Int) (h0 : 0 ≤ x) (h1 : x + n < 4611686018427387904) : incs n x = x + n:=by
 induction n with
 | zero=>simp [incs]
 | succ n ih=>
  rw [incs,ih (by omega),inc,wrap1 _ (by omega) (by omega)]
  omega
theorem rowApp {h : Heap} {L : List Chunk} {id sz : Nat} {A B : List AVal} {e : AVal} (s : Sepa h (.row id (.arr sz (A ++ e :: B)) :: L)) : Sepa h (.row id (.arr sz ((A ++ [e]) ++ B)) :: L):=by
 rw [List.append_assoc]
 exact s
def MarkT (pr : Prims) (f : FuncId) (d : Dat) : Prop:=∀ (v : AVal) (F : List Nat) (h : Heap) (L : List Chunk) (k : Int),Sepa h (.dat d v F :: L) → 0 ≤ k → k + 64 * (d.tot : Int) ≤ 1152921504606846976 →
 ∃ h' k',callM (cfp pr) (call (cfp pr)) f [v,i64 k] h = some (.ret (i64 k') h') ∧ k ≤ k' ∧ k' ≤ k + 64 * (d.tot : Int) ∧ Sepa h' L
theorem markCells_t (hp : Okp pr) (xs : List Cell) {v : AVal} {F : List Nat} {h : Heap} {L : List Chunk} {k : Int} (S : Sepa h (.list Cell.enc 4 xs v F :: L)) (h0 : 0 ≤ k) (hb : k + 4 * (xs.length : Int) ≤ 1152921504606846976) :
  ∃ h' k',callM (cfp pr) (call (cfp pr)) 97 [v,i64 k] h = some (.ret (i64 k') h') ∧ k' = k + 4 * (xs.length : Int) ∧ Sepa h' L:=by
   obtain ⟨h',hc,hf,ho⟩:=markCellS_f hp xs v F h k (S.get 0 rfl) h0 hb
   exact ⟨h',_,hc,rfl,(S.frTo (c':=.list Cell.enc 4 _ v F) hf ho rfl).drop 0⟩
theorem markKeys_t (hp : Okp pr) (xs : List Int) {v : AVal} {F : List Nat} {h : Heap} {L : List Chunk} {k : Int} (S : Sepa h (.list i64 1 xs v F :: L)) (h0 : 0 ≤ k) (hb : k + (xs.length : Int) ≤ 1152921504606846976) :
  ∃ h' k',callM (cfp pr) (call (cfp pr)) 53 [v,i64 k] h = some (.ret (i64 k') h') ∧ k' = k + (xs.length : Int) ∧ Sepa h' L:=by
   obtain ⟨h',hc,hf,ho⟩:=markIntS_f hp xs v F h k (S.get 0 rfl) h0 hb
   exact ⟨h',_,hc,rfl,(S.frTo (c':=.list i64 1 _ v F) hf ho rfl).drop 0⟩
theorem markKids_t (hp : Okp pr) (xs : List Plan) {v : AVal} {F : List Nat} {h : Heap} {L : List Chunk} {k : Int} (S : Sepa h (.kids xs v F :: L)) (h0 : 0 ≤ k) (hb : k + (cms xs : Int) ≤ 1152921504606846976) :
  ∃ h' k',callM (cfp pr) (call (cfp pr)) 98 [v,i64 k] h = some (.ret (i64 k') h') ∧ k' = k + (cms xs : Int) ∧ Sepa h' L:=by
   obtain ⟨ps',h',hc,hf,ho,_⟩:=markPlanS_f' hp _ xs v F h k (Nat.le_refl _) (S.get 0 rfl) (S.get' 0 _ rfl).2 h0 hb
   exact ⟨h',_,hc,rfl,(S.frTo (c':=.kids _ v F) hf ho rfl).drop 0⟩
theorem markItems_t (hp : Okp pr) (xs : List Item) : MarkT pr 18 (Items.d xs):=by
 intro v F h L k S h0 hb
 have hcn : (Items.d xs).tot = cntZ xs:=rfl
 rw [hcn] at hb ⊢
 obtain ⟨h',F',hc,S'⟩:=markItemS_t hp xs S h0 (by omega)
 exact ⟨h',_,hc,by omega,by omega,S'.drop 0⟩
theorem Sepa.flow {h : Heap} {Q : List Chunk} {kind n : Int} {test : Test} {cells : List Cell} {a b : Int} {keys : List Int} {agg col : Int} {kids : List Plan} {l r : List (List Item)} {ks : List Flow} {v : AVal} {F : List Nat} (S : Sepa h (.dat (Flow.mk (.mk kind n test cells a b keys agg col kids) l r ks).d v F :: Q)) :
  ∃ C K D L R KS Fc Fk Fd F1 F2 F3,v = .agg (pcells kind n test C a b K agg col D [L,R,KS]) ∧ Sepa h (.list Cell.enc 4 cells C Fc :: .list i64 1 keys K Fk :: .kids kids D Fd :: .dat (Runs.d l) L F1 :: .dat (Runs.d r) R F2 :: .dat (.s 22 (Flow.ds ks)) KS F3 :: Q):=by
   have ho : Own h _ v F:=S.get 0 rfl
   obtain ⟨vv,rfl,hu⟩:=Own_g.1 ho
   obtain ⟨C,K,D,Fc,Fk,Fd,w1,G1,rfl,g1,g2,g3,rfl,ho1⟩:=OwnC_p.1 hu
   obtain ⟨u2,w2,H2,G2,rfl,rfl,ho2,ho3⟩:=OwnC_g.1 ho1
   obtain ⟨L,u3,H3,G3,rfl,rfl,gL,ho4⟩:=OwnC_s.1 ho2
   obtain ⟨rfl,rfl⟩:=OwnC_nil.1 ho4
   obtain ⟨u4,w4,H4,G4,rfl,rfl,ho5,ho6⟩:=OwnC_g.1 ho3
   obtain ⟨R,u5,H5,G5,rfl,rfl,gR,ho7⟩:=OwnC_s.1 ho5
   obtain ⟨rfl,rfl⟩:=OwnC_nil.1 ho7
   obtain ⟨KS,u6,H6,G6,rfl,rfl,gK,ho8⟩:=OwnC_s.1 ho6
   obtain ⟨rfl,rfl⟩:=OwnC_nil.1 ho8
   refine ⟨C,K,D,L,R,KS,Fc,Fk,Fd,H3,H5,H6,rfl,S.cuts [.list Cell.enc 4 cells C Fc,.list i64 1 keys K Fk,.kids kids D Fd,.dat (Runs.d l) L H3,.dat (Runs.d r) R H5,.dat (.s 22 (Flow.ds ks)) KS H6] (by simp [Chunk.dat,Chunk.list,Chunk.kids]) ?_⟩
   intro d hd
   simp only [List.mem_cons,List.not_mem_nil,or_false] at hd
   rcases hd with rfl | rfl | rfl | rfl | rfl | rfl
   ·exact g1
   ·exact g2
   ·exact g3
   ·exact gL
   ·exact gR
   ·exact gK
theorem markRuns_t (hp : Okp pr) (xs : List (List Item)) : MarkT pr 54 (.s 1 (xs.map Items.d)):=by
 intro v F h L k S h0 hb
 have htot : (Dat.s 1 (xs.map Items.d)).tot = xs.length + Dat.tots (xs.map Items.d):=by simp only [Dat.tot,List.length_map]
 rw [htot] at hb ⊢
 clear htot
 rw [callF rfl]
 suffices hw : wpFL (cfp pr) 54 [v,i64 k] h (fun r=>∃ h' k',r = .ret (i64 k') h' ∧ k ≤ k' ∧ k' ≤ k + 64 * ((xs.length + Dat.tots (xs.map Items.d) : Nat) : Int) ∧ Sepa h' L) by
  obtain ⟨r,hr,h',k',rfl,h1⟩:=wpFL_sound (hp.out _ rfl) hw
  exact ⟨h',k',hr,h1⟩
 rcases Sepa.open S with ⟨hx,hv,S1⟩ | ⟨id,vs,Fs,rfl,rfl,S1⟩
 ·have hx : xs = []:=List.map_eq_nil_iff.1 hx
  subst hx
  rcases hv with rfl | rfl
  iterate 2
   ·conv=>whnf
    refine loopL1 ?_
    conv=>whnf
    exact ⟨_,rfl,h,k,rfl,Int.le_refl _,by simp [Dat.tots],S1⟩
 ·rw [List.length_map] at *
  conv=>whnf
  refine loopL (fun m tm hp=>∃ (j : Nat) (rest : List (List Item)) (A B : List AVal) (F2 : List Nat) (kk : Int),(∀ x ∈ rest,x ∈ xs) ∧ rest.length = m ∧ j + m = xs.length ∧ A.length = j ∧ tm 5 = i64 (j : Nat) ∧ tm 1 = i64 kk ∧ k ≤ kk ∧ kk + 64 * ((rest.length + Dat.tots (rest.map Items.d) : Nat) : Int) ≤ k + 64 * ((xs.length + Dat.tots (xs.map Items.d) : Nat) : Int) ∧
   Sepa hp (.row id (.arr 1 (A ++ B)) :: .dats (rest.map Items.d) B F2 :: L)) (fun m tm hq hfr hI=>?_) xs.length ⟨0,xs,[],vs,Fs,k,fun _ h=>h,rfl,by simp,rfl,rfl,rfl,Int.le_refl _,Int.le_refl _,S1⟩
  obtain ⟨j,rest,A,B,F2,kk,hsub,hm,hj,hA,e5,e1,hle,hkb,S2⟩:=hI
  clear S S1
  have S:=S2
  clear S2
  have k0:=hfr 0 (by kernel_rfl)
  conv at k0=>rhs; whnf
  refine ⟨[(0,_),(1,_),(5,_)],⟨k0,e1,e5,trivial⟩,?_⟩
  clear hfr k0 e1 e5
  have hidx : 0 + ((j : Nat) : Int).toNat = A.length:=by rw [hA]; simp
  conv=>whnf
  refine bsel_intro (fun g1=>?_) (fun g1=>?_)
  ·have hjl : j < xs.length:=by simpa using g1
   have hjb : j < 1152921504606846976:=by omega
   cases rest with
   | nil=>simp at hm; omega
   | cons x rest=>
    have hxm:=hsub x (by simp)
    replace S:=S.swap
    rw [List.map_cons] at S
    obtain ⟨v,B',F1,F3,rfl,rfl,S3⟩:=Sepa.uncons S
    clear S
    have S:=S3
    clear S3
    have hkb2 : kk + 64 * (1 + ((Items.d x).tot : Int)) + 64 * ((rest.length + Dat.tots (rest.map Items.d) : Nat) : Int) ≤ k + 64 * ((xs.length + Dat.tots (xs.map Items.d) : Nat) : Int):=by
     simp only [List.map_cons,Dat.tots,List.length_cons] at hkb; omega
    simp only [List.length_cons] at hm
    clear hkb
    have hs:=Own.slice (S.get 0 rfl : Own hq (.s 2 (x.map Item.d)) v F1)
    replace S:=(S.front 2 rfl).swap
    dsimp only [List.eraseIdx] at S
    have hc:=markItems_t hp x v F1 hq _ kk S (by omega) (by omega)
    obtain ⟨q1,k1,hc1,b1,b1',S1⟩:=hc
    rcases hs with rfl | rfl | ⟨vi,vn,rfl⟩
    ·conv=>whnf
     refine ⟨_,S.row 1 rfl,⟨by omega,by omega⟩,?_⟩
     conv=>whnf
     refine .inr ⟨_,_,_,S.row 1 rfl,rowGet hidx,?_⟩
     conv=>whnf
     refine ⟨_,hc1,?_⟩
     conv=>whnf
     have S9:=rowApp S1
     exact ⟨m - 1,by omega,j + 1,rest,_,_,_,k1,fun y hy=>hsub y (by simp [hy]),by omega,by omega,by simp [hA],nat_step j (by omega),rfl,by omega,by omega,S9⟩
    ·conv=>whnf
     refine ⟨_,S.row 1 rfl,⟨by omega,by omega⟩,?_⟩
     conv=>whnf
     refine .inr ⟨_,_,_,S.row 1 rfl,rowGet hidx,?_⟩
     conv=>whnf
     refine ⟨_,hc1,?_⟩
     conv=>whnf
     have S9:=rowApp S1
     exact ⟨m - 1,by omega,j + 1,rest,_,_,_,k1,fun y hy=>hsub y (by simp [hy]),by omega,by omega,by simp [hA],nat_step j (by omega),rfl,by omega,by omega,S9⟩
    ·conv=>whnf
     refine ⟨_,S.row 1 rfl,⟨by omega,by omega⟩,?_⟩
     conv=>whnf
     refine .inr ⟨_,_,_,S.row 1 rfl,rowGet hidx,?_⟩
     conv=>whnf
     refine ⟨_,hc1,?_⟩
     conv=>whnf
     have S9:=rowApp S1
     exact ⟨m - 1,by omega,j + 1,rest,_,_,_,k1,fun y hy=>hsub y (by simp [hy]),by omega,by omega,by simp [hA],nat_step j (by omega),rfl,by omega,by omega,S9⟩
  ·have hjl : ¬ j < xs.length:=by simpa using g1
   have hr : rest = []:=List.length_eq_zero_iff.1 (by omega)
   subst hr
   conv=>whnf
   exact ⟨_,rfl,hq,kk,rfl,hle,by simp only [List.map_nil,Dat.tots,List.length_nil] at hkb; omega,(S.drop 0).drop 0⟩
theorem markPastS_t (hp : Okp pr) (xs : List Past) : MarkT pr 100 (.s 2 (xs.map Past.d)):=by
 intro v F h L k S h0 hb
 have htot : (Dat.s 2 (xs.map Past.d)).tot = xs.length + Dat.tots (xs.map Past.d):=by simp only [Dat.tot,List.length_map]
 rw [htot] at hb ⊢
 clear htot
 rw [callF rfl]
 suffices hw : wpFL (cfp pr) 100 [v,i64 k] h (fun r=>∃ h' k',r = .ret (i64 k') h' ∧ k ≤ k' ∧ k' ≤ k + 64 * ((xs.length + Dat.tots (xs.map Past.d) : Nat) : Int) ∧ Sepa h' L) by
  obtain ⟨r,hr,h',k',rfl,h1⟩:=wpFL_sound (hp.out _ rfl) hw
  exact ⟨h',k',hr,h1⟩
 rcases Sepa.open S with ⟨hx,hv,S1⟩ | ⟨id,vs,Fs,rfl,rfl,S1⟩
 ·have hx : xs = []:=List.map_eq_nil_iff.1 hx
  subst hx
  rcases hv with rfl | rfl
  iterate 2
   ·conv=>whnf
    refine loopL1 ?_
    conv=>whnf
    exact ⟨_,rfl,h,k,rfl,Int.le_refl _,by simp [Dat.tots],S1⟩
 ·rw [List.length_map] at *
  conv=>whnf
  refine loopL (fun m tm hp=>∃ (j : Nat) (rest : List Past) (A B : List AVal) (F2 : List Nat) (kk : Int),(∀ x ∈ rest,x ∈ xs) ∧ rest.length = m ∧ j + m = xs.length ∧ A.length = j ∧ tm 5 = i64 (j : Nat) ∧ tm 1 = i64 kk ∧ k ≤ kk ∧ kk + 64 * ((rest.length + Dat.tots (rest.map Past.d) : Nat) : Int) ≤ k + 64 * ((xs.length + Dat.tots (xs.map Past.d) : Nat) : Int) ∧
   Sepa hp (.row id (.arr 2 (A ++ B)) :: .dats (rest.map Past.d) B F2 :: L)) (fun m tm hq hfr hI=>?_) xs.length ⟨0,xs,[],vs,Fs,k,fun _ h=>h,rfl,by simp,rfl,rfl,rfl,Int.le_refl _,Int.le_refl _,S1⟩
  obtain ⟨j,rest,A,B,F2,kk,hsub,hm,hj,hA,e5,e1,hle,hkb,S2⟩:=hI
  clear S S1
  have S:=S2
  clear S2
  have k0:=hfr 0 (by kernel_rfl)
  conv at k0=>rhs; whnf
  refine ⟨[(0,_),(1,_),(5,_)],⟨k0,e1,e5,trivial⟩,?_⟩
  clear hfr k0 e1 e5
  have hidx : 0 + ((j : Nat) : Int).toNat = A.length:=by rw [hA]; simp
  conv=>whnf
  refine bsel_intro (fun g1=>?_) (fun g1=>?_)
  ·have hjl : j < xs.length:=by simpa using g1
   have hjb : j < 1152921504606846976:=by omega
   cases rest with
   | nil=>simp at hm; omega
   | cons x rest=>
    have hxm:=hsub x (by simp)
    replace S:=S.swap
    rw [List.map_cons] at S
    obtain ⟨v,B',F1,F3,rfl,rfl,S3⟩:=Sepa.uncons S
    clear S
    have S:=S3
    clear S3
    have hkb2 : kk + 64 * (1 + ((Past.d x).tot : Int)) + 64 * ((rest.length + Dat.tots (rest.map Past.d) : Nat) : Int) ≤ k + 64 * ((xs.length + Dat.tots (xs.map Past.d) : Nat) : Int):=by
     simp only [List.map_cons,Dat.tots,List.length_cons] at hkb; omega
    simp only [List.length_cons] at hm
    clear hkb
    obtain ⟨t,out⟩:=x
    have ho : Own hq (Past.d ⟨t,out⟩) v F1:=S.get 0 rfl
    obtain ⟨vv,rfl,hu⟩:=Own_g.1 ho
    obtain ⟨w1,rfl,ho1⟩:=OwnC_i.1 hu
    obtain ⟨P,w2,G1,G2,rfl,rfl,gP,ho2⟩:=OwnC_s.1 ho1
    obtain ⟨rfl,rfl⟩:=OwnC_nil.1 ho2
    have S1:=S.is (c':=.dat (Items.d out) P G1) gP (by simp [Chunk.dat])
    clear S
    have S:=S1
    clear S1
    have hpt : (Past.d ⟨t,out⟩).tot = (Items.d out).tot:=by simp [Past.d,Dat.tot,Dat.tots]
    rw [hpt] at hkb2
    conv=>whnf
    refine ⟨_,S.row 2 rfl,⟨by omega,by omega⟩,?_⟩
    conv=>whnf
    refine ⟨_,rfl,rfl,rfl,.inr ⟨_,_,_,S.row 2 rfl,rowGet hidx,?_⟩⟩
    conv=>whnf
    intro c1 hh_c1
    replace S:=S.setRow 2 rfl hidx hh_c1
    dsimp only [List.set] at S
    conv=>whnf
    conv=>whnf
    refine ⟨_,S.row 2 rfl,⟨by omega,by omega⟩,?_⟩
    conv=>whnf
    refine .inr ⟨_,_,_,S.row 2 rfl,rowGet hidx,?_⟩
    conv=>whnf
    have hA1 : 0 ≤ kk + ((1 : Nat) : Int):=by omega
    have hB1 : kk + ((1 : Nat) : Int) + 64 * ((Items.d out).tot : Int) ≤ 1152921504606846976:=by omega
    have hcx:=markItems_t hp out _ _ _ _ (kk + ((1 : Nat) : Int)) S hA1 hB1
    obtain ⟨q1,k1,hc1,b1,b1',S1⟩:=hcx
    have hw1:=(incs_eq 1 kk (by omega) (by omega)).symm
    rw [hw1] at hc1
    clear hw1
    refine ⟨_,hc1,?_⟩
    clear S hc1 hA1 hB1
    have S:=S1
    clear S1
    conv=>whnf
    have S9:=rowApp S.swap
    exact ⟨m - 1,by omega,j + 1,rest,_,_,_,k1,fun y hy=>hsub y (by simp [hy]),by omega,by omega,by simp [hA],nat_step j (by omega),rfl,by omega,by omega,S9⟩
  ·have hjl : ¬ j < xs.length:=by simpa using g1
   have hr : rest = []:=List.length_eq_zero_iff.1 (by omega)
   subst hr
   conv=>whnf
   exact ⟨_,rfl,hq,kk,rfl,hle,by simp only [List.map_nil,Dat.tots,List.length_nil] at hkb; omega,(S.drop 0).drop 0⟩
theorem markFlowS_t' (hp : Okp pr) : ∀ (N : Nat) (xs : List Flow),SizeOf.sizeOf xs ≤ N → MarkT pr 99 (.s 22 (xs.map Flow.d)):=by
 intro N
 induction N with
 | zero=>intro xs hs; cases xs <;> simp at hs
 | succ N ih=>
  intro xs hs
  intro v F h L k S h0 hb
  have htot : (Dat.s 22 (xs.map Flow.d)).tot = xs.length + Dat.tots (xs.map Flow.d):=by simp only [Dat.tot,List.length_map]
  rw [htot] at hb ⊢
  clear htot
  rw [callF rfl]
  suffices hw : wpFL (cfp pr) 99 [v,i64 k] h (fun r=>∃ h' k',r = .ret (i64 k') h' ∧ k ≤ k' ∧ k' ≤ k + 64 * ((xs.length + Dat.tots (xs.map Flow.d) : Nat) : Int) ∧ Sepa h' L) by
   obtain ⟨r,hr,h',k',rfl,h1⟩:=wpFL_sound (hp.out _ rfl) hw
   exact ⟨h',k',hr,h1⟩
  rcases Sepa.open S with ⟨hx,hv,S1⟩ | ⟨id,vs,Fs,rfl,rfl,S1⟩
  ·have hx : xs = []:=List.map_eq_nil_iff.1 hx
   subst hx
   rcases hv with rfl | rfl
   iterate 2
    ·conv=>whnf
     refine loopL1 ?_
     conv=>whnf
     exact ⟨_,rfl,h,k,rfl,Int.le_refl _,by simp [Dat.tots],S1⟩
  ·rw [List.length_map] at *
   conv=>whnf
   refine loopL (fun m tm hp=>∃ (j : Nat) (rest : List Flow) (A B : List AVal) (F2 : List Nat) (kk : Int),(∀ x ∈ rest,x ∈ xs) ∧ rest.length = m ∧ j + m = xs.length ∧ A.length = j ∧ tm 5 = i64 (j : Nat) ∧ tm 1 = i64 kk ∧ k ≤ kk ∧ kk + 64 * ((rest.length + Dat.tots (rest.map Flow.d) : Nat) : Int) ≤ k + 64 * ((xs.length + Dat.tots (xs.map Flow.d) : Nat) : Int) ∧
    Sepa hp (.row id (.arr 22 (A ++ B)) :: .dats (rest.map Flow.d) B F2 :: L)) (fun m tm hq hfr hI=>?_) xs.length ⟨0,xs,[],vs,Fs,k,fun _ h=>h,rfl,by simp,rfl,rfl,rfl,Int.le_refl _,Int.le_refl _,S1⟩
   obtain ⟨j,rest,A,B,F2,kk,hsub,hm,hj,hA,e5,e1,hle,hkb,S2⟩:=hI
   clear S S1
   have S:=S2
   clear S2
   have k0:=hfr 0 (by kernel_rfl)
   conv at k0=>rhs; whnf
   refine ⟨[(0,_),(1,_),(5,_)],⟨k0,e1,e5,trivial⟩,?_⟩
   clear hfr k0 e1 e5
   have hidx : 0 + ((j : Nat) : Int).toNat = A.length:=by rw [hA]; simp
   conv=>whnf
   refine bsel_intro (fun g1=>?_) (fun g1=>?_)
   ·have hjl : j < xs.length:=by simpa using g1
    have hjb : j < 1152921504606846976:=by omega
    cases rest with
    | nil=>simp at hm; omega
    | cons x rest=>
     have hxm:=hsub x (by simp)
     replace S:=S.swap
     rw [List.map_cons] at S
     obtain ⟨v,B',F1,F3,rfl,rfl,S3⟩:=Sepa.uncons S
     clear S
     have S:=S3
     clear S3
     have hkb2 : kk + 64 * (1 + ((Flow.d x).tot : Int)) + 64 * ((rest.length + Dat.tots (rest.map Flow.d) : Nat) : Int) ≤ k + 64 * ((xs.length + Dat.tots (xs.map Flow.d) : Nat) : Int):=by
      simp only [List.map_cons,Dat.tots,List.length_cons] at hkb; omega
     simp only [List.length_cons] at hm
     clear hkb
     obtain ⟨⟨kind,n,test,cells,a,b,keys,agg,col,kids⟩,l,r,ks⟩:=x
     have hpt : (Flow.mk (.mk kind n test cells a b keys agg col kids) l r ks).d.tot = cells.length + keys.length + kids.length + Plan.szs kids + (Runs.d l).tot + (Runs.d r).tot + (Dat.s 22 (Flow.ds ks)).tot:=by simp only [Flow.d,Dat.tot,Dat.tots,Plan.sz]; omega
     rw [hpt] at hkb2
     have hck:=cms_sz kids
     have hl:=markRuns_t hp l
     have hr:=markRuns_t hp r
     have hk:=ih ks (by have:=List.sizeOf_lt_of_mem hxm; simp at this; omega)
     rw [← Flow.ds_map] at hk
     obtain ⟨C,K,D,Lv,R,KS,Fc,Fk,Fd,G1,G2,G3,rfl,S3⟩:=Sepa.flow S
     clear S
     have S:=S3
     clear S3 hpt
     have tl : (Dat.s 1 (l.map Items.d)).tot = (Runs.d l).tot:=rfl
     have tr : (Dat.s 1 (r.map Items.d)).tot = (Runs.d r).tot:=rfl
     conv=>whnf
     refine ⟨_,S.row 7 rfl,⟨by omega,by omega⟩,?_⟩
     conv=>whnf
     refine ⟨_,rfl,rfl,rfl,.inr ⟨_,_,_,S.row 7 rfl,rowGet hidx,?_⟩⟩
     conv=>whnf
     intro c1 hh_c1
     replace S:=S.setRow 7 rfl hidx hh_c1
     dsimp only [List.set] at S
     conv=>whnf
     refine ⟨_,S.row 7 rfl,⟨by omega,by omega⟩,?_⟩
     conv=>whnf
     refine ⟨_,rfl,rfl,rfl,.inr ⟨_,_,_,S.row 7 rfl,rowGet hidx,?_⟩⟩
     conv=>whnf
     intro c2 hh_c2
     replace S:=S.setRow 7 rfl hidx hh_c2
     dsimp only [List.set] at S
     conv=>whnf
     refine ⟨_,S.row 7 rfl,⟨by omega,by omega⟩,?_⟩
     conv=>whnf
     refine ⟨_,rfl,rfl,rfl,.inr ⟨_,_,_,S.row 7 rfl,rowGet hidx,?_⟩⟩
     conv=>whnf
     intro c3 hh_c3
     replace S:=S.setRow 7 rfl hidx hh_c3
     dsimp only [List.set] at S
     conv=>whnf
     refine ⟨rfl,by decide,?_⟩
     conv=>whnf
     refine bsel_intro (fun hm3=>?_) (fun hm3=>?_)
     ·conv=>whnf
      refine ⟨_,S.row 7 rfl,⟨by omega,by omega⟩,?_⟩
      conv=>whnf
      refine ⟨_,rfl,rfl,rfl,.inr ⟨_,_,_,S.row 7 rfl,rowGet hidx,?_⟩⟩
      conv=>whnf
      intro c4 hh_c4
      replace S:=S.setRow 7 rfl hidx hh_c4
      dsimp only [List.set] at S
      conv=>whnf
      refine ⟨_,S.row 7 rfl,⟨by omega,by omega⟩,?_⟩
      conv=>whnf
      refine ⟨_,rfl,rfl,rfl,.inr ⟨_,_,_,S.row 7 rfl,rowGet hidx,?_⟩⟩
      conv=>whnf
      intro c5 hh_c5
      replace S:=S.setRow 7 rfl hidx hh_c5
      dsimp only [List.set] at S
      conv=>whnf
      refine ⟨_,S.row 7 rfl,⟨by omega,by omega⟩,?_⟩
      conv=>whnf
      refine ⟨_,rfl,rfl,rfl,.inr ⟨_,_,_,S.row 7 rfl,rowGet hidx,?_⟩⟩
      conv=>whnf
      intro c6 hh_c6
      replace S:=S.setRow 7 rfl hidx hh_c6
      dsimp only [List.set] at S
      conv=>whnf
      refine ⟨_,S.row 7 rfl,⟨by omega,by omega⟩,?_⟩
      conv=>whnf
      refine ⟨_,rfl,rfl,rfl,.inr ⟨_,_,_,S.row 7 rfl,rowGet hidx,?_⟩⟩
      conv=>whnf
      intro c7 hh_c7
      replace S:=S.setRow 7 rfl hidx hh_c7
      dsimp only [List.set] at S
      conv=>whnf
      refine ⟨_,S.row 7 rfl,⟨by omega,by omega⟩,?_⟩
      conv=>whnf
      refine ⟨_,rfl,rfl,rfl,.inr ⟨_,_,_,S.row 7 rfl,rowGet hidx,?_⟩⟩
      conv=>whnf
      intro c8 hh_c8
      replace S:=S.setRow 7 rfl hidx hh_c8
      dsimp only [List.set] at S
      conv=>whnf
      refine ⟨_,S.row 7 rfl,⟨by omega,by omega⟩,?_⟩
      conv=>whnf
      refine ⟨_,rfl,rfl,rfl,.inr ⟨_,_,_,S.row 7 rfl,rowGet hidx,?_⟩⟩
      conv=>whnf
      intro c9 hh_c9
      replace S:=S.setRow 7 rfl hidx hh_c9
      dsimp only [List.set] at S
      conv=>whnf
      refine ⟨_,S.row 7 rfl,⟨by omega,by omega⟩,?_⟩
      conv=>whnf
      refine ⟨_,rfl,rfl,rfl,.inr ⟨_,_,_,S.row 7 rfl,rowGet hidx,?_⟩⟩
      conv=>whnf
      intro c10 hh_c10
      replace S:=S.setRow 7 rfl hidx hh_c10
      dsimp only [List.set] at S
      conv=>whnf
      refine ⟨_,S.row 7 rfl,⟨by omega,by omega⟩,?_⟩
      conv=>whnf
      refine ⟨_,rfl,rfl,rfl,.inr ⟨_,_,_,S.row 7 rfl,rowGet hidx,?_⟩⟩
      conv=>whnf
      intro c11 hh_c11
      replace S:=S.setRow 7 rfl hidx hh_c11
      dsimp only [List.set] at S
      conv=>whnf
      refine ⟨_,S.row 7 rfl,⟨by omega,by omega⟩,?_⟩
      conv=>whnf
      refine ⟨_,rfl,rfl,rfl,.inr ⟨_,_,_,S.row 7 rfl,rowGet hidx,?_⟩⟩
      conv=>whnf
      intro c12 hh_c12
      replace S:=S.setRow 7 rfl hidx hh_c12
      dsimp only [List.set] at S
      conv=>whnf
      refine ⟨_,S.row 7 rfl,⟨by omega,by omega⟩,?_⟩
      conv=>whnf
      refine .inr ⟨_,_,_,S.row 7 rfl,rowGet hidx,?_⟩
      conv=>whnf
      have hA1 : 0 ≤ kk + ((12 : Nat) : Int):=by omega
      have hB1 : kk + ((12 : Nat) : Int) + 4 * (cells.length : Int) ≤ 1152921504606846976:=by omega
      have hcx:=markCells_t hp cells S hA1 hB1
      obtain ⟨q1,k1,hc1,b1,S1⟩:=hcx
      have hw1:=(incs_eq 12 kk (by omega) (by omega)).symm
      rw [hw1] at hc1
      clear hw1
      refine ⟨_,hc1,?_⟩
      clear S hc1 hA1 hB1
      have S:=S1
      clear S1
      conv=>whnf
      refine ⟨_,S.row 6 rfl,⟨by omega,by omega⟩,?_⟩
      conv=>whnf
      refine ⟨_,rfl,rfl,rfl,.inr ⟨_,_,_,S.row 6 rfl,rowGet hidx,?_⟩⟩
      conv=>whnf
      intro c13 hh_c13
      replace S:=S.setRow 6 rfl hidx hh_c13
      dsimp only [List.set] at S
      conv=>whnf
      refine ⟨_,S.row 6 rfl,⟨by omega,by omega⟩,?_⟩
      conv=>whnf
      refine ⟨_,rfl,rfl,rfl,.inr ⟨_,_,_,S.row 6 rfl,rowGet hidx,?_⟩⟩
      conv=>whnf
      intro c14 hh_c14
      replace S:=S.setRow 6 rfl hidx hh_c14
      dsimp only [List.set] at S
      conv=>whnf
      refine ⟨_,S.row 6 rfl,⟨by omega,by omega⟩,?_⟩
      conv=>whnf
      refine .inr ⟨_,_,_,S.row 6 rfl,rowGet hidx,?_⟩
      conv=>whnf
      have hA2 : 0 ≤ k1 + ((2 : Nat) : Int):=by omega
      have hB2 : k1 + ((2 : Nat) : Int) + (keys.length : Int) ≤ 1152921504606846976:=by omega
      have hcx:=markKeys_t hp keys S hA2 hB2
      obtain ⟨q2,k2,hc2,b2,S1⟩:=hcx
      have hw2:=(incs_eq 2 k1 (by omega) (by omega)).symm
      rw [hw2] at hc2
      clear hw2
      refine ⟨_,hc2,?_⟩
      clear S hc2 hA2 hB2
      have S:=S1
      clear S1
      conv=>whnf
      refine ⟨_,S.row 5 rfl,⟨by omega,by omega⟩,?_⟩
      conv=>whnf
      refine ⟨_,rfl,rfl,rfl,.inr ⟨_,_,_,S.row 5 rfl,rowGet hidx,?_⟩⟩
      conv=>whnf
      intro c15 hh_c15
      replace S:=S.setRow 5 rfl hidx hh_c15
      dsimp only [List.set] at S
      conv=>whnf
      refine ⟨_,S.row 5 rfl,⟨by omega,by omega⟩,?_⟩
      conv=>whnf
      refine ⟨_,rfl,rfl,rfl,.inr ⟨_,_,_,S.row 5 rfl,rowGet hidx,?_⟩⟩
      conv=>whnf
      intro c16 hh_c16
      replace S:=S.setRow 5 rfl hidx hh_c16
      dsimp only [List.set] at S
      conv=>whnf
      refine ⟨_,S.row 5 rfl,⟨by omega,by omega⟩,?_⟩
      conv=>whnf
      refine .inr ⟨_,_,_,S.row 5 rfl,rowGet hidx,?_⟩
      conv=>whnf
      have hA3 : 0 ≤ k2 + ((2 : Nat) : Int):=by omega
      have hB3 : k2 + ((2 : Nat) : Int) + (cms kids : Int) ≤ 1152921504606846976:=by omega
      have hcx:=markKids_t hp kids S hA3 hB3
      obtain ⟨q3,k3,hc3,b3,S1⟩:=hcx
      have hw3:=(incs_eq 2 k2 (by omega) (by omega)).symm
      rw [hw3] at hc3
      clear hw3
      refine ⟨_,hc3,?_⟩
      clear S hc3 hA3 hB3
      have S:=S1
      clear S1
      conv=>whnf
      refine ⟨_,S.row 4 rfl,⟨by omega,by omega⟩,?_⟩
      conv=>whnf
      refine .inr ⟨_,_,_,S.row 4 rfl,rowGet hidx,?_⟩
      conv=>whnf
      have hA4 : 0 ≤ k3:=by omega
      have hB4 : k3 + 64 * ((Runs.d l).tot : Int) ≤ 1152921504606846976:=by omega
      have hcx:=hl _ _ _ _ (k3) S hA4 hB4
      obtain ⟨q4,k4,hc4,b4,b4',S1⟩:=hcx
      refine ⟨_,hc4,?_⟩
      clear S hc4 hA4 hB4
      have S:=S1
      clear S1
      conv=>whnf
      refine ⟨_,S.row 3 rfl,⟨by omega,by omega⟩,?_⟩
      conv=>whnf
      refine .inr ⟨_,_,_,S.row 3 rfl,rowGet hidx,?_⟩
      conv=>whnf
      have hA5 : 0 ≤ k4:=by omega
      have hB5 : k4 + 64 * ((Runs.d r).tot : Int) ≤ 1152921504606846976:=by omega
      have hcx:=hr _ _ _ _ (k4) S hA5 hB5
      obtain ⟨q5,k5,hc5,b5,b5',S1⟩:=hcx
      refine ⟨_,hc5,?_⟩
      clear S hc5 hA5 hB5
      have S:=S1
      clear S1
      conv=>whnf
      refine ⟨_,S.row 2 rfl,⟨by omega,by omega⟩,?_⟩
      conv=>whnf
      refine .inr ⟨_,_,_,S.row 2 rfl,rowGet hidx,?_⟩
      conv=>whnf
      have hA6 : 0 ≤ k5:=by omega
      have hB6 : k5 + 64 * ((Dat.s 22 (Flow.ds ks)).tot : Int) ≤ 1152921504606846976:=by omega
      have hcx:=hk _ _ _ _ (k5) S hA6 hB6
      obtain ⟨q6,k6,hc6,b6,b6',S1⟩:=hcx
      refine ⟨_,hc6,?_⟩
      clear S hc6 hA6 hB6
      have S:=S1
      clear S1
      conv=>whnf
      have S9:=rowApp S.swap
      exact ⟨m - 1,by omega,j + 1,rest,_,_,_,k6,fun y hy=>hsub y (by simp [hy]),by omega,by omega,by simp [hA],nat_step j (by omega),rfl,by omega,by omega,S9⟩
     ·conv=>whnf
      refine ⟨_,S.row 7 rfl,⟨by omega,by omega⟩,?_⟩
      conv=>whnf
      refine ⟨_,rfl,rfl,rfl,.inr ⟨_,_,_,S.row 7 rfl,rowGet hidx,?_⟩⟩
      conv=>whnf
      intro c4 hh_c4
      replace S:=S.setRow 7 rfl hidx hh_c4
      dsimp only [List.set] at S
      conv=>whnf
      refine ⟨_,S.row 7 rfl,⟨by omega,by omega⟩,?_⟩
      conv=>whnf
      refine ⟨_,rfl,rfl,rfl,.inr ⟨_,_,_,S.row 7 rfl,rowGet hidx,?_⟩⟩
      conv=>whnf
      intro c5 hh_c5
      replace S:=S.setRow 7 rfl hidx hh_c5
      dsimp only [List.set] at S
      conv=>whnf
      refine ⟨_,S.row 7 rfl,⟨by omega,by omega⟩,?_⟩
      conv=>whnf
      refine ⟨_,rfl,rfl,rfl,.inr ⟨_,_,_,S.row 7 rfl,rowGet hidx,?_⟩⟩
      conv=>whnf
      intro c6 hh_c6
      replace S:=S.setRow 7 rfl hidx hh_c6
      dsimp only [List.set] at S
      conv=>whnf
      refine ⟨_,S.row 7 rfl,⟨by omega,by omega⟩,?_⟩
      conv=>whnf
      refine ⟨_,rfl,rfl,rfl,.inr ⟨_,_,_,S.row 7 rfl,rowGet hidx,?_⟩⟩
      conv=>whnf
      intro c7 hh_c7
      replace S:=S.setRow 7 rfl hidx hh_c7
      dsimp only [List.set] at S
      conv=>whnf
      refine ⟨_,S.row 7 rfl,⟨by omega,by omega⟩,?_⟩
      conv=>whnf
      refine ⟨_,rfl,rfl,rfl,.inr ⟨_,_,_,S.row 7 rfl,rowGet hidx,?_⟩⟩
      conv=>whnf
      intro c8 hh_c8
      replace S:=S.setRow 7 rfl hidx hh_c8
      dsimp only [List.set] at S
      conv=>whnf
      refine ⟨_,S.row 7 rfl,⟨by omega,by omega⟩,?_⟩
      conv=>whnf
      refine ⟨_,rfl,rfl,rfl,.inr ⟨_,_,_,S.row 7 rfl,rowGet hidx,?_⟩⟩
      conv=>whnf
      intro c9 hh_c9
      replace S:=S.setRow 7 rfl hidx hh_c9
      dsimp only [List.set] at S
      conv=>whnf
      refine ⟨_,S.row 7 rfl,⟨by omega,by omega⟩,?_⟩
      conv=>whnf
      refine ⟨_,rfl,rfl,rfl,.inr ⟨_,_,_,S.row 7 rfl,rowGet hidx,?_⟩⟩
      conv=>whnf
      intro c10 hh_c10
      replace S:=S.setRow 7 rfl hidx hh_c10
      dsimp only [List.set] at S
      conv=>whnf
      refine ⟨_,S.row 7 rfl,⟨by omega,by omega⟩,?_⟩
      conv=>whnf
      refine ⟨_,rfl,rfl,rfl,.inr ⟨_,_,_,S.row 7 rfl,rowGet hidx,?_⟩⟩
      conv=>whnf
      intro c11 hh_c11
      replace S:=S.setRow 7 rfl hidx hh_c11
      dsimp only [List.set] at S
      conv=>whnf
      refine ⟨_,S.row 7 rfl,⟨by omega,by omega⟩,?_⟩
      conv=>whnf
      refine ⟨_,rfl,rfl,rfl,.inr ⟨_,_,_,S.row 7 rfl,rowGet hidx,?_⟩⟩
      conv=>whnf
      intro c12 hh_c12
      replace S:=S.setRow 7 rfl hidx hh_c12
      dsimp only [List.set] at S
      conv=>whnf
      refine ⟨_,S.row 7 rfl,⟨by omega,by omega⟩,?_⟩
      conv=>whnf
      refine .inr ⟨_,_,_,S.row 7 rfl,rowGet hidx,?_⟩
      conv=>whnf
      have hA1 : 0 ≤ kk + ((12 : Nat) : Int):=by omega
      have hB1 : kk + ((12 : Nat) : Int) + 4 * (cells.length : Int) ≤ 1152921504606846976:=by omega
      have hcx:=markCells_t hp cells S hA1 hB1
      obtain ⟨q1,k1,hc1,b1,S1⟩:=hcx
      have hw1:=(incs_eq 12 kk (by omega) (by omega)).symm
      rw [hw1] at hc1
      clear hw1
      refine ⟨_,hc1,?_⟩
      clear S hc1 hA1 hB1
      have S:=S1
      clear S1
      conv=>whnf
      refine ⟨_,S.row 6 rfl,⟨by omega,by omega⟩,?_⟩
      conv=>whnf
      refine ⟨_,rfl,rfl,rfl,.inr ⟨_,_,_,S.row 6 rfl,rowGet hidx,?_⟩⟩
      conv=>whnf
      intro c13 hh_c13
      replace S:=S.setRow 6 rfl hidx hh_c13
      dsimp only [List.set] at S
      conv=>whnf
      refine ⟨_,S.row 6 rfl,⟨by omega,by omega⟩,?_⟩
      conv=>whnf
      refine ⟨_,rfl,rfl,rfl,.inr ⟨_,_,_,S.row 6 rfl,rowGet hidx,?_⟩⟩
      conv=>whnf
      intro c14 hh_c14
      replace S:=S.setRow 6 rfl hidx hh_c14
      dsimp only [List.set] at S
      conv=>whnf
      refine ⟨_,S.row 6 rfl,⟨by omega,by omega⟩,?_⟩
      conv=>whnf
      refine .inr ⟨_,_,_,S.row 6 rfl,rowGet hidx,?_⟩
      conv=>whnf
      have hA2 : 0 ≤ k1 + ((2 : Nat) : Int):=by omega
      have hB2 : k1 + ((2 : Nat) : Int) + (keys.length : Int) ≤ 1152921504606846976:=by omega
      have hcx:=markKeys_t hp keys S hA2 hB2
      obtain ⟨q2,k2,hc2,b2,S1⟩:=hcx
      have hw2:=(incs_eq 2 k1 (by omega) (by omega)).symm
      rw [hw2] at hc2
      clear hw2
      refine ⟨_,hc2,?_⟩
      clear S hc2 hA2 hB2
      have S:=S1
      clear S1
      conv=>whnf
      refine ⟨_,S.row 5 rfl,⟨by omega,by omega⟩,?_⟩
      conv=>whnf
      refine ⟨_,rfl,rfl,rfl,.inr ⟨_,_,_,S.row 5 rfl,rowGet hidx,?_⟩⟩
      conv=>whnf
      intro c15 hh_c15
      replace S:=S.setRow 5 rfl hidx hh_c15
      dsimp only [List.set] at S
      conv=>whnf
      refine ⟨_,S.row 5 rfl,⟨by omega,by omega⟩,?_⟩
      conv=>whnf
      refine ⟨_,rfl,rfl,rfl,.inr ⟨_,_,_,S.row 5 rfl,rowGet hidx,?_⟩⟩
      conv=>whnf
      intro c16 hh_c16
      replace S:=S.setRow 5 rfl hidx hh_c16
      dsimp only [List.set] at S
      conv=>whnf
      refine ⟨_,S.row 5 rfl,⟨by omega,by omega⟩,?_⟩
      conv=>whnf
      refine .inr ⟨_,_,_,S.row 5 rfl,rowGet hidx,?_⟩
      conv=>whnf
      have hA3 : 0 ≤ k2 + ((2 : Nat) : Int):=by omega
      have hB3 : k2 + ((2 : Nat) : Int) + (cms kids : Int) ≤ 1152921504606846976:=by omega
      have hcx:=markKids_t hp kids S hA3 hB3
      obtain ⟨q3,k3,hc3,b3,S1⟩:=hcx
      have hw3:=(incs_eq 2 k2 (by omega) (by omega)).symm
      rw [hw3] at hc3
      clear hw3
      refine ⟨_,hc3,?_⟩
      clear S hc3 hA3 hB3
      have S:=S1
      clear S1
      conv=>whnf
      refine ⟨_,S.row 4 rfl,⟨by omega,by omega⟩,?_⟩
      conv=>whnf
      refine .inr ⟨_,_,_,S.row 4 rfl,rowGet hidx,?_⟩
      conv=>whnf
      have hA4 : 0 ≤ k3:=by omega
      have hB4 : k3 + 64 * ((Runs.d l).tot : Int) ≤ 1152921504606846976:=by omega
      have hcx:=hl _ _ _ _ (k3) S hA4 hB4
      obtain ⟨q4,k4,hc4,b4,b4',S1⟩:=hcx
      refine ⟨_,hc4,?_⟩
      clear S hc4 hA4 hB4
      have S:=S1
      clear S1
      conv=>whnf
      refine ⟨_,S.row 3 rfl,⟨by omega,by omega⟩,?_⟩
      conv=>whnf
      refine .inr ⟨_,_,_,S.row 3 rfl,rowGet hidx,?_⟩
      conv=>whnf
      have hA5 : 0 ≤ k4:=by omega
      have hB5 : k4 + 64 * ((Runs.d r).tot : Int) ≤ 1152921504606846976:=by omega
      have hcx:=hr _ _ _ _ (k4) S hA5 hB5
      obtain ⟨q5,k5,hc5,b5,b5',S1⟩:=hcx
      refine ⟨_,hc5,?_⟩
      clear S hc5 hA5 hB5
      have S:=S1
      clear S1
      conv=>whnf
      refine ⟨_,S.row 2 rfl,⟨by omega,by omega⟩,?_⟩
      conv=>whnf
      refine .inr ⟨_,_,_,S.row 2 rfl,rowGet hidx,?_⟩
      conv=>whnf
      have hA6 : 0 ≤ k5:=by omega
      have hB6 : k5 + 64 * ((Dat.s 22 (Flow.ds ks)).tot : Int) ≤ 1152921504606846976:=by omega
      have hcx:=hk _ _ _ _ (k5) S hA6 hB6
      obtain ⟨q6,k6,hc6,b6,b6',S1⟩:=hcx
      refine ⟨_,hc6,?_⟩
      clear S hc6 hA6 hB6
      have S:=S1
      clear S1
      conv=>whnf
      have S9:=rowApp S.swap
      exact ⟨m - 1,by omega,j + 1,rest,_,_,_,k6,fun y hy=>hsub y (by simp [hy]),by omega,by omega,by simp [hA],nat_step j (by omega),rfl,by omega,by omega,S9⟩
   ·have hjl : ¬ j < xs.length:=by simpa using g1
    have hr : rest = []:=List.length_eq_zero_iff.1 (by omega)
    subst hr
    conv=>whnf
    exact ⟨_,rfl,hq,kk,rfl,hle,by simp only [List.map_nil,Dat.tots,List.length_nil] at hkb; omega,(S.drop 0).drop 0⟩
theorem markFlowS_t (hp : Okp pr) (xs : List Flow) : MarkT pr 99 (.s 22 (xs.map Flow.d)):=markFlowS_t' hp _ xs (Nat.le_refl _)
theorem Sepa.view {h : Heap} {Q : List Chunk} {kind n : Int} {test : Test} {cells : List Cell} {a b : Int} {keys : List Int} {agg col : Int} {kids : List Plan} {l r : List (List Item)} {ks : List Flow} {since : Int} {base : List Item} {pasts : List Past} {v : AVal} {F : List Nat}
  (S : Sepa h (.dat (View.mk (.mk (.mk kind n test cells a b keys agg col kids) l r ks) since base pasts).d v F :: Q)) :
  ∃ C K D L R KS BS PS Fc Fk Fd F1 F2 F3 F4 F5,v = .agg (pcells kind n test C a b K agg col D [L,R,KS,i64 since,BS,PS]) ∧ Sepa h (.list Cell.enc 4 cells C Fc :: .list i64 1 keys K Fk :: .kids kids D Fd :: .dat (Runs.d l) L F1 :: .dat (Runs.d r) R F2 :: .dat (.s 22 (Flow.ds ks)) KS F3 :: .dat (Items.d base) BS F4 :: .dat (.s 2 (pasts.map Past.d)) PS F5 :: Q):=by
   have ho : Own h _ v F:=S.get 0 rfl
   obtain ⟨vv,rfl,hu⟩:=Own_g.1 ho
   obtain ⟨us,w0,H0,G0,rfl,rfl,hof,hor⟩:=OwnC_g.1 hu
   obtain ⟨C,K,D,Fc,Fk,Fd,w1,G1,rfl,g1,g2,g3,rfl,ho1⟩:=OwnC_p.1 hof
   obtain ⟨u2,w2,H2,G2,rfl,rfl,ho2,ho3⟩:=OwnC_g.1 ho1
   obtain ⟨L,u3,H3,G3,rfl,rfl,gL,ho4⟩:=OwnC_s.1 ho2
   obtain ⟨rfl,rfl⟩:=OwnC_nil.1 ho4
   obtain ⟨u4,w4,H4,G4,rfl,rfl,ho5,ho6⟩:=OwnC_g.1 ho3
   obtain ⟨R,u5,H5,G5,rfl,rfl,gR,ho7⟩:=OwnC_s.1 ho5
   obtain ⟨rfl,rfl⟩:=OwnC_nil.1 ho7
   obtain ⟨KS,u6,H6,G6,rfl,rfl,gK,ho8⟩:=OwnC_s.1 ho6
   obtain ⟨rfl,rfl⟩:=OwnC_nil.1 ho8
   obtain ⟨w9,rfl,ho9⟩:=OwnC_i.1 hor
   obtain ⟨BS,u7,H7,G7,rfl,rfl,gB,ho10⟩:=OwnC_s.1 ho9
   obtain ⟨PS,u8,H8,G8,rfl,rfl,gP,ho11⟩:=OwnC_s.1 ho10
   obtain ⟨rfl,rfl⟩:=OwnC_nil.1 ho11
   refine ⟨C,K,D,L,R,KS,BS,PS,Fc,Fk,Fd,H3,H5,H6,H7,H8,rfl,S.cuts [.list Cell.enc 4 cells C Fc,.list i64 1 keys K Fk,.kids kids D Fd,.dat (Runs.d l) L H3,.dat (Runs.d r) R H5,.dat (.s 22 (Flow.ds ks)) KS H6,.dat (Items.d base) BS H7,.dat (.s 2 (pasts.map Past.d)) PS H8] (by simp [Chunk.dat,Chunk.list,Chunk.kids]) ?_⟩
   intro d hd
   simp only [List.mem_cons,List.not_mem_nil,or_false] at hd
   rcases hd with rfl | rfl | rfl | rfl | rfl | rfl | rfl | rfl
   ·exact g1
   ·exact g2
   ·exact g3
   ·exact gL
   ·exact gR
   ·exact gK
   ·exact gB
   ·exact gP
theorem markViewS_t (hp : Okp pr) (xs : List View) : MarkT pr 55 (.s 25 (xs.map View.d)):=by
 intro v F h L k S h0 hb
 have htot : (Dat.s 25 (xs.map View.d)).tot = xs.length + Dat.tots (xs.map View.d):=by simp only [Dat.tot,List.length_map]
 rw [htot] at hb ⊢
 clear htot
 rw [callF rfl]
 suffices hw : wpFL (cfp pr) 55 [v,i64 k] h (fun r=>∃ h' k',r = .ret (i64 k') h' ∧ k ≤ k' ∧ k' ≤ k + 64 * ((xs.length + Dat.tots (xs.map View.d) : Nat) : Int) ∧ Sepa h' L) by
  obtain ⟨r,hr,h',k',rfl,h1⟩:=wpFL_sound (hp.out _ rfl) hw
  exact ⟨h',k',hr,h1⟩
 rcases Sepa.open S with ⟨hx,hv,S1⟩ | ⟨id,vs,Fs,rfl,rfl,S1⟩
 ·have hx : xs = []:=List.map_eq_nil_iff.1 hx
  subst hx
  rcases hv with rfl | rfl
  iterate 2
   ·conv=>whnf
    refine loopL1 ?_
    conv=>whnf
    exact ⟨_,rfl,h,k,rfl,Int.le_refl _,by simp [Dat.tots],S1⟩
 ·rw [List.length_map] at *
  conv=>whnf
  refine loopL (fun m tm hp=>∃ (j : Nat) (rest : List View) (A B : List AVal) (F2 : List Nat) (kk : Int),(∀ x ∈ rest,x ∈ xs) ∧ rest.length = m ∧ j + m = xs.length ∧ A.length = j ∧ tm 5 = i64 (j : Nat) ∧ tm 1 = i64 kk ∧ k ≤ kk ∧ kk + 64 * ((rest.length + Dat.tots (rest.map View.d) : Nat) : Int) ≤ k + 64 * ((xs.length + Dat.tots (xs.map View.d) : Nat) : Int) ∧
   Sepa hp (.row id (.arr 25 (A ++ B)) :: .dats (rest.map View.d) B F2 :: L)) (fun m tm hq hfr hI=>?_) xs.length ⟨0,xs,[],vs,Fs,k,fun _ h=>h,rfl,by simp,rfl,rfl,rfl,Int.le_refl _,Int.le_refl _,S1⟩
  obtain ⟨j,rest,A,B,F2,kk,hsub,hm,hj,hA,e5,e1,hle,hkb,S2⟩:=hI
  clear S S1
  have S:=S2
  clear S2
  have k0:=hfr 0 (by kernel_rfl)
  conv at k0=>rhs; whnf
  refine ⟨[(0,_),(1,_),(5,_)],⟨k0,e1,e5,trivial⟩,?_⟩
  clear hfr k0 e1 e5
  have hidx : 0 + ((j : Nat) : Int).toNat = A.length:=by rw [hA]; simp
  conv=>whnf
  refine bsel_intro (fun g1=>?_) (fun g1=>?_)
  ·have hjl : j < xs.length:=by simpa using g1
   have hjb : j < 1152921504606846976:=by omega
   cases rest with
   | nil=>simp at hm; omega
   | cons x rest=>
    have hxm:=hsub x (by simp)
    replace S:=S.swap
    rw [List.map_cons] at S
    obtain ⟨v,B',F1,F3,rfl,rfl,S3⟩:=Sepa.uncons S
    clear S
    have S:=S3
    clear S3
    have hkb2 : kk + 64 * (1 + ((View.d x).tot : Int)) + 64 * ((rest.length + Dat.tots (rest.map View.d) : Nat) : Int) ≤ k + 64 * ((xs.length + Dat.tots (xs.map View.d) : Nat) : Int):=by
     simp only [List.map_cons,Dat.tots,List.length_cons] at hkb; omega
    simp only [List.length_cons] at hm
    clear hkb
    obtain ⟨⟨⟨kind,n,test,cells,a,b,keys,agg,col,kids⟩,l,r,ks⟩,since,base,pasts⟩:=x
    have hpt : (View.mk (.mk (.mk kind n test cells a b keys agg col kids) l r ks) since base pasts).d.tot = cells.length + keys.length + kids.length + Plan.szs kids + (Runs.d l).tot + (Runs.d r).tot + (Dat.s 22 (Flow.ds ks)).tot + (Items.d base).tot + (Dat.s 2 (pasts.map Past.d)).tot:=by simp only [View.d,Flow.d,Dat.tot,Dat.tots,Plan.sz]; omega
    rw [hpt] at hkb2
    have hck:=cms_sz kids
    have hl:=markRuns_t hp l
    have hr:=markRuns_t hp r
    have hk:=markFlowS_t hp ks
    rw [← Flow.ds_map] at hk
    have hpast:=markPastS_t hp pasts
    obtain ⟨C,K,D,Lv,R,KS,BS,PS,Fc,Fk,Fd,G1,G2,G3,G4,G5,rfl,S3⟩:=Sepa.view S
    clear S
    have S:=S3
    clear S3 hpt
    have tl : (Dat.s 1 (l.map Items.d)).tot = (Runs.d l).tot:=rfl
    have tr : (Dat.s 1 (r.map Items.d)).tot = (Runs.d r).tot:=rfl
    conv=>whnf
    refine ⟨_,S.row 9 rfl,⟨by omega,by omega⟩,?_⟩
    conv=>whnf
    refine ⟨_,rfl,rfl,rfl,.inr ⟨_,_,_,S.row 9 rfl,rowGet hidx,?_⟩⟩
    conv=>whnf
    intro c1 hh_c1
    replace S:=S.setRow 9 rfl hidx hh_c1
    dsimp only [List.set] at S
    conv=>whnf
    refine ⟨_,S.row 9 rfl,⟨by omega,by omega⟩,?_⟩
    conv=>whnf
    refine ⟨_,rfl,rfl,rfl,.inr ⟨_,_,_,S.row 9 rfl,rowGet hidx,?_⟩⟩
    conv=>whnf
    intro c2 hh_c2
    replace S:=S.setRow 9 rfl hidx hh_c2
    dsimp only [List.set] at S
    conv=>whnf
    refine ⟨_,S.row 9 rfl,⟨by omega,by omega⟩,?_⟩
    conv=>whnf
    refine ⟨_,rfl,rfl,rfl,.inr ⟨_,_,_,S.row 9 rfl,rowGet hidx,?_⟩⟩
    conv=>whnf
    intro c3 hh_c3
    replace S:=S.setRow 9 rfl hidx hh_c3
    dsimp only [List.set] at S
    conv=>whnf
    refine ⟨rfl,by decide,?_⟩
    conv=>whnf
    refine bsel_intro (fun hm3=>?_) (fun hm3=>?_)
    ·conv=>whnf
     refine ⟨_,S.row 9 rfl,⟨by omega,by omega⟩,?_⟩
     conv=>whnf
     refine ⟨_,rfl,rfl,rfl,.inr ⟨_,_,_,S.row 9 rfl,rowGet hidx,?_⟩⟩
     conv=>whnf
     intro c4 hh_c4
     replace S:=S.setRow 9 rfl hidx hh_c4
     dsimp only [List.set] at S
     conv=>whnf
     refine ⟨_,S.row 9 rfl,⟨by omega,by omega⟩,?_⟩
     conv=>whnf
     refine ⟨_,rfl,rfl,rfl,.inr ⟨_,_,_,S.row 9 rfl,rowGet hidx,?_⟩⟩
     conv=>whnf
     intro c5 hh_c5
     replace S:=S.setRow 9 rfl hidx hh_c5
     dsimp only [List.set] at S
     conv=>whnf
     refine ⟨_,S.row 9 rfl,⟨by omega,by omega⟩,?_⟩
     conv=>whnf
     refine ⟨_,rfl,rfl,rfl,.inr ⟨_,_,_,S.row 9 rfl,rowGet hidx,?_⟩⟩
     conv=>whnf
     intro c6 hh_c6
     replace S:=S.setRow 9 rfl hidx hh_c6
     dsimp only [List.set] at S
     conv=>whnf
     refine ⟨_,S.row 9 rfl,⟨by omega,by omega⟩,?_⟩
     conv=>whnf
     refine ⟨_,rfl,rfl,rfl,.inr ⟨_,_,_,S.row 9 rfl,rowGet hidx,?_⟩⟩
     conv=>whnf
     intro c7 hh_c7
     replace S:=S.setRow 9 rfl hidx hh_c7
     dsimp only [List.set] at S
     conv=>whnf
     refine ⟨_,S.row 9 rfl,⟨by omega,by omega⟩,?_⟩
     conv=>whnf
     refine ⟨_,rfl,rfl,rfl,.inr ⟨_,_,_,S.row 9 rfl,rowGet hidx,?_⟩⟩
     conv=>whnf
     intro c8 hh_c8
     replace S:=S.setRow 9 rfl hidx hh_c8
     dsimp only [List.set] at S
     conv=>whnf
     refine ⟨_,S.row 9 rfl,⟨by omega,by omega⟩,?_⟩
     conv=>whnf
     refine ⟨_,rfl,rfl,rfl,.inr ⟨_,_,_,S.row 9 rfl,rowGet hidx,?_⟩⟩
     conv=>whnf
     intro c9 hh_c9
     replace S:=S.setRow 9 rfl hidx hh_c9
     dsimp only [List.set] at S
     conv=>whnf
     refine ⟨_,S.row 9 rfl,⟨by omega,by omega⟩,?_⟩
     conv=>whnf
     refine ⟨_,rfl,rfl,rfl,.inr ⟨_,_,_,S.row 9 rfl,rowGet hidx,?_⟩⟩
     conv=>whnf
     intro c10 hh_c10
     replace S:=S.setRow 9 rfl hidx hh_c10
     dsimp only [List.set] at S
     conv=>whnf
     refine ⟨_,S.row 9 rfl,⟨by omega,by omega⟩,?_⟩
     conv=>whnf
     refine ⟨_,rfl,rfl,rfl,.inr ⟨_,_,_,S.row 9 rfl,rowGet hidx,?_⟩⟩
     conv=>whnf
     intro c11 hh_c11
     replace S:=S.setRow 9 rfl hidx hh_c11
     dsimp only [List.set] at S
     conv=>whnf
     refine ⟨_,S.row 9 rfl,⟨by omega,by omega⟩,?_⟩
     conv=>whnf
     refine ⟨_,rfl,rfl,rfl,.inr ⟨_,_,_,S.row 9 rfl,rowGet hidx,?_⟩⟩
     conv=>whnf
     intro c12 hh_c12
     replace S:=S.setRow 9 rfl hidx hh_c12
     dsimp only [List.set] at S
     conv=>whnf
     refine ⟨_,S.row 9 rfl,⟨by omega,by omega⟩,?_⟩
     conv=>whnf
     refine .inr ⟨_,_,_,S.row 9 rfl,rowGet hidx,?_⟩
     conv=>whnf
     have hA1 : 0 ≤ kk + ((12 : Nat) : Int):=by omega
     have hB1 : kk + ((12 : Nat) : Int) + 4 * (cells.length : Int) ≤ 1152921504606846976:=by omega
     have hcx:=markCells_t hp cells S hA1 hB1
     obtain ⟨q1,k1,hc1,b1,S1⟩:=hcx
     have hw1:=(incs_eq 12 kk (by omega) (by omega)).symm
     rw [hw1] at hc1
     clear hw1
     refine ⟨_,hc1,?_⟩
     clear S hc1 hA1 hB1
     have S:=S1
     clear S1
     conv=>whnf
     refine ⟨_,S.row 8 rfl,⟨by omega,by omega⟩,?_⟩
     conv=>whnf
     refine ⟨_,rfl,rfl,rfl,.inr ⟨_,_,_,S.row 8 rfl,rowGet hidx,?_⟩⟩
     conv=>whnf
     intro c13 hh_c13
     replace S:=S.setRow 8 rfl hidx hh_c13
     dsimp only [List.set] at S
     conv=>whnf
     refine ⟨_,S.row 8 rfl,⟨by omega,by omega⟩,?_⟩
     conv=>whnf
     refine ⟨_,rfl,rfl,rfl,.inr ⟨_,_,_,S.row 8 rfl,rowGet hidx,?_⟩⟩
     conv=>whnf
     intro c14 hh_c14
     replace S:=S.setRow 8 rfl hidx hh_c14
     dsimp only [List.set] at S
     conv=>whnf
     refine ⟨_,S.row 8 rfl,⟨by omega,by omega⟩,?_⟩
     conv=>whnf
     refine .inr ⟨_,_,_,S.row 8 rfl,rowGet hidx,?_⟩
     conv=>whnf
     have hA2 : 0 ≤ k1 + ((2 : Nat) : Int):=by omega
     have hB2 : k1 + ((2 : Nat) : Int) + (keys.length : Int) ≤ 1152921504606846976:=by omega
     have hcx:=markKeys_t hp keys S hA2 hB2
     obtain ⟨q2,k2,hc2,b2,S1⟩:=hcx
     have hw2:=(incs_eq 2 k1 (by omega) (by omega)).symm
     rw [hw2] at hc2
     clear hw2
     refine ⟨_,hc2,?_⟩
     clear S hc2 hA2 hB2
     have S:=S1
     clear S1
     conv=>whnf
     refine ⟨_,S.row 7 rfl,⟨by omega,by omega⟩,?_⟩
     conv=>whnf
     refine ⟨_,rfl,rfl,rfl,.inr ⟨_,_,_,S.row 7 rfl,rowGet hidx,?_⟩⟩
     conv=>whnf
     intro c15 hh_c15
     replace S:=S.setRow 7 rfl hidx hh_c15
     dsimp only [List.set] at S
     conv=>whnf
     refine ⟨_,S.row 7 rfl,⟨by omega,by omega⟩,?_⟩
     conv=>whnf
     refine ⟨_,rfl,rfl,rfl,.inr ⟨_,_,_,S.row 7 rfl,rowGet hidx,?_⟩⟩
     conv=>whnf
     intro c16 hh_c16
     replace S:=S.setRow 7 rfl hidx hh_c16
     dsimp only [List.set] at S
     conv=>whnf
     refine ⟨_,S.row 7 rfl,⟨by omega,by omega⟩,?_⟩
     conv=>whnf
     refine .inr ⟨_,_,_,S.row 7 rfl,rowGet hidx,?_⟩
     conv=>whnf
     have hA3 : 0 ≤ k2 + ((2 : Nat) : Int):=by omega
     have hB3 : k2 + ((2 : Nat) : Int) + (cms kids : Int) ≤ 1152921504606846976:=by omega
     have hcx:=markKids_t hp kids S hA3 hB3
     obtain ⟨q3,k3,hc3,b3,S1⟩:=hcx
     have hw3:=(incs_eq 2 k2 (by omega) (by omega)).symm
     rw [hw3] at hc3
     clear hw3
     refine ⟨_,hc3,?_⟩
     clear S hc3 hA3 hB3
     have S:=S1
     clear S1
     conv=>whnf
     refine ⟨_,S.row 6 rfl,⟨by omega,by omega⟩,?_⟩
     conv=>whnf
     refine .inr ⟨_,_,_,S.row 6 rfl,rowGet hidx,?_⟩
     conv=>whnf
     have hA4 : 0 ≤ k3:=by omega
     have hB4 : k3 + 64 * ((Runs.d l).tot : Int) ≤ 1152921504606846976:=by omega
     have hcx:=hl _ _ _ _ (k3) S hA4 hB4
     obtain ⟨q4,k4,hc4,b4,b4',S1⟩:=hcx
     refine ⟨_,hc4,?_⟩
     clear S hc4 hA4 hB4
     have S:=S1
     clear S1
     conv=>whnf
     refine ⟨_,S.row 5 rfl,⟨by omega,by omega⟩,?_⟩
     conv=>whnf
     refine .inr ⟨_,_,_,S.row 5 rfl,rowGet hidx,?_⟩
     conv=>whnf
     have hA5 : 0 ≤ k4:=by omega
     have hB5 : k4 + 64 * ((Runs.d r).tot : Int) ≤ 1152921504606846976:=by omega
     have hcx:=hr _ _ _ _ (k4) S hA5 hB5
     obtain ⟨q5,k5,hc5,b5,b5',S1⟩:=hcx
     refine ⟨_,hc5,?_⟩
     clear S hc5 hA5 hB5
     have S:=S1
     clear S1
     conv=>whnf
     refine ⟨_,S.row 4 rfl,⟨by omega,by omega⟩,?_⟩
     conv=>whnf
     refine .inr ⟨_,_,_,S.row 4 rfl,rowGet hidx,?_⟩
     conv=>whnf
     have hA6 : 0 ≤ k5:=by omega
     have hB6 : k5 + 64 * ((Dat.s 22 (Flow.ds ks)).tot : Int) ≤ 1152921504606846976:=by omega
     have hcx:=hk _ _ _ _ (k5) S hA6 hB6
     obtain ⟨q6,k6,hc6,b6,b6',S1⟩:=hcx
     refine ⟨_,hc6,?_⟩
     clear S hc6 hA6 hB6
     have S:=S1
     clear S1
     conv=>whnf
     refine ⟨_,S.row 3 rfl,⟨by omega,by omega⟩,?_⟩
     conv=>whnf
     refine ⟨_,rfl,rfl,rfl,.inr ⟨_,_,_,S.row 3 rfl,rowGet hidx,?_⟩⟩
     conv=>whnf
     intro c17 hh_c17
     replace S:=S.setRow 3 rfl hidx hh_c17
     dsimp only [List.set] at S
     conv=>whnf
     refine ⟨_,S.row 3 rfl,⟨by omega,by omega⟩,?_⟩
     conv=>whnf
     refine .inr ⟨_,_,_,S.row 3 rfl,rowGet hidx,?_⟩
     conv=>whnf
     have hA7 : 0 ≤ k6 + ((1 : Nat) : Int):=by omega
     have hB7 : k6 + ((1 : Nat) : Int) + 64 * ((Items.d base).tot : Int) ≤ 1152921504606846976:=by omega
     have hcx:=markItems_t hp base _ _ _ _ (k6 + ((1 : Nat) : Int)) S hA7 hB7
     obtain ⟨q7,k7,hc7,b7,b7',S1⟩:=hcx
     have hw7:=(incs_eq 1 k6 (by omega) (by omega)).symm
     rw [hw7] at hc7
     clear hw7
     refine ⟨_,hc7,?_⟩
     clear S hc7 hA7 hB7
     have S:=S1
     clear S1
     conv=>whnf
     refine ⟨_,S.row 2 rfl,⟨by omega,by omega⟩,?_⟩
     conv=>whnf
     refine .inr ⟨_,_,_,S.row 2 rfl,rowGet hidx,?_⟩
     conv=>whnf
     have hA8 : 0 ≤ k7:=by omega
     have hB8 : k7 + 64 * ((Dat.s 2 (pasts.map Past.d)).tot : Int) ≤ 1152921504606846976:=by omega
     have hcx:=hpast _ _ _ _ (k7) S hA8 hB8
     obtain ⟨q8,k8,hc8,b8,b8',S1⟩:=hcx
     refine ⟨_,hc8,?_⟩
     clear S hc8 hA8 hB8
     have S:=S1
     clear S1
     conv=>whnf
     have S9:=rowApp S.swap
     exact ⟨m - 1,by omega,j + 1,rest,_,_,_,k8,fun y hy=>hsub y (by simp [hy]),by omega,by omega,by simp [hA],nat_step j (by omega),rfl,by omega,by omega,S9⟩
    ·conv=>whnf
     refine ⟨_,S.row 9 rfl,⟨by omega,by omega⟩,?_⟩
     conv=>whnf
     refine ⟨_,rfl,rfl,rfl,.inr ⟨_,_,_,S.row 9 rfl,rowGet hidx,?_⟩⟩
     conv=>whnf
     intro c4 hh_c4
     replace S:=S.setRow 9 rfl hidx hh_c4
     dsimp only [List.set] at S
     conv=>whnf
     refine ⟨_,S.row 9 rfl,⟨by omega,by omega⟩,?_⟩
     conv=>whnf
     refine ⟨_,rfl,rfl,rfl,.inr ⟨_,_,_,S.row 9 rfl,rowGet hidx,?_⟩⟩
     conv=>whnf
     intro c5 hh_c5
     replace S:=S.setRow 9 rfl hidx hh_c5
     dsimp only [List.set] at S
     conv=>whnf
     refine ⟨_,S.row 9 rfl,⟨by omega,by omega⟩,?_⟩
     conv=>whnf
     refine ⟨_,rfl,rfl,rfl,.inr ⟨_,_,_,S.row 9 rfl,rowGet hidx,?_⟩⟩
     conv=>whnf
     intro c6 hh_c6
     replace S:=S.setRow 9 rfl hidx hh_c6
     dsimp only [List.set] at S
     conv=>whnf
     refine ⟨_,S.row 9 rfl,⟨by omega,by omega⟩,?_⟩
     conv=>whnf
     refine ⟨_,rfl,rfl,rfl,.inr ⟨_,_,_,S.row 9 rfl,rowGet hidx,?_⟩⟩
     conv=>whnf
     intro c7 hh_c7
     replace S:=S.setRow 9 rfl hidx hh_c7
     dsimp only [List.set] at S
     conv=>whnf
     refine ⟨_,S.row 9 rfl,⟨by omega,by omega⟩,?_⟩
     conv=>whnf
     refine ⟨_,rfl,rfl,rfl,.inr ⟨_,_,_,S.row 9 rfl,rowGet hidx,?_⟩⟩
     conv=>whnf
     intro c8 hh_c8
     replace S:=S.setRow 9 rfl hidx hh_c8
     dsimp only [List.set] at S
     conv=>whnf
     refine ⟨_,S.row 9 rfl,⟨by omega,by omega⟩,?_⟩
     conv=>whnf
     refine ⟨_,rfl,rfl,rfl,.inr ⟨_,_,_,S.row 9 rfl,rowGet hidx,?_⟩⟩
     conv=>whnf
     intro c9 hh_c9
     replace S:=S.setRow 9 rfl hidx hh_c9
     dsimp only [List.set] at S
     conv=>whnf
     refine ⟨_,S.row 9 rfl,⟨by omega,by omega⟩,?_⟩
     conv=>whnf
     refine ⟨_,rfl,rfl,rfl,.inr ⟨_,_,_,S.row 9 rfl,rowGet hidx,?_⟩⟩
     conv=>whnf
     intro c10 hh_c10
     replace S:=S.setRow 9 rfl hidx hh_c10
     dsimp only [List.set] at S
     conv=>whnf
     refine ⟨_,S.row 9 rfl,⟨by omega,by omega⟩,?_⟩
     conv=>whnf
     refine ⟨_,rfl,rfl,rfl,.inr ⟨_,_,_,S.row 9 rfl,rowGet hidx,?_⟩⟩
     conv=>whnf
     intro c11 hh_c11
     replace S:=S.setRow 9 rfl hidx hh_c11
     dsimp only [List.set] at S
     conv=>whnf
     refine ⟨_,S.row 9 rfl,⟨by omega,by omega⟩,?_⟩
     conv=>whnf
     refine ⟨_,rfl,rfl,rfl,.inr ⟨_,_,_,S.row 9 rfl,rowGet hidx,?_⟩⟩
     conv=>whnf
     intro c12 hh_c12
     replace S:=S.setRow 9 rfl hidx hh_c12
     dsimp only [List.set] at S
     conv=>whnf
     refine ⟨_,S.row 9 rfl,⟨by omega,by omega⟩,?_⟩
     conv=>whnf
     refine .inr ⟨_,_,_,S.row 9 rfl,rowGet hidx,?_⟩
     conv=>whnf
     have hA1 : 0 ≤ kk + ((12 : Nat) : Int):=by omega
     have hB1 : kk + ((12 : Nat) : Int) + 4 * (cells.length : Int) ≤ 1152921504606846976:=by omega
     have hcx:=markCells_t hp cells S hA1 hB1
     obtain ⟨q1,k1,hc1,b1,S1⟩:=hcx
     have hw1:=(incs_eq 12 kk (by omega) (by omega)).symm
     rw [hw1] at hc1
     clear hw1
     refine ⟨_,hc1,?_⟩
     clear S hc1 hA1 hB1
     have S:=S1
     clear S1
     conv=>whnf
     refine ⟨_,S.row 8 rfl,⟨by omega,by omega⟩,?_⟩
     conv=>whnf
     refine ⟨_,rfl,rfl,rfl,.inr ⟨_,_,_,S.row 8 rfl,rowGet hidx,?_⟩⟩
     conv=>whnf
     intro c13 hh_c13
     replace S:=S.setRow 8 rfl hidx hh_c13
     dsimp only [List.set] at S
     conv=>whnf
     refine ⟨_,S.row 8 rfl,⟨by omega,by omega⟩,?_⟩
     conv=>whnf
     refine ⟨_,rfl,rfl,rfl,.inr ⟨_,_,_,S.row 8 rfl,rowGet hidx,?_⟩⟩
     conv=>whnf
     intro c14 hh_c14
     replace S:=S.setRow 8 rfl hidx hh_c14
     dsimp only [List.set] at S
     conv=>whnf
     refine ⟨_,S.row 8 rfl,⟨by omega,by omega⟩,?_⟩
     conv=>whnf
     refine .inr ⟨_,_,_,S.row 8 rfl,rowGet hidx,?_⟩
     conv=>whnf
     have hA2 : 0 ≤ k1 + ((2 : Nat) : Int):=by omega
     have hB2 : k1 + ((2 : Nat) : Int) + (keys.length : Int) ≤ 1152921504606846976:=by omega
     have hcx:=markKeys_t hp keys S hA2 hB2
     obtain ⟨q2,k2,hc2,b2,S1⟩:=hcx
     have hw2:=(incs_eq 2 k1 (by omega) (by omega)).symm
     rw [hw2] at hc2
     clear hw2
     refine ⟨_,hc2,?_⟩
     clear S hc2 hA2 hB2
     have S:=S1
     clear S1
     conv=>whnf
     refine ⟨_,S.row 7 rfl,⟨by omega,by omega⟩,?_⟩
     conv=>whnf
     refine ⟨_,rfl,rfl,rfl,.inr ⟨_,_,_,S.row 7 rfl,rowGet hidx,?_⟩⟩
     conv=>whnf
     intro c15 hh_c15
     replace S:=S.setRow 7 rfl hidx hh_c15
     dsimp only [List.set] at S
     conv=>whnf
     refine ⟨_,S.row 7 rfl,⟨by omega,by omega⟩,?_⟩
     conv=>whnf
     refine ⟨_,rfl,rfl,rfl,.inr ⟨_,_,_,S.row 7 rfl,rowGet hidx,?_⟩⟩
     conv=>whnf
     intro c16 hh_c16
     replace S:=S.setRow 7 rfl hidx hh_c16
     dsimp only [List.set] at S
     conv=>whnf
     refine ⟨_,S.row 7 rfl,⟨by omega,by omega⟩,?_⟩
     conv=>whnf
     refine .inr ⟨_,_,_,S.row 7 rfl,rowGet hidx,?_⟩
     conv=>whnf
     have hA3 : 0 ≤ k2 + ((2 : Nat) : Int):=by omega
     have hB3 : k2 + ((2 : Nat) : Int) + (cms kids : Int) ≤ 1152921504606846976:=by omega
     have hcx:=markKids_t hp kids S hA3 hB3
     obtain ⟨q3,k3,hc3,b3,S1⟩:=hcx
     have hw3:=(incs_eq 2 k2 (by omega) (by omega)).symm
     rw [hw3] at hc3
     clear hw3
     refine ⟨_,hc3,?_⟩
     clear S hc3 hA3 hB3
     have S:=S1
     clear S1
     conv=>whnf
     refine ⟨_,S.row 6 rfl,⟨by omega,by omega⟩,?_⟩
     conv=>whnf
     refine .inr ⟨_,_,_,S.row 6 rfl,rowGet hidx,?_⟩
     conv=>whnf
     have hA4 : 0 ≤ k3:=by omega
     have hB4 : k3 + 64 * ((Runs.d l).tot : Int) ≤ 1152921504606846976:=by omega
     have hcx:=hl _ _ _ _ (k3) S hA4 hB4
     obtain ⟨q4,k4,hc4,b4,b4',S1⟩:=hcx
     refine ⟨_,hc4,?_⟩
     clear S hc4 hA4 hB4
     have S:=S1
     clear S1
     conv=>whnf
     refine ⟨_,S.row 5 rfl,⟨by omega,by omega⟩,?_⟩
     conv=>whnf
     refine .inr ⟨_,_,_,S.row 5 rfl,rowGet hidx,?_⟩
     conv=>whnf
     have hA5 : 0 ≤ k4:=by omega
     have hB5 : k4 + 64 * ((Runs.d r).tot : Int) ≤ 1152921504606846976:=by omega
     have hcx:=hr _ _ _ _ (k4) S hA5 hB5
     obtain ⟨q5,k5,hc5,b5,b5',S1⟩:=hcx
     refine ⟨_,hc5,?_⟩
     clear S hc5 hA5 hB5
     have S:=S1
     clear S1
     conv=>whnf
     refine ⟨_,S.row 4 rfl,⟨by omega,by omega⟩,?_⟩
     conv=>whnf
     refine .inr ⟨_,_,_,S.row 4 rfl,rowGet hidx,?_⟩
     conv=>whnf
     have hA6 : 0 ≤ k5:=by omega
     have hB6 : k5 + 64 * ((Dat.s 22 (Flow.ds ks)).tot : Int) ≤ 1152921504606846976:=by omega
     have hcx:=hk _ _ _ _ (k5) S hA6 hB6
     obtain ⟨q6,k6,hc6,b6,b6',S1⟩:=hcx
     refine ⟨_,hc6,?_⟩
     clear S hc6 hA6 hB6
     have S:=S1
     clear S1
     conv=>whnf
     refine ⟨_,S.row 3 rfl,⟨by omega,by omega⟩,?_⟩
     conv=>whnf
     refine ⟨_,rfl,rfl,rfl,.inr ⟨_,_,_,S.row 3 rfl,rowGet hidx,?_⟩⟩
     conv=>whnf
     intro c17 hh_c17
     replace S:=S.setRow 3 rfl hidx hh_c17
     dsimp only [List.set] at S
     conv=>whnf
     refine ⟨_,S.row 3 rfl,⟨by omega,by omega⟩,?_⟩
     conv=>whnf
     refine .inr ⟨_,_,_,S.row 3 rfl,rowGet hidx,?_⟩
     conv=>whnf
     have hA7 : 0 ≤ k6 + ((1 : Nat) : Int):=by omega
     have hB7 : k6 + ((1 : Nat) : Int) + 64 * ((Items.d base).tot : Int) ≤ 1152921504606846976:=by omega
     have hcx:=markItems_t hp base _ _ _ _ (k6 + ((1 : Nat) : Int)) S hA7 hB7
     obtain ⟨q7,k7,hc7,b7,b7',S1⟩:=hcx
     have hw7:=(incs_eq 1 k6 (by omega) (by omega)).symm
     rw [hw7] at hc7
     clear hw7
     refine ⟨_,hc7,?_⟩
     clear S hc7 hA7 hB7
     have S:=S1
     clear S1
     conv=>whnf
     refine ⟨_,S.row 2 rfl,⟨by omega,by omega⟩,?_⟩
     conv=>whnf
     refine .inr ⟨_,_,_,S.row 2 rfl,rowGet hidx,?_⟩
     conv=>whnf
     have hA8 : 0 ≤ k7:=by omega
     have hB8 : k7 + 64 * ((Dat.s 2 (pasts.map Past.d)).tot : Int) ≤ 1152921504606846976:=by omega
     have hcx:=hpast _ _ _ _ (k7) S hA8 hB8
     obtain ⟨q8,k8,hc8,b8,b8',S1⟩:=hcx
     refine ⟨_,hc8,?_⟩
     clear S hc8 hA8 hB8
     have S:=S1
     clear S1
     conv=>whnf
     have S9:=rowApp S.swap
     exact ⟨m - 1,by omega,j + 1,rest,_,_,_,k8,fun y hy=>hsub y (by simp [hy]),by omega,by omega,by simp [hA],nat_step j (by omega),rfl,by omega,by omega,S9⟩
  ·have hjl : ¬ j < xs.length:=by simpa using g1
   have hr : rest = []:=List.length_eq_zero_iff.1 (by omega)
   subst hr
   conv=>whnf
   exact ⟨_,rfl,hq,kk,rfl,hle,by simp only [List.map_nil,Dat.tots,List.length_nil] at hkb; omega,(S.drop 0).drop 0⟩
end Go.Proofs.YtncgofhhnhebjaaGreat

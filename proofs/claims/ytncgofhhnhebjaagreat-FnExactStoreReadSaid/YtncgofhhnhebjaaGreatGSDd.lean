/- The law's copies of flows, views, stores. (Printed by gencp.py.) -/
import Derived.Test.YtncgofhhnhebjaaGreatGH19
set_option linter.unusedVariables false
set_option linter.unusedSimpArgs false
/- The law's copies of flows, views, stores. (Printed by gencp.py.) -/
set_option maxHeartbeats 4000000
namespace Go.Proofs.YtncgofhhnhebjaaGreat
open Go Go.Am
variable {pr : Prims} (hp : Okp pr)
set_option maxRecDepth 100000
theorem allp {kind n : Int} {test : Test} {C : AVal} {a b : Int} {K : AVal} {agg col : Int} {D : AVal} {r : List AVal} (h1 : C.isCell = true) (h2 : K.isCell = true) (h3 : D.isCell = true) (h4 : r.all AVal.isCell = true) : (pcells kind n test C a b K agg col D r).all AVal.isCell = true:=by
 simp only [pcells,List.all_cons,h1,h2,h3,h4,Bool.and_true]
 rfl
theorem Own_g {h : Heap} {ds : List Dat} {v : AVal} {F : List Nat} : Own h (.g ds) v F ↔ ∃ vs,v = .agg vs ∧ OwnC h ds vs F:=by simp only [Own]
theorem OwnC_g1 {h : Heap} {sz : Nat} {xs : List Dat} {A : AVal} {ds : List Dat} {vs : List AVal} {F1 F2 : List Nat} (h1 : Own h (.g [.s sz xs]) (.agg [A]) F1) (h2 : OwnC h ds vs F2) : OwnC h (.g [.s sz xs] :: ds) (A :: vs) (F1 ++ F2):=OwnC_cons h1 h2
theorem OwnC_pl {h : Heap} {kind n : Int} {test : Test} {cells : List Cell} {a b : Int} {keys : List Int} {agg col : Int} {kids : List Plan} {C K D : AVal} {ds : List Dat} {vs : List AVal} {F1 F2 : List Nat}
  (h1 : Own h (.p (.mk kind n test cells a b keys agg col kids)) (pval kind n test C a b K agg col D) F1) (h2 : OwnC h ds vs F2) : OwnC h (.p (.mk kind n test cells a b keys agg col kids) :: ds) (pcells kind n test C a b K agg col D vs) (F1 ++ F2):=OwnC_cons h1 h2
theorem OwnC_fl {h : Heap} {es : List Dat} {kind n : Int} {test : Test} {C : AVal} {a b : Int} {K : AVal} {agg col : Int} {D L R KS : AVal} {ds : List Dat} {vs : List AVal} {F1 F2 : List Nat}
  (h1 : Own h (.g es) (.agg (pcells kind n test C a b K agg col D [L,R,KS])) F1) (h2 : OwnC h ds vs F2) : OwnC h (.g es :: ds) (pcells kind n test C a b K agg col D (L :: R :: KS :: vs)) (F1 ++ F2):=OwnC_cons h1 h2
theorem Flow.encs_map (xs : List Flow) : Flow.encs xs = xs.map Flow.enc:=by induction xs with | nil=>rfl | cons x xs ih=>simp [Flow.encs,ih]
theorem Flow.ds_map (xs : List Flow) : Flow.ds xs = xs.map Flow.d:=by induction xs with | nil=>rfl | cons x xs ih=>simp [Flow.ds,ih]
theorem small_of {p : Plan} (h : p.sz ≤ 1048576) : p.small:=h
theorem toSpine_n (hp : Okp pr) (xs : List (List Item)) (h : (Runs.d xs).tot ≤ 1048576) : RetD pr 173 [.agg [Runs.enc xs]] (.g [Runs.d xs]):=by
 have h1:=toItemSS_n hp xs h
 refine retD_of hp rfl ?_
 have S : Sepa [] []:=Sepa.nil []
 iterate 3
  all_goals (try (conv=>whnf))
  all_goals (first | (intro ka_ ha_ hk_ hh_; replace S:=S.alloc hk_ hh_) | (refine .inl ⟨_,S.row 0 rfl,rfl,?_⟩) | (refine .inl ⟨_,S.row 1 rfl,rfl,?_⟩) | (refine .inl ⟨_,S.row 2 rfl,rfl,?_⟩) | (refine .inl ⟨_,S.row 3 rfl,rfl,?_⟩) | (refine .inl ⟨_,S.row 4 rfl,rfl,?_⟩) | (refine .inl ⟨_,S.row 5 rfl,rfl,?_⟩) | (refine .inl ⟨_,S.row 6 rfl,rfl,?_⟩) | (refine .inl ⟨_,S.row 7 rfl,rfl,?_⟩) | (refine .inl ⟨_,S.row 8 rfl,rfl,?_⟩) | (refine ⟨_,rfl,rfl,rfl,.inl ⟨_,S.row 0 rfl,rfl,?_⟩⟩; (conv=>whnf); intro ha_ hh_; replace S:=S.set 0 rfl hh_; dsimp only [List.set] at S) | (refine ⟨_,rfl,rfl,rfl,.inl ⟨_,S.row 1 rfl,rfl,?_⟩⟩; (conv=>whnf); intro ha_ hh_; replace S:=S.set 1 rfl hh_; dsimp only [List.set] at S) | (refine ⟨_,rfl,rfl,rfl,.inl ⟨_,S.row 2 rfl,rfl,?_⟩⟩; (conv=>whnf); intro ha_ hh_; replace S:=S.set 2 rfl hh_; dsimp only [List.set] at S) | (refine ⟨_,rfl,rfl,rfl,.inl ⟨_,S.row 3 rfl,rfl,?_⟩⟩; (conv=>whnf); intro ha_ hh_; replace S:=S.set 3 rfl hh_; dsimp only [List.set] at S) | (refine ⟨_,rfl,rfl,rfl,.inl ⟨_,S.row 4 rfl,rfl,?_⟩⟩; (conv=>whnf); intro ha_ hh_; replace S:=S.set 4 rfl hh_; dsimp only [List.set] at S) | (refine ⟨_,rfl,rfl,rfl,.inl ⟨_,S.row 5 rfl,rfl,?_⟩⟩; (conv=>whnf); intro ha_ hh_; replace S:=S.set 5 rfl hh_; dsimp only [List.set] at S) | (refine ⟨_,rfl,rfl,rfl,.inl ⟨_,S.row 6 rfl,rfl,?_⟩⟩; (conv=>whnf); intro ha_ hh_; replace S:=S.set 6 rfl hh_; dsimp only [List.set] at S) | (refine ⟨_,rfl,rfl,rfl,.inl ⟨_,S.row 7 rfl,rfl,?_⟩⟩; (conv=>whnf); intro ha_ hh_; replace S:=S.set 7 rfl hh_; dsimp only [List.set] at S) | (refine ⟨_,rfl,rfl,rfl,.inl ⟨_,S.row 8 rfl,rfl,?_⟩⟩; (conv=>whnf); intro ha_ hh_; replace S:=S.set 8 rfl hh_; dsimp only [List.set] at S) | (refine bsel_intro (fun hb=>?_) (fun hb=>?_)) | skip)
 iterate 1
  all_goals (try (conv=>whnf))
  all_goals (first | (intro ka_ ha_ hk_ hh_; replace S:=S.alloc hk_ hh_) | (refine .inl ⟨_,S.row 0 rfl,rfl,?_⟩) | (refine .inl ⟨_,S.row 1 rfl,rfl,?_⟩) | (refine .inl ⟨_,S.row 2 rfl,rfl,?_⟩) | (refine .inl ⟨_,S.row 3 rfl,rfl,?_⟩) | (refine .inl ⟨_,S.row 4 rfl,rfl,?_⟩) | (refine .inl ⟨_,S.row 5 rfl,rfl,?_⟩) | (refine .inl ⟨_,S.row 6 rfl,rfl,?_⟩) | (refine .inl ⟨_,S.row 7 rfl,rfl,?_⟩) | (refine .inl ⟨_,S.row 8 rfl,rfl,?_⟩) | (refine ⟨_,rfl,rfl,rfl,.inl ⟨_,S.row 0 rfl,rfl,?_⟩⟩; (conv=>whnf); intro ha_ hh_; replace S:=S.set 0 rfl hh_; dsimp only [List.set] at S) | (refine ⟨_,rfl,rfl,rfl,.inl ⟨_,S.row 1 rfl,rfl,?_⟩⟩; (conv=>whnf); intro ha_ hh_; replace S:=S.set 1 rfl hh_; dsimp only [List.set] at S) | (refine ⟨_,rfl,rfl,rfl,.inl ⟨_,S.row 2 rfl,rfl,?_⟩⟩; (conv=>whnf); intro ha_ hh_; replace S:=S.set 2 rfl hh_; dsimp only [List.set] at S) | (refine ⟨_,rfl,rfl,rfl,.inl ⟨_,S.row 3 rfl,rfl,?_⟩⟩; (conv=>whnf); intro ha_ hh_; replace S:=S.set 3 rfl hh_; dsimp only [List.set] at S) | (refine ⟨_,rfl,rfl,rfl,.inl ⟨_,S.row 4 rfl,rfl,?_⟩⟩; (conv=>whnf); intro ha_ hh_; replace S:=S.set 4 rfl hh_; dsimp only [List.set] at S) | (refine ⟨_,rfl,rfl,rfl,.inl ⟨_,S.row 5 rfl,rfl,?_⟩⟩; (conv=>whnf); intro ha_ hh_; replace S:=S.set 5 rfl hh_; dsimp only [List.set] at S) | (refine ⟨_,rfl,rfl,rfl,.inl ⟨_,S.row 6 rfl,rfl,?_⟩⟩; (conv=>whnf); intro ha_ hh_; replace S:=S.set 6 rfl hh_; dsimp only [List.set] at S) | (refine ⟨_,rfl,rfl,rfl,.inl ⟨_,S.row 7 rfl,rfl,?_⟩⟩; (conv=>whnf); intro ha_ hh_; replace S:=S.set 7 rfl hh_; dsimp only [List.set] at S) | (refine ⟨_,rfl,rfl,rfl,.inl ⟨_,S.row 8 rfl,rfl,?_⟩⟩; (conv=>whnf); intro ha_ hh_; replace S:=S.set 8 rfl hh_; dsimp only [List.set] at S) | (refine bsel_intro (fun hb=>?_) (fun hb=>?_)) | skip)
 conv=>whnf
 refine callD S h1 rfl rfl fun A q1 F1 o1 S1=>?_
 replace S:=S1
 clear S1
 conv=>whnf
 refine ⟨[A],o1.cell.1,rfl,(all1 o1.cell.2),.inl ⟨_,S.row 1 rfl,rfl,?_⟩⟩
 conv=>whnf
 intro a1 hh_a1
 replace S:=S.set 1 rfl hh_a1
 dsimp only [List.set] at S
 conv=>whnf
 iterate 1
  all_goals (try (conv=>whnf))
  all_goals (first | (intro ka_ ha_ hk_ hh_; replace S:=S.alloc hk_ hh_) | (refine .inl ⟨_,S.row 0 rfl,rfl,?_⟩) | (refine .inl ⟨_,S.row 1 rfl,rfl,?_⟩) | (refine .inl ⟨_,S.row 2 rfl,rfl,?_⟩) | (refine .inl ⟨_,S.row 3 rfl,rfl,?_⟩) | (refine .inl ⟨_,S.row 4 rfl,rfl,?_⟩) | (refine .inl ⟨_,S.row 5 rfl,rfl,?_⟩) | (refine .inl ⟨_,S.row 6 rfl,rfl,?_⟩) | (refine .inl ⟨_,S.row 7 rfl,rfl,?_⟩) | (refine .inl ⟨_,S.row 8 rfl,rfl,?_⟩) | (refine ⟨_,rfl,rfl,rfl,.inl ⟨_,S.row 0 rfl,rfl,?_⟩⟩; (conv=>whnf); intro ha_ hh_; replace S:=S.set 0 rfl hh_; dsimp only [List.set] at S) | (refine ⟨_,rfl,rfl,rfl,.inl ⟨_,S.row 1 rfl,rfl,?_⟩⟩; (conv=>whnf); intro ha_ hh_; replace S:=S.set 1 rfl hh_; dsimp only [List.set] at S) | (refine ⟨_,rfl,rfl,rfl,.inl ⟨_,S.row 2 rfl,rfl,?_⟩⟩; (conv=>whnf); intro ha_ hh_; replace S:=S.set 2 rfl hh_; dsimp only [List.set] at S) | (refine ⟨_,rfl,rfl,rfl,.inl ⟨_,S.row 3 rfl,rfl,?_⟩⟩; (conv=>whnf); intro ha_ hh_; replace S:=S.set 3 rfl hh_; dsimp only [List.set] at S) | (refine ⟨_,rfl,rfl,rfl,.inl ⟨_,S.row 4 rfl,rfl,?_⟩⟩; (conv=>whnf); intro ha_ hh_; replace S:=S.set 4 rfl hh_; dsimp only [List.set] at S) | (refine ⟨_,rfl,rfl,rfl,.inl ⟨_,S.row 5 rfl,rfl,?_⟩⟩; (conv=>whnf); intro ha_ hh_; replace S:=S.set 5 rfl hh_; dsimp only [List.set] at S) | (refine ⟨_,rfl,rfl,rfl,.inl ⟨_,S.row 6 rfl,rfl,?_⟩⟩; (conv=>whnf); intro ha_ hh_; replace S:=S.set 6 rfl hh_; dsimp only [List.set] at S) | (refine ⟨_,rfl,rfl,rfl,.inl ⟨_,S.row 7 rfl,rfl,?_⟩⟩; (conv=>whnf); intro ha_ hh_; replace S:=S.set 7 rfl hh_; dsimp only [List.set] at S) | (refine ⟨_,rfl,rfl,rfl,.inl ⟨_,S.row 8 rfl,rfl,?_⟩⟩; (conv=>whnf); intro ha_ hh_; replace S:=S.set 8 rfl hh_; dsimp only [List.set] at S) | (refine bsel_intro (fun hb=>?_) (fun hb=>?_)) | skip)
 conv=>whnf
 refine ⟨[A],(by kernel_rfl),rfl,(allc o1.cell.2 rfl),.inl ⟨_,S.row 2 rfl,rfl,?_⟩⟩
 conv=>whnf
 intro aa hh_aa
 replace S:=S.set 2 rfl hh_aa
 dsimp only [List.set] at S
 conv=>whnf
 replace S:=S.pick [2,0] (by decide)
 simp only [pickL,List.getElem?_cons_zero,List.getElem?_cons_succ] at S
 refine fin_dat (vs:=[A]) rfl rfl (S.row 0 rfl) (by kernel_rfl) (OwnC_one (S.get 1 rfl) OwnC_no) (S.drop 0).nodupAll
def zFlow : AVal:=.agg [i64 0,i64 0,i64 0,.bool false,i64 0,i64 0,i64 0,i64 0,i64 0,i64 0,i64 0,i64 0,.nil,i64 0,i64 0,.nil,i64 0,i64 0,.nil,.nil,.nil,.nil]
theorem toFlowS_n1 (hp : Okp pr) (xs : List Flow) (hl : xs.length ≤ 1048576) (ih : ∀ x ∈ xs,RetD pr 138 [Flow.enc x] (Flow.d x)) : RetD pr 174 [.sl (xs.map Flow.enc)] (.s 22 (xs.map Flow.d)):=by
 have hlen : (((xs.map Flow.enc).length : Nat) : Int).toNat = xs.length:=by simp
 refine retD_of hp rfl ?_
 have S : Sepa [] []:=Sepa.nil []
 conv=>whnf
 refine ⟨?_,?_⟩
 ·simp [sizeLim]; omega
 conv=>whnf
 intro k1 a1 hk1 hh1
 replace S:=S.alloc hk1 hh1
 rw [hlen] at S
 conv=>whnf
 refine loopG (fun m tm hp=>∃ (j : Nat) (vs : List AVal) (F : List Nat),j + m = xs.length ∧ tm 4 = i64 (j : Nat) ∧ Sepa hp [.dats ((xs.take j).map Flow.d) vs F,.row k1 (.arr 22 (vs ++ List.replicate (xs.length - j) zFlow))]) (fun m tm hq hfr hI=>?_) xs.length ⟨0,[],[],by simp,rfl,?_⟩
 rotate_left
 ·exact S.more (c:=.dats [] [] []) (List.prefix_refl _) (by show Owns _ _ _ _; simp [Owns]) (by simp [Chunk.dats]) (by simp [Chunk.dats])
 obtain ⟨j,vs,F,hj,e4,S2⟩:=hI
 clear S
 have S:=S2
 clear S2
 have k0:=hfr 0 (by kernel_rfl)
 conv at k0=>rhs; whnf
 rw [← upd_id k0]
 have k3:=hfr 3 (by kernel_rfl)
 conv at k3=>rhs; whnf
 rw [← upd_id k3,← upd_id e4]
 clear hfr k0 k3 e4
 have hvl : vs.length = j:=by
  have : Owns hq ((xs.take j).map Flow.d) vs F:=S.get 0 rfl
  rw [Owns_len this]; simp; omega
 conv=>whnf
 refine bsel_intro (fun h1=>?_) (fun h1=>?_)
 ·have hjl : j < xs.length:=by simpa using h1
  have hge : (xs.map Flow.enc)[((j : Nat) : Int).toNat]? = some (Flow.enc xs[j]):=by rw [Int.toNat_natCast]; simp [hjl]
  have hih:=ih xs[j] (List.getElem_mem hjl)
  have htk:=congrArg (List.map Flow.d) (take_snoc hjl)
  rw [List.map_append] at htk
  generalize xs[j] = q at hge hih htk
  obtain ⟨⟨kind,n,test,cells,a,b,keys,agg,col,kids⟩,l,r,ks⟩:=q
  conv=>whnf
  refine ⟨_,hge,by omega,rfl,?_⟩
  conv=>whnf
  refine callD S hih rfl rfl fun v q1 F2 ho S1=>?_
  replace S:=S1
  clear S1
  have ho0:=ho
  obtain ⟨vv,rfl,hu⟩:=Own_g.1 ho
  obtain ⟨C,K,D,Fc,Fk,Fd,w1,G1,rfl,g1,g2,g3,rfl,ho1⟩:=OwnC_p.1 hu
  obtain ⟨u2,w2,H2,G2,rfl,rfl,ho2,ho3⟩:=OwnC_g.1 ho1
  obtain ⟨L,u3,H3,G3,rfl,rfl,gL,ho4⟩:=OwnC_s.1 ho2
  obtain ⟨rfl,rfl⟩:=OwnC_nil.1 ho4
  obtain ⟨u4,w4,H4,G4,rfl,rfl,ho5,ho6⟩:=OwnC_g.1 ho3
  obtain ⟨R,u5,H5,G5,rfl,rfl,gR,ho7⟩:=OwnC_s.1 ho5
  obtain ⟨rfl,rfl⟩:=OwnC_nil.1 ho7
  obtain ⟨KS,u6,H6,G6,rfl,rfl,gK,ho8⟩:=OwnC_s.1 ho6
  obtain ⟨rfl,rfl⟩:=OwnC_nil.1 ho8
  conv=>whnf
  refine ⟨_,S.row 2 rfl,⟨by omega,by rw [hlen]; omega⟩,?_⟩
  conv=>whnf
  refine ⟨_,rfl,rfl,allp g1.cell.2 g2.cell.2 g3.cell.2 (allc gL.cell.2 (allc gR.cell.2 (allc gK.cell.2 rfl))),.inr ⟨_,_,zFlow,S.row 2 rfl,?_,?_⟩⟩
  ·rw [Int.toNat_natCast,Nat.zero_add]; exact plans_at hvl hjl
  conv=>whnf
  intro h5 hh5
  replace S:=S.set 2 rfl hh5
  dsimp only [List.set] at S
  conv=>whnf
  have hfill:=plans_fill (v:=.agg (pcells kind n test C a b K agg col D [L,R,KS])) (z:=zFlow) hvl hjl
  rw [Int.toNat_natCast,Nat.zero_add] at S
  have hS:=S.merge (e:=.dats (_ ++ _) (_ ++ _) (_ ++ _)) (Owns_append (S.get 1 rfl) (Owns_one (S.get 0 rfl))) (fun id hid=>(List.mem_append.1 hid).symm) S.nodup2
  exact ⟨m - 1,by omega,j + 1,vs ++ [.agg (pcells kind n test C a b K agg col D [L,R,KS])],_,by omega,nat_step j (by omega),by rw [← hfill,htk]; exact hS⟩
 ·have hje : j = xs.length:=by
   have : ¬ j < xs.length:=by simpa using h1
   omega
  subst hje
  conv=>whnf
  have e:=S.row 1 rfl
  rw [Nat.sub_self,List.replicate_zero,List.append_nil] at e
  have hps : Owns hq ((xs.take xs.length).map Flow.d) vs F:=S.get 0 rfl
  rw [List.take_length] at hps
  refine ⟨_,rfl,_,_,k1 :: F,rfl,?_,List.nodup_cons.2 ⟨fun hm=>S.apart 0 1 _ _ (by omega) rfl rfl k1 hm (by simp [Chunk.row]),(S.get' 0 _ rfl).2⟩⟩
  simp only [Own]
  refine .inr ⟨k1,vs,F,?_,e,hps,rfl⟩
  refine Eq.trans (b:=AVal.own k1 0 (((xs.map Flow.enc).length : Nat) : Int).toNat) (by kernel_rfl) (by rw [hlen,List.length_map])
theorem toFlow_n' (hp : Okp pr) : ∀ (N : Nat) (f : Flow),SizeOf.sizeOf f ≤ N → f.d.tot ≤ 1048576 → RetD pr 138 [f.enc] f.d:=by
 intro N
 induction N with
 | zero=>intro f h; exfalso; cases f; simp at h
 | succ N ih=>
  intro f hs h
  obtain ⟨p,l,r,ks⟩:=f
  simp only [Flow.d,Dat.tot,Dat.tots,Flow.ds_map,List.length_map] at h
  have hp1:=RetN.toD (toPlan_n hp p (small_of (by omega)))
  have hl:=toSpine_n hp l (by omega)
  have hr:=toSpine_n hp r (by omega)
  have hk:=toFlowS_n1 hp ks (by omega) fun x hx=>ih x (by have:=List.sizeOf_lt_of_mem hx; simp at hs; omega) (by have:=tots_map (f:=Flow.d) hx; omega)
  rw [← Flow.encs_map,← Flow.ds_map] at hk
  obtain ⟨kind,n,test,cells,a,b,keys,agg,col,kids⟩:=p
  clear ih hs h
  refine retD_of hp rfl ?_
  have S : Sepa [] []:=Sepa.nil []
  iterate 3
   all_goals (try (conv=>whnf))
   all_goals (first | (intro ka_ ha_ hk_ hh_; replace S:=S.alloc hk_ hh_) | (refine .inl ⟨_,S.row 0 rfl,rfl,?_⟩) | (refine .inl ⟨_,S.row 1 rfl,rfl,?_⟩) | (refine .inl ⟨_,S.row 2 rfl,rfl,?_⟩) | (refine .inl ⟨_,S.row 3 rfl,rfl,?_⟩) | (refine .inl ⟨_,S.row 4 rfl,rfl,?_⟩) | (refine .inl ⟨_,S.row 5 rfl,rfl,?_⟩) | (refine .inl ⟨_,S.row 6 rfl,rfl,?_⟩) | (refine .inl ⟨_,S.row 7 rfl,rfl,?_⟩) | (refine .inl ⟨_,S.row 8 rfl,rfl,?_⟩) | (refine ⟨_,rfl,rfl,rfl,.inl ⟨_,S.row 0 rfl,rfl,?_⟩⟩; (conv=>whnf); intro ha_ hh_; replace S:=S.set 0 rfl hh_; dsimp only [List.set] at S) | (refine ⟨_,rfl,rfl,rfl,.inl ⟨_,S.row 1 rfl,rfl,?_⟩⟩; (conv=>whnf); intro ha_ hh_; replace S:=S.set 1 rfl hh_; dsimp only [List.set] at S) | (refine ⟨_,rfl,rfl,rfl,.inl ⟨_,S.row 2 rfl,rfl,?_⟩⟩; (conv=>whnf); intro ha_ hh_; replace S:=S.set 2 rfl hh_; dsimp only [List.set] at S) | (refine ⟨_,rfl,rfl,rfl,.inl ⟨_,S.row 3 rfl,rfl,?_⟩⟩; (conv=>whnf); intro ha_ hh_; replace S:=S.set 3 rfl hh_; dsimp only [List.set] at S) | (refine ⟨_,rfl,rfl,rfl,.inl ⟨_,S.row 4 rfl,rfl,?_⟩⟩; (conv=>whnf); intro ha_ hh_; replace S:=S.set 4 rfl hh_; dsimp only [List.set] at S) | (refine ⟨_,rfl,rfl,rfl,.inl ⟨_,S.row 5 rfl,rfl,?_⟩⟩; (conv=>whnf); intro ha_ hh_; replace S:=S.set 5 rfl hh_; dsimp only [List.set] at S) | (refine ⟨_,rfl,rfl,rfl,.inl ⟨_,S.row 6 rfl,rfl,?_⟩⟩; (conv=>whnf); intro ha_ hh_; replace S:=S.set 6 rfl hh_; dsimp only [List.set] at S) | (refine ⟨_,rfl,rfl,rfl,.inl ⟨_,S.row 7 rfl,rfl,?_⟩⟩; (conv=>whnf); intro ha_ hh_; replace S:=S.set 7 rfl hh_; dsimp only [List.set] at S) | (refine ⟨_,rfl,rfl,rfl,.inl ⟨_,S.row 8 rfl,rfl,?_⟩⟩; (conv=>whnf); intro ha_ hh_; replace S:=S.set 8 rfl hh_; dsimp only [List.set] at S) | (refine bsel_intro (fun hb=>?_) (fun hb=>?_)) | skip)
  iterate 1
   all_goals (try (conv=>whnf))
   all_goals (first | (intro ka_ ha_ hk_ hh_; replace S:=S.alloc hk_ hh_) | (refine .inl ⟨_,S.row 0 rfl,rfl,?_⟩) | (refine .inl ⟨_,S.row 1 rfl,rfl,?_⟩) | (refine .inl ⟨_,S.row 2 rfl,rfl,?_⟩) | (refine .inl ⟨_,S.row 3 rfl,rfl,?_⟩) | (refine .inl ⟨_,S.row 4 rfl,rfl,?_⟩) | (refine .inl ⟨_,S.row 5 rfl,rfl,?_⟩) | (refine .inl ⟨_,S.row 6 rfl,rfl,?_⟩) | (refine .inl ⟨_,S.row 7 rfl,rfl,?_⟩) | (refine .inl ⟨_,S.row 8 rfl,rfl,?_⟩) | (refine ⟨_,rfl,rfl,rfl,.inl ⟨_,S.row 0 rfl,rfl,?_⟩⟩; (conv=>whnf); intro ha_ hh_; replace S:=S.set 0 rfl hh_; dsimp only [List.set] at S) | (refine ⟨_,rfl,rfl,rfl,.inl ⟨_,S.row 1 rfl,rfl,?_⟩⟩; (conv=>whnf); intro ha_ hh_; replace S:=S.set 1 rfl hh_; dsimp only [List.set] at S) | (refine ⟨_,rfl,rfl,rfl,.inl ⟨_,S.row 2 rfl,rfl,?_⟩⟩; (conv=>whnf); intro ha_ hh_; replace S:=S.set 2 rfl hh_; dsimp only [List.set] at S) | (refine ⟨_,rfl,rfl,rfl,.inl ⟨_,S.row 3 rfl,rfl,?_⟩⟩; (conv=>whnf); intro ha_ hh_; replace S:=S.set 3 rfl hh_; dsimp only [List.set] at S) | (refine ⟨_,rfl,rfl,rfl,.inl ⟨_,S.row 4 rfl,rfl,?_⟩⟩; (conv=>whnf); intro ha_ hh_; replace S:=S.set 4 rfl hh_; dsimp only [List.set] at S) | (refine ⟨_,rfl,rfl,rfl,.inl ⟨_,S.row 5 rfl,rfl,?_⟩⟩; (conv=>whnf); intro ha_ hh_; replace S:=S.set 5 rfl hh_; dsimp only [List.set] at S) | (refine ⟨_,rfl,rfl,rfl,.inl ⟨_,S.row 6 rfl,rfl,?_⟩⟩; (conv=>whnf); intro ha_ hh_; replace S:=S.set 6 rfl hh_; dsimp only [List.set] at S) | (refine ⟨_,rfl,rfl,rfl,.inl ⟨_,S.row 7 rfl,rfl,?_⟩⟩; (conv=>whnf); intro ha_ hh_; replace S:=S.set 7 rfl hh_; dsimp only [List.set] at S) | (refine ⟨_,rfl,rfl,rfl,.inl ⟨_,S.row 8 rfl,rfl,?_⟩⟩; (conv=>whnf); intro ha_ hh_; replace S:=S.set 8 rfl hh_; dsimp only [List.set] at S) | (refine bsel_intro (fun hb=>?_) (fun hb=>?_)) | skip)
  conv=>whnf
  refine callD S hp1 rfl rfl fun V q1 F1 o1 S1=>?_
  replace S:=S1
  clear S1
  have o1':=o1
  simp only [Own] at o1'
  rw [OwnP_mk] at o1'
  obtain ⟨C,K,D,Fc,Fk,Fd,rfl,g1,g2,g3,rfl⟩:=o1'
  conv=>whnf
  refine ⟨_,rfl,rfl,(pval_all g1.cell.2 g2.cell.2 g3.cell.2),.inl ⟨_,S.row 1 rfl,rfl,?_⟩⟩
  conv=>whnf
  intro a1 hh_a1
  replace S:=S.set 1 rfl hh_a1
  dsimp only [List.set] at S
  conv=>whnf
  iterate 1
   all_goals (try (conv=>whnf))
   all_goals (first | (intro ka_ ha_ hk_ hh_; replace S:=S.alloc hk_ hh_) | (refine .inl ⟨_,S.row 0 rfl,rfl,?_⟩) | (refine .inl ⟨_,S.row 1 rfl,rfl,?_⟩) | (refine .inl ⟨_,S.row 2 rfl,rfl,?_⟩) | (refine .inl ⟨_,S.row 3 rfl,rfl,?_⟩) | (refine .inl ⟨_,S.row 4 rfl,rfl,?_⟩) | (refine .inl ⟨_,S.row 5 rfl,rfl,?_⟩) | (refine .inl ⟨_,S.row 6 rfl,rfl,?_⟩) | (refine .inl ⟨_,S.row 7 rfl,rfl,?_⟩) | (refine .inl ⟨_,S.row 8 rfl,rfl,?_⟩) | (refine ⟨_,rfl,rfl,rfl,.inl ⟨_,S.row 0 rfl,rfl,?_⟩⟩; (conv=>whnf); intro ha_ hh_; replace S:=S.set 0 rfl hh_; dsimp only [List.set] at S) | (refine ⟨_,rfl,rfl,rfl,.inl ⟨_,S.row 1 rfl,rfl,?_⟩⟩; (conv=>whnf); intro ha_ hh_; replace S:=S.set 1 rfl hh_; dsimp only [List.set] at S) | (refine ⟨_,rfl,rfl,rfl,.inl ⟨_,S.row 2 rfl,rfl,?_⟩⟩; (conv=>whnf); intro ha_ hh_; replace S:=S.set 2 rfl hh_; dsimp only [List.set] at S) | (refine ⟨_,rfl,rfl,rfl,.inl ⟨_,S.row 3 rfl,rfl,?_⟩⟩; (conv=>whnf); intro ha_ hh_; replace S:=S.set 3 rfl hh_; dsimp only [List.set] at S) | (refine ⟨_,rfl,rfl,rfl,.inl ⟨_,S.row 4 rfl,rfl,?_⟩⟩; (conv=>whnf); intro ha_ hh_; replace S:=S.set 4 rfl hh_; dsimp only [List.set] at S) | (refine ⟨_,rfl,rfl,rfl,.inl ⟨_,S.row 5 rfl,rfl,?_⟩⟩; (conv=>whnf); intro ha_ hh_; replace S:=S.set 5 rfl hh_; dsimp only [List.set] at S) | (refine ⟨_,rfl,rfl,rfl,.inl ⟨_,S.row 6 rfl,rfl,?_⟩⟩; (conv=>whnf); intro ha_ hh_; replace S:=S.set 6 rfl hh_; dsimp only [List.set] at S) | (refine ⟨_,rfl,rfl,rfl,.inl ⟨_,S.row 7 rfl,rfl,?_⟩⟩; (conv=>whnf); intro ha_ hh_; replace S:=S.set 7 rfl hh_; dsimp only [List.set] at S) | (refine ⟨_,rfl,rfl,rfl,.inl ⟨_,S.row 8 rfl,rfl,?_⟩⟩; (conv=>whnf); intro ha_ hh_; replace S:=S.set 8 rfl hh_; dsimp only [List.set] at S) | (refine bsel_intro (fun hb=>?_) (fun hb=>?_)) | skip)
  conv=>whnf
  refine callD S hl rfl rfl fun VL q2 F2 o2 S1=>?_
  replace S:=S1
  clear S1
  obtain ⟨vv2,rfl,y2⟩:=Own_g.1 o2
  obtain ⟨L,u2,H2,G2,rfl,rfl,gL,x2⟩:=OwnC_s.1 y2
  obtain ⟨rfl,rfl⟩:=OwnC_nil.1 x2
  conv=>whnf
  refine ⟨_,rfl,rfl,(allc gL.cell.2 rfl),.inl ⟨_,S.row 2 rfl,rfl,?_⟩⟩
  conv=>whnf
  intro a2 hh_a2
  replace S:=S.set 2 rfl hh_a2
  dsimp only [List.set] at S
  conv=>whnf
  iterate 1
   all_goals (try (conv=>whnf))
   all_goals (first | (intro ka_ ha_ hk_ hh_; replace S:=S.alloc hk_ hh_) | (refine .inl ⟨_,S.row 0 rfl,rfl,?_⟩) | (refine .inl ⟨_,S.row 1 rfl,rfl,?_⟩) | (refine .inl ⟨_,S.row 2 rfl,rfl,?_⟩) | (refine .inl ⟨_,S.row 3 rfl,rfl,?_⟩) | (refine .inl ⟨_,S.row 4 rfl,rfl,?_⟩) | (refine .inl ⟨_,S.row 5 rfl,rfl,?_⟩) | (refine .inl ⟨_,S.row 6 rfl,rfl,?_⟩) | (refine .inl ⟨_,S.row 7 rfl,rfl,?_⟩) | (refine .inl ⟨_,S.row 8 rfl,rfl,?_⟩) | (refine ⟨_,rfl,rfl,rfl,.inl ⟨_,S.row 0 rfl,rfl,?_⟩⟩; (conv=>whnf); intro ha_ hh_; replace S:=S.set 0 rfl hh_; dsimp only [List.set] at S) | (refine ⟨_,rfl,rfl,rfl,.inl ⟨_,S.row 1 rfl,rfl,?_⟩⟩; (conv=>whnf); intro ha_ hh_; replace S:=S.set 1 rfl hh_; dsimp only [List.set] at S) | (refine ⟨_,rfl,rfl,rfl,.inl ⟨_,S.row 2 rfl,rfl,?_⟩⟩; (conv=>whnf); intro ha_ hh_; replace S:=S.set 2 rfl hh_; dsimp only [List.set] at S) | (refine ⟨_,rfl,rfl,rfl,.inl ⟨_,S.row 3 rfl,rfl,?_⟩⟩; (conv=>whnf); intro ha_ hh_; replace S:=S.set 3 rfl hh_; dsimp only [List.set] at S) | (refine ⟨_,rfl,rfl,rfl,.inl ⟨_,S.row 4 rfl,rfl,?_⟩⟩; (conv=>whnf); intro ha_ hh_; replace S:=S.set 4 rfl hh_; dsimp only [List.set] at S) | (refine ⟨_,rfl,rfl,rfl,.inl ⟨_,S.row 5 rfl,rfl,?_⟩⟩; (conv=>whnf); intro ha_ hh_; replace S:=S.set 5 rfl hh_; dsimp only [List.set] at S) | (refine ⟨_,rfl,rfl,rfl,.inl ⟨_,S.row 6 rfl,rfl,?_⟩⟩; (conv=>whnf); intro ha_ hh_; replace S:=S.set 6 rfl hh_; dsimp only [List.set] at S) | (refine ⟨_,rfl,rfl,rfl,.inl ⟨_,S.row 7 rfl,rfl,?_⟩⟩; (conv=>whnf); intro ha_ hh_; replace S:=S.set 7 rfl hh_; dsimp only [List.set] at S) | (refine ⟨_,rfl,rfl,rfl,.inl ⟨_,S.row 8 rfl,rfl,?_⟩⟩; (conv=>whnf); intro ha_ hh_; replace S:=S.set 8 rfl hh_; dsimp only [List.set] at S) | (refine bsel_intro (fun hb=>?_) (fun hb=>?_)) | skip)
  conv=>whnf
  refine callD S hr rfl rfl fun VR q3 F3 o3 S1=>?_
  replace S:=S1
  clear S1
  obtain ⟨vv3,rfl,y3⟩:=Own_g.1 o3
  obtain ⟨R,u3,H3,G3,rfl,rfl,gR,x3⟩:=OwnC_s.1 y3
  obtain ⟨rfl,rfl⟩:=OwnC_nil.1 x3
  conv=>whnf
  refine ⟨_,rfl,rfl,(allc gR.cell.2 rfl),.inl ⟨_,S.row 3 rfl,rfl,?_⟩⟩
  conv=>whnf
  intro a3 hh_a3
  replace S:=S.set 3 rfl hh_a3
  dsimp only [List.set] at S
  conv=>whnf
  iterate 1
   all_goals (try (conv=>whnf))
   all_goals (first | (intro ka_ ha_ hk_ hh_; replace S:=S.alloc hk_ hh_) | (refine .inl ⟨_,S.row 0 rfl,rfl,?_⟩) | (refine .inl ⟨_,S.row 1 rfl,rfl,?_⟩) | (refine .inl ⟨_,S.row 2 rfl,rfl,?_⟩) | (refine .inl ⟨_,S.row 3 rfl,rfl,?_⟩) | (refine .inl ⟨_,S.row 4 rfl,rfl,?_⟩) | (refine .inl ⟨_,S.row 5 rfl,rfl,?_⟩) | (refine .inl ⟨_,S.row 6 rfl,rfl,?_⟩) | (refine .inl ⟨_,S.row 7 rfl,rfl,?_⟩) | (refine .inl ⟨_,S.row 8 rfl,rfl,?_⟩) | (refine ⟨_,rfl,rfl,rfl,.inl ⟨_,S.row 0 rfl,rfl,?_⟩⟩; (conv=>whnf); intro ha_ hh_; replace S:=S.set 0 rfl hh_; dsimp only [List.set] at S) | (refine ⟨_,rfl,rfl,rfl,.inl ⟨_,S.row 1 rfl,rfl,?_⟩⟩; (conv=>whnf); intro ha_ hh_; replace S:=S.set 1 rfl hh_; dsimp only [List.set] at S) | (refine ⟨_,rfl,rfl,rfl,.inl ⟨_,S.row 2 rfl,rfl,?_⟩⟩; (conv=>whnf); intro ha_ hh_; replace S:=S.set 2 rfl hh_; dsimp only [List.set] at S) | (refine ⟨_,rfl,rfl,rfl,.inl ⟨_,S.row 3 rfl,rfl,?_⟩⟩; (conv=>whnf); intro ha_ hh_; replace S:=S.set 3 rfl hh_; dsimp only [List.set] at S) | (refine ⟨_,rfl,rfl,rfl,.inl ⟨_,S.row 4 rfl,rfl,?_⟩⟩; (conv=>whnf); intro ha_ hh_; replace S:=S.set 4 rfl hh_; dsimp only [List.set] at S) | (refine ⟨_,rfl,rfl,rfl,.inl ⟨_,S.row 5 rfl,rfl,?_⟩⟩; (conv=>whnf); intro ha_ hh_; replace S:=S.set 5 rfl hh_; dsimp only [List.set] at S) | (refine ⟨_,rfl,rfl,rfl,.inl ⟨_,S.row 6 rfl,rfl,?_⟩⟩; (conv=>whnf); intro ha_ hh_; replace S:=S.set 6 rfl hh_; dsimp only [List.set] at S) | (refine ⟨_,rfl,rfl,rfl,.inl ⟨_,S.row 7 rfl,rfl,?_⟩⟩; (conv=>whnf); intro ha_ hh_; replace S:=S.set 7 rfl hh_; dsimp only [List.set] at S) | (refine ⟨_,rfl,rfl,rfl,.inl ⟨_,S.row 8 rfl,rfl,?_⟩⟩; (conv=>whnf); intro ha_ hh_; replace S:=S.set 8 rfl hh_; dsimp only [List.set] at S) | (refine bsel_intro (fun hb=>?_) (fun hb=>?_)) | skip)
  conv=>whnf
  refine callD S hk rfl rfl fun KS q4 F4 o4 S1=>?_
  replace S:=S1
  clear S1
  conv=>whnf
  refine ⟨[KS],o4.cell.1,rfl,(all1 o4.cell.2),.inl ⟨_,S.row 4 rfl,rfl,?_⟩⟩
  conv=>whnf
  intro a4 hh_a4
  replace S:=S.set 4 rfl hh_a4
  dsimp only [List.set] at S
  conv=>whnf
  iterate 1
   all_goals (try (conv=>whnf))
   all_goals (first | (intro ka_ ha_ hk_ hh_; replace S:=S.alloc hk_ hh_) | (refine .inl ⟨_,S.row 0 rfl,rfl,?_⟩) | (refine .inl ⟨_,S.row 1 rfl,rfl,?_⟩) | (refine .inl ⟨_,S.row 2 rfl,rfl,?_⟩) | (refine .inl ⟨_,S.row 3 rfl,rfl,?_⟩) | (refine .inl ⟨_,S.row 4 rfl,rfl,?_⟩) | (refine .inl ⟨_,S.row 5 rfl,rfl,?_⟩) | (refine .inl ⟨_,S.row 6 rfl,rfl,?_⟩) | (refine .inl ⟨_,S.row 7 rfl,rfl,?_⟩) | (refine .inl ⟨_,S.row 8 rfl,rfl,?_⟩) | (refine ⟨_,rfl,rfl,rfl,.inl ⟨_,S.row 0 rfl,rfl,?_⟩⟩; (conv=>whnf); intro ha_ hh_; replace S:=S.set 0 rfl hh_; dsimp only [List.set] at S) | (refine ⟨_,rfl,rfl,rfl,.inl ⟨_,S.row 1 rfl,rfl,?_⟩⟩; (conv=>whnf); intro ha_ hh_; replace S:=S.set 1 rfl hh_; dsimp only [List.set] at S) | (refine ⟨_,rfl,rfl,rfl,.inl ⟨_,S.row 2 rfl,rfl,?_⟩⟩; (conv=>whnf); intro ha_ hh_; replace S:=S.set 2 rfl hh_; dsimp only [List.set] at S) | (refine ⟨_,rfl,rfl,rfl,.inl ⟨_,S.row 3 rfl,rfl,?_⟩⟩; (conv=>whnf); intro ha_ hh_; replace S:=S.set 3 rfl hh_; dsimp only [List.set] at S) | (refine ⟨_,rfl,rfl,rfl,.inl ⟨_,S.row 4 rfl,rfl,?_⟩⟩; (conv=>whnf); intro ha_ hh_; replace S:=S.set 4 rfl hh_; dsimp only [List.set] at S) | (refine ⟨_,rfl,rfl,rfl,.inl ⟨_,S.row 5 rfl,rfl,?_⟩⟩; (conv=>whnf); intro ha_ hh_; replace S:=S.set 5 rfl hh_; dsimp only [List.set] at S) | (refine ⟨_,rfl,rfl,rfl,.inl ⟨_,S.row 6 rfl,rfl,?_⟩⟩; (conv=>whnf); intro ha_ hh_; replace S:=S.set 6 rfl hh_; dsimp only [List.set] at S) | (refine ⟨_,rfl,rfl,rfl,.inl ⟨_,S.row 7 rfl,rfl,?_⟩⟩; (conv=>whnf); intro ha_ hh_; replace S:=S.set 7 rfl hh_; dsimp only [List.set] at S) | (refine ⟨_,rfl,rfl,rfl,.inl ⟨_,S.row 8 rfl,rfl,?_⟩⟩; (conv=>whnf); intro ha_ hh_; replace S:=S.set 8 rfl hh_; dsimp only [List.set] at S) | (refine bsel_intro (fun hb=>?_) (fun hb=>?_)) | skip)
  conv=>whnf
  refine ⟨(pcells kind n test C a b K agg col D [L,R,KS]),(by kernel_rfl),rfl,(allp g1.cell.2 g2.cell.2 g3.cell.2 (allc gL.cell.2 (allc gR.cell.2 (allc o4.cell.2 rfl)))),.inl ⟨_,S.row 5 rfl,rfl,?_⟩⟩
  conv=>whnf
  intro aa hh_aa
  replace S:=S.set 5 rfl hh_aa
  dsimp only [List.set] at S
  conv=>whnf
  replace S:=S.pick [5,3,2,1,0] (by decide)
  simp only [pickL,List.getElem?_cons_zero,List.getElem?_cons_succ] at S
  refine fin_dat (vs:=(pcells kind n test C a b K agg col D [L,R,KS])) rfl rfl (S.row 0 rfl) (by kernel_rfl) (OwnC_pl (S.get 1 rfl) (OwnC_g1 (S.get 2 rfl) (OwnC_g1 (S.get 3 rfl) (OwnC_one (S.get 4 rfl) OwnC_no)))) (S.drop 0).nodupAll
end Go.Proofs.YtncgofhhnhebjaaGreat

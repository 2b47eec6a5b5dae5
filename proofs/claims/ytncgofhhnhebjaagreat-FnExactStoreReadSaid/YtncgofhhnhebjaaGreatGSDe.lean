/- The law's copies of pasts, views, stores. (Printed by gencp.py.) -/
import Derived.Test.YtncgofhhnhebjaaGreatGSDd
set_option linter.unusedVariables false
set_option linter.unusedSimpArgs false
/- The law's copies of pasts, views, stores. (Printed by gencp.py.) -/
set_option maxHeartbeats 4000000
namespace Go.Proofs.YtncgofhhnhebjaaGreat
open Go Go.Am
variable {pr : Prims} (hp : Okp pr)
set_option maxRecDepth 100000
theorem toFlow_n (hp : Okp pr) (f : Flow) (h : f.d.tot ≤ 1048576) : RetD pr 138 [f.enc] f.d:=toFlow_n' hp _ f (Nat.le_refl _) h
theorem toPast_n (hp : Okp pr) (x : Past) (h : x.d.tot ≤ 1048576) : RetD pr 175 [x.enc] x.d:=by
 obtain ⟨t,out⟩:=x
 simp only [Past.d,Dat.tot,Dat.tots] at h
 have h1:=toItemS_n hp out (by omega)
 clear h
 refine retD_of hp rfl ?_
 have S : Sepa [] []:=Sepa.nil []
 iterate 3
  all_goals (try (conv=>whnf))
  all_goals (first | (intro ka_ ha_ hk_ hh_; replace S:=S.alloc hk_ hh_) | (refine .inl ⟨_,S.row 0 rfl,rfl,?_⟩) | (refine .inl ⟨_,S.row 1 rfl,rfl,?_⟩) | (refine .inl ⟨_,S.row 2 rfl,rfl,?_⟩) | (refine .inl ⟨_,S.row 3 rfl,rfl,?_⟩) | (refine .inl ⟨_,S.row 4 rfl,rfl,?_⟩) | (refine .inl ⟨_,S.row 5 rfl,rfl,?_⟩) | (refine .inl ⟨_,S.row 6 rfl,rfl,?_⟩) | (refine .inl ⟨_,S.row 7 rfl,rfl,?_⟩) | (refine .inl ⟨_,S.row 8 rfl,rfl,?_⟩) | (refine ⟨_,rfl,rfl,rfl,.inl ⟨_,S.row 0 rfl,rfl,?_⟩⟩; (conv=>whnf); intro ha_ hh_; replace S:=S.set 0 rfl hh_; dsimp only [List.set] at S) | (refine ⟨_,rfl,rfl,rfl,.inl ⟨_,S.row 1 rfl,rfl,?_⟩⟩; (conv=>whnf); intro ha_ hh_; replace S:=S.set 1 rfl hh_; dsimp only [List.set] at S) | (refine ⟨_,rfl,rfl,rfl,.inl ⟨_,S.row 2 rfl,rfl,?_⟩⟩; (conv=>whnf); intro ha_ hh_; replace S:=S.set 2 rfl hh_; dsimp only [List.set] at S) | (refine ⟨_,rfl,rfl,rfl,.inl ⟨_,S.row 3 rfl,rfl,?_⟩⟩; (conv=>whnf); intro ha_ hh_; replace S:=S.set 3 rfl hh_; dsimp only [List.set] at S) | (refine ⟨_,rfl,rfl,rfl,.inl ⟨_,S.row 4 rfl,rfl,?_⟩⟩; (conv=>whnf); intro ha_ hh_; replace S:=S.set 4 rfl hh_; dsimp only [List.set] at S) | (refine ⟨_,rfl,rfl,rfl,.inl ⟨_,S.row 5 rfl,rfl,?_⟩⟩; (conv=>whnf); intro ha_ hh_; replace S:=S.set 5 rfl hh_; dsimp only [List.set] at S) | (refine ⟨_,rfl,rfl,rfl,.inl ⟨_,S.row 6 rfl,rfl,?_⟩⟩; (conv=>whnf); intro ha_ hh_; replace S:=S.set 6 rfl hh_; dsimp only [List.set] at S) | (refine ⟨_,rfl,rfl,rfl,.inl ⟨_,S.row 7 rfl,rfl,?_⟩⟩; (conv=>whnf); intro ha_ hh_; replace S:=S.set 7 rfl hh_; dsimp only [List.set] at S) | (refine ⟨_,rfl,rfl,rfl,.inl ⟨_,S.row 8 rfl,rfl,?_⟩⟩; (conv=>whnf); intro ha_ hh_; replace S:=S.set 8 rfl hh_; dsimp only [List.set] at S) | (refine bsel_intro (fun hb=>?_) (fun hb=>?_)) | skip)
 iterate 2
  all_goals (try (conv=>whnf))
  all_goals (first | (intro ka_ ha_ hk_ hh_; replace S:=S.alloc hk_ hh_) | (refine .inl ⟨_,S.row 0 rfl,rfl,?_⟩) | (refine .inl ⟨_,S.row 1 rfl,rfl,?_⟩) | (refine .inl ⟨_,S.row 2 rfl,rfl,?_⟩) | (refine .inl ⟨_,S.row 3 rfl,rfl,?_⟩) | (refine .inl ⟨_,S.row 4 rfl,rfl,?_⟩) | (refine .inl ⟨_,S.row 5 rfl,rfl,?_⟩) | (refine .inl ⟨_,S.row 6 rfl,rfl,?_⟩) | (refine .inl ⟨_,S.row 7 rfl,rfl,?_⟩) | (refine .inl ⟨_,S.row 8 rfl,rfl,?_⟩) | (refine ⟨_,rfl,rfl,rfl,.inl ⟨_,S.row 0 rfl,rfl,?_⟩⟩; (conv=>whnf); intro ha_ hh_; replace S:=S.set 0 rfl hh_; dsimp only [List.set] at S) | (refine ⟨_,rfl,rfl,rfl,.inl ⟨_,S.row 1 rfl,rfl,?_⟩⟩; (conv=>whnf); intro ha_ hh_; replace S:=S.set 1 rfl hh_; dsimp only [List.set] at S) | (refine ⟨_,rfl,rfl,rfl,.inl ⟨_,S.row 2 rfl,rfl,?_⟩⟩; (conv=>whnf); intro ha_ hh_; replace S:=S.set 2 rfl hh_; dsimp only [List.set] at S) | (refine ⟨_,rfl,rfl,rfl,.inl ⟨_,S.row 3 rfl,rfl,?_⟩⟩; (conv=>whnf); intro ha_ hh_; replace S:=S.set 3 rfl hh_; dsimp only [List.set] at S) | (refine ⟨_,rfl,rfl,rfl,.inl ⟨_,S.row 4 rfl,rfl,?_⟩⟩; (conv=>whnf); intro ha_ hh_; replace S:=S.set 4 rfl hh_; dsimp only [List.set] at S) | (refine ⟨_,rfl,rfl,rfl,.inl ⟨_,S.row 5 rfl,rfl,?_⟩⟩; (conv=>whnf); intro ha_ hh_; replace S:=S.set 5 rfl hh_; dsimp only [List.set] at S) | (refine ⟨_,rfl,rfl,rfl,.inl ⟨_,S.row 6 rfl,rfl,?_⟩⟩; (conv=>whnf); intro ha_ hh_; replace S:=S.set 6 rfl hh_; dsimp only [List.set] at S) | (refine ⟨_,rfl,rfl,rfl,.inl ⟨_,S.row 7 rfl,rfl,?_⟩⟩; (conv=>whnf); intro ha_ hh_; replace S:=S.set 7 rfl hh_; dsimp only [List.set] at S) | (refine ⟨_,rfl,rfl,rfl,.inl ⟨_,S.row 8 rfl,rfl,?_⟩⟩; (conv=>whnf); intro ha_ hh_; replace S:=S.set 8 rfl hh_; dsimp only [List.set] at S) | (refine bsel_intro (fun hb=>?_) (fun hb=>?_)) | skip)
 iterate 1
  all_goals (try (conv=>whnf))
  all_goals (first | (intro ka_ ha_ hk_ hh_; replace S:=S.alloc hk_ hh_) | (refine .inl ⟨_,S.row 0 rfl,rfl,?_⟩) | (refine .inl ⟨_,S.row 1 rfl,rfl,?_⟩) | (refine .inl ⟨_,S.row 2 rfl,rfl,?_⟩) | (refine .inl ⟨_,S.row 3 rfl,rfl,?_⟩) | (refine .inl ⟨_,S.row 4 rfl,rfl,?_⟩) | (refine .inl ⟨_,S.row 5 rfl,rfl,?_⟩) | (refine .inl ⟨_,S.row 6 rfl,rfl,?_⟩) | (refine .inl ⟨_,S.row 7 rfl,rfl,?_⟩) | (refine .inl ⟨_,S.row 8 rfl,rfl,?_⟩) | (refine ⟨_,rfl,rfl,rfl,.inl ⟨_,S.row 0 rfl,rfl,?_⟩⟩; (conv=>whnf); intro ha_ hh_; replace S:=S.set 0 rfl hh_; dsimp only [List.set] at S) | (refine ⟨_,rfl,rfl,rfl,.inl ⟨_,S.row 1 rfl,rfl,?_⟩⟩; (conv=>whnf); intro ha_ hh_; replace S:=S.set 1 rfl hh_; dsimp only [List.set] at S) | (refine ⟨_,rfl,rfl,rfl,.inl ⟨_,S.row 2 rfl,rfl,?_⟩⟩; (conv=>whnf); intro ha_ hh_; replace S:=S.set 2 rfl hh_; dsimp only [List.set] at S) | (refine ⟨_,rfl,rfl,rfl,.inl ⟨_,S.row 3 rfl,rfl,?_⟩⟩; (conv=>whnf); intro ha_ hh_; replace S:=S.set 3 rfl hh_; dsimp only [List.set] at S) | (refine ⟨_,rfl,rfl,rfl,.inl ⟨_,S.row 4 rfl,rfl,?_⟩⟩; (conv=>whnf); intro ha_ hh_; replace S:=S.set 4 rfl hh_; dsimp only [List.set] at S) | (refine ⟨_,rfl,rfl,rfl,.inl ⟨_,S.row 5 rfl,rfl,?_⟩⟩; (conv=>whnf); intro ha_ hh_; replace S:=S.set 5 rfl hh_; dsimp only [List.set] at S) | (refine ⟨_,rfl,rfl,rfl,.inl ⟨_,S.row 6 rfl,rfl,?_⟩⟩; (conv=>whnf); intro ha_ hh_; replace S:=S.set 6 rfl hh_; dsimp only [List.set] at S) | (refine ⟨_,rfl,rfl,rfl,.inl ⟨_,S.row 7 rfl,rfl,?_⟩⟩; (conv=>whnf); intro ha_ hh_; replace S:=S.set 7 rfl hh_; dsimp only [List.set] at S) | (refine ⟨_,rfl,rfl,rfl,.inl ⟨_,S.row 8 rfl,rfl,?_⟩⟩; (conv=>whnf); intro ha_ hh_; replace S:=S.set 8 rfl hh_; dsimp only [List.set] at S) | (refine bsel_intro (fun hb=>?_) (fun hb=>?_)) | skip)
 conv=>whnf
 refine callD S h1 rfl rfl fun A q2 F1 o2 S1=>?_
 replace S:=S1
 clear S1
 conv=>whnf
 refine ⟨[A],o2.cell.1,rfl,(all1 o2.cell.2),.inl ⟨_,S.row 1 rfl,rfl,?_⟩⟩
 conv=>whnf
 intro a2 hh_a2
 replace S:=S.set 1 rfl hh_a2
 dsimp only [List.set] at S
 conv=>whnf
 iterate 1
  all_goals (try (conv=>whnf))
  all_goals (first | (intro ka_ ha_ hk_ hh_; replace S:=S.alloc hk_ hh_) | (refine .inl ⟨_,S.row 0 rfl,rfl,?_⟩) | (refine .inl ⟨_,S.row 1 rfl,rfl,?_⟩) | (refine .inl ⟨_,S.row 2 rfl,rfl,?_⟩) | (refine .inl ⟨_,S.row 3 rfl,rfl,?_⟩) | (refine .inl ⟨_,S.row 4 rfl,rfl,?_⟩) | (refine .inl ⟨_,S.row 5 rfl,rfl,?_⟩) | (refine .inl ⟨_,S.row 6 rfl,rfl,?_⟩) | (refine .inl ⟨_,S.row 7 rfl,rfl,?_⟩) | (refine .inl ⟨_,S.row 8 rfl,rfl,?_⟩) | (refine ⟨_,rfl,rfl,rfl,.inl ⟨_,S.row 0 rfl,rfl,?_⟩⟩; (conv=>whnf); intro ha_ hh_; replace S:=S.set 0 rfl hh_; dsimp only [List.set] at S) | (refine ⟨_,rfl,rfl,rfl,.inl ⟨_,S.row 1 rfl,rfl,?_⟩⟩; (conv=>whnf); intro ha_ hh_; replace S:=S.set 1 rfl hh_; dsimp only [List.set] at S) | (refine ⟨_,rfl,rfl,rfl,.inl ⟨_,S.row 2 rfl,rfl,?_⟩⟩; (conv=>whnf); intro ha_ hh_; replace S:=S.set 2 rfl hh_; dsimp only [List.set] at S) | (refine ⟨_,rfl,rfl,rfl,.inl ⟨_,S.row 3 rfl,rfl,?_⟩⟩; (conv=>whnf); intro ha_ hh_; replace S:=S.set 3 rfl hh_; dsimp only [List.set] at S) | (refine ⟨_,rfl,rfl,rfl,.inl ⟨_,S.row 4 rfl,rfl,?_⟩⟩; (conv=>whnf); intro ha_ hh_; replace S:=S.set 4 rfl hh_; dsimp only [List.set] at S) | (refine ⟨_,rfl,rfl,rfl,.inl ⟨_,S.row 5 rfl,rfl,?_⟩⟩; (conv=>whnf); intro ha_ hh_; replace S:=S.set 5 rfl hh_; dsimp only [List.set] at S) | (refine ⟨_,rfl,rfl,rfl,.inl ⟨_,S.row 6 rfl,rfl,?_⟩⟩; (conv=>whnf); intro ha_ hh_; replace S:=S.set 6 rfl hh_; dsimp only [List.set] at S) | (refine ⟨_,rfl,rfl,rfl,.inl ⟨_,S.row 7 rfl,rfl,?_⟩⟩; (conv=>whnf); intro ha_ hh_; replace S:=S.set 7 rfl hh_; dsimp only [List.set] at S) | (refine ⟨_,rfl,rfl,rfl,.inl ⟨_,S.row 8 rfl,rfl,?_⟩⟩; (conv=>whnf); intro ha_ hh_; replace S:=S.set 8 rfl hh_; dsimp only [List.set] at S) | (refine bsel_intro (fun hb=>?_) (fun hb=>?_)) | skip)
 conv=>whnf
 refine ⟨[i64 t,A],(by kernel_rfl),rfl,(allc (c:=i64 t) rfl (allc o2.cell.2 rfl)),.inl ⟨_,S.row 2 rfl,rfl,?_⟩⟩
 conv=>whnf
 intro aa hh_aa
 replace S:=S.set 2 rfl hh_aa
 dsimp only [List.set] at S
 conv=>whnf
 replace S:=S.pick [2,0] (by decide)
 simp only [pickL,List.getElem?_cons_zero,List.getElem?_cons_succ] at S
 refine fin_dat (vs:=[i64 t,A]) rfl rfl (S.row 0 rfl) (by kernel_rfl) (OwnC_int (OwnC_one (S.get 1 rfl) OwnC_no)) (S.drop 0).nodupAll
def zPast : AVal:=.agg [i64 0,.nil]
theorem toPastS_n1 (hp : Okp pr) (xs : List Past) (hl : xs.length ≤ 1048576) (ih : ∀ x ∈ xs,RetD pr 175 [Past.enc x] (Past.d x)) : RetD pr 139 [.sl (xs.map Past.enc)] (.s 2 (xs.map Past.d)):=by
 have hlen : (((xs.map Past.enc).length : Nat) : Int).toNat = xs.length:=by simp
 refine retD_of hp rfl ?_
 have S : Sepa [] []:=Sepa.nil []
 conv=>whnf
 refine ⟨?_,?_⟩
 ·simp [sizeLim]; omega
 conv=>whnf
 intro k1 a1 hk1 hh1
 replace S:=S.alloc hk1 hh1
 rw [hlen] at S
 conv=>whnf
 refine loopG (fun m tm hp=>∃ (j : Nat) (vs : List AVal) (F : List Nat),j + m = xs.length ∧ tm 4 = i64 (j : Nat) ∧ Sepa hp [.dats ((xs.take j).map Past.d) vs F,.row k1 (.arr 2 (vs ++ List.replicate (xs.length - j) zPast))]) (fun m tm hq hfr hI=>?_) xs.length ⟨0,[],[],by simp,rfl,?_⟩
 rotate_left
 ·exact S.more (c:=.dats [] [] []) (List.prefix_refl _) (by show Owns _ _ _ _; simp [Owns]) (by simp [Chunk.dats]) (by simp [Chunk.dats])
 obtain ⟨j,vs,F,hj,e4,S2⟩:=hI
 clear S
 have S:=S2
 clear S2
 have k0:=hfr 0 (by kernel_rfl)
 conv at k0=>rhs; whnf
 rw [← upd_id k0]
 have k3:=hfr 3 (by kernel_rfl)
 conv at k3=>rhs; whnf
 rw [← upd_id k3,← upd_id e4]
 clear hfr k0 k3 e4
 have hvl : vs.length = j:=by
  have : Owns hq ((xs.take j).map Past.d) vs F:=S.get 0 rfl
  rw [Owns_len this]; simp; omega
 conv=>whnf
 refine bsel_intro (fun h1=>?_) (fun h1=>?_)
 ·have hjl : j < xs.length:=by simpa using h1
  have hge : (xs.map Past.enc)[((j : Nat) : Int).toNat]? = some (Past.enc xs[j]):=by rw [Int.toNat_natCast]; simp [hjl]
  have hih:=ih xs[j] (List.getElem_mem hjl)
  have htk:=congrArg (List.map Past.d) (take_snoc hjl)
  rw [List.map_append] at htk
  generalize xs[j] = q at hge hih htk
  obtain ⟨t,out⟩:=q
  conv=>whnf
  refine ⟨_,hge,by omega,rfl,?_⟩
  conv=>whnf
  refine callD S hih rfl rfl fun v q1 F2 ho S1=>?_
  replace S:=S1
  clear S1
  have ho0:=ho
  obtain ⟨vv,rfl,hu⟩:=Own_g.1 ho
  obtain ⟨w1,rfl,ho1⟩:=OwnC_i.1 hu
  obtain ⟨A,w2,G1,G2,rfl,rfl,gA,ho2⟩:=OwnC_s.1 ho1
  obtain ⟨rfl,rfl⟩:=OwnC_nil.1 ho2
  conv=>whnf
  refine ⟨_,S.row 2 rfl,⟨by omega,by rw [hlen]; omega⟩,?_⟩
  conv=>whnf
  refine ⟨_,rfl,rfl,allc (c:=i64 t) rfl (allc gA.cell.2 rfl),.inr ⟨_,_,zPast,S.row 2 rfl,?_,?_⟩⟩
  ·rw [Int.toNat_natCast,Nat.zero_add]; exact plans_at hvl hjl
  conv=>whnf
  intro h5 hh5
  replace S:=S.set 2 rfl hh5
  dsimp only [List.set] at S
  conv=>whnf
  have hfill:=plans_fill (v:=.agg [i64 t,A]) (z:=zPast) hvl hjl
  rw [Int.toNat_natCast,Nat.zero_add] at S
  have hS:=S.merge (e:=.dats (_ ++ _) (_ ++ _) (_ ++ _)) (Owns_append (S.get 1 rfl) (Owns_one (S.get 0 rfl))) (fun id hid=>(List.mem_append.1 hid).symm) S.nodup2
  exact ⟨m - 1,by omega,j + 1,vs ++ [.agg [i64 t,A]],_,by omega,nat_step j (by omega),by rw [← hfill,htk]; exact hS⟩
 ·have hje : j = xs.length:=by
   have : ¬ j < xs.length:=by simpa using h1
   omega
  subst hje
  conv=>whnf
  have e:=S.row 1 rfl
  rw [Nat.sub_self,List.replicate_zero,List.append_nil] at e
  have hps : Owns hq ((xs.take xs.length).map Past.d) vs F:=S.get 0 rfl
  rw [List.take_length] at hps
  refine ⟨_,rfl,_,_,k1 :: F,rfl,?_,List.nodup_cons.2 ⟨fun hm=>S.apart 0 1 _ _ (by omega) rfl rfl k1 hm (by simp [Chunk.row]),(S.get' 0 _ rfl).2⟩⟩
  simp only [Own]
  refine .inr ⟨k1,vs,F,?_,e,hps,rfl⟩
  refine Eq.trans (b:=AVal.own k1 0 (((xs.map Past.enc).length : Nat) : Int).toNat) (by kernel_rfl) (by rw [hlen,List.length_map])
theorem toPastS_n (hp : Okp pr) (xs : List Past) (h : (Dat.s 2 (xs.map Past.d)).tot ≤ 1048576) : RetD pr 139 [.sl (xs.map Past.enc)] (.s 2 (xs.map Past.d)):=by
 simp only [Dat.tot,List.length_map] at h
 exact toPastS_n1 hp xs (by omega) fun x hx=>toPast_n hp x (by have:=tots_map (f:=Past.d) hx; omega)
theorem toView_n (hp : Okp pr) (x : View) (h : x.d.tot ≤ 1048576) : RetD pr 95 [x.enc] x.d:=by
 obtain ⟨f,since,base,pasts⟩:=x
 simp only [View.d,Dat.tot,Dat.tots] at h
 have hf:=toFlow_n hp f (by omega)
 have hb:=toItemS_n hp base (by omega)
 have hq:=toPastS_n hp pasts (by simp only [Dat.tot]; omega)
 clear h
 obtain ⟨⟨kind,n,test,cells,a,b,keys,agg,col,kids⟩,l,r,ks⟩:=f
 refine retD_of hp rfl ?_
 have S : Sepa [] []:=Sepa.nil []
 iterate 3
  all_goals (try (conv=>whnf))
  all_goals (first | (intro ka_ ha_ hk_ hh_; replace S:=S.alloc hk_ hh_) | (refine .inl ⟨_,S.row 0 rfl,rfl,?_⟩) | (refine .inl ⟨_,S.row 1 rfl,rfl,?_⟩) | (refine .inl ⟨_,S.row 2 rfl,rfl,?_⟩) | (refine .inl ⟨_,S.row 3 rfl,rfl,?_⟩) | (refine .inl ⟨_,S.row 4 rfl,rfl,?_⟩) | (refine .inl ⟨_,S.row 5 rfl,rfl,?_⟩) | (refine .inl ⟨_,S.row 6 rfl,rfl,?_⟩) | (refine .inl ⟨_,S.row 7 rfl,rfl,?_⟩) | (refine .inl ⟨_,S.row 8 rfl,rfl,?_⟩) | (refine ⟨_,rfl,rfl,rfl,.inl ⟨_,S.row 0 rfl,rfl,?_⟩⟩; (conv=>whnf); intro ha_ hh_; replace S:=S.set 0 rfl hh_; dsimp only [List.set] at S) | (refine ⟨_,rfl,rfl,rfl,.inl ⟨_,S.row 1 rfl,rfl,?_⟩⟩; (conv=>whnf); intro ha_ hh_; replace S:=S.set 1 rfl hh_; dsimp only [List.set] at S) | (refine ⟨_,rfl,rfl,rfl,.inl ⟨_,S.row 2 rfl,rfl,?_⟩⟩; (conv=>whnf); intro ha_ hh_; replace S:=S.set 2 rfl hh_; dsimp only [List.set] at S) | (refine ⟨_,rfl,rfl,rfl,.inl ⟨_,S.row 3 rfl,rfl,?_⟩⟩; (conv=>whnf); intro ha_ hh_; replace S:=S.set 3 rfl hh_; dsimp only [List.set] at S) | (refine ⟨_,rfl,rfl,rfl,.inl ⟨_,S.row 4 rfl,rfl,?_⟩⟩; (conv=>whnf); intro ha_ hh_; replace S:=S.set 4 rfl hh_; dsimp only [List.set] at S) | (refine ⟨_,rfl,rfl,rfl,.inl ⟨_,S.row 5 rfl,rfl,?_⟩⟩; (conv=>whnf); intro ha_ hh_; replace S:=S.set 5 rfl hh_; dsimp only [List.set] at S) | (refine ⟨_,rfl,rfl,rfl,.inl ⟨_,S.row 6 rfl,rfl,?_⟩⟩; (conv=>whnf); intro ha_ hh_; replace S:=S.set 6 rfl hh_; dsimp only [List.set] at S) | (refine ⟨_,rfl,rfl,rfl,.inl ⟨_,S.row 7 rfl,rfl,?_⟩⟩; (conv=>whnf); intro ha_ hh_; replace S:=S.set 7 rfl hh_; dsimp only [List.set] at S) | (refine ⟨_,rfl,rfl,rfl,.inl ⟨_,S.row 8 rfl,rfl,?_⟩⟩; (conv=>whnf); intro ha_ hh_; replace S:=S.set 8 rfl hh_; dsimp only [List.set] at S) | (refine bsel_intro (fun hb=>?_) (fun hb=>?_)) | skip)
 iterate 1
  all_goals (try (conv=>whnf))
  all_goals (first | (intro ka_ ha_ hk_ hh_; replace S:=S.alloc hk_ hh_) | (refine .inl ⟨_,S.row 0 rfl,rfl,?_⟩) | (refine .inl ⟨_,S.row 1 rfl,rfl,?_⟩) | (refine .inl ⟨_,S.row 2 rfl,rfl,?_⟩) | (refine .inl ⟨_,S.row 3 rfl,rfl,?_⟩) | (refine .inl ⟨_,S.row 4 rfl,rfl,?_⟩) | (refine .inl ⟨_,S.row 5 rfl,rfl,?_⟩) | (refine .inl ⟨_,S.row 6 rfl,rfl,?_⟩) | (refine .inl ⟨_,S.row 7 rfl,rfl,?_⟩) | (refine .inl ⟨_,S.row 8 rfl,rfl,?_⟩) | (refine ⟨_,rfl,rfl,rfl,.inl ⟨_,S.row 0 rfl,rfl,?_⟩⟩; (conv=>whnf); intro ha_ hh_; replace S:=S.set 0 rfl hh_; dsimp only [List.set] at S) | (refine ⟨_,rfl,rfl,rfl,.inl ⟨_,S.row 1 rfl,rfl,?_⟩⟩; (conv=>whnf); intro ha_ hh_; replace S:=S.set 1 rfl hh_; dsimp only [List.set] at S) | (refine ⟨_,rfl,rfl,rfl,.inl ⟨_,S.row 2 rfl,rfl,?_⟩⟩; (conv=>whnf); intro ha_ hh_; replace S:=S.set 2 rfl hh_; dsimp only [List.set] at S) | (refine ⟨_,rfl,rfl,rfl,.inl ⟨_,S.row 3 rfl,rfl,?_⟩⟩; (conv=>whnf); intro ha_ hh_; replace S:=S.set 3 rfl hh_; dsimp only [List.set] at S) | (refine ⟨_,rfl,rfl,rfl,.inl ⟨_,S.row 4 rfl,rfl,?_⟩⟩; (conv=>whnf); intro ha_ hh_; replace S:=S.set 4 rfl hh_; dsimp only [List.set] at S) | (refine ⟨_,rfl,rfl,rfl,.inl ⟨_,S.row 5 rfl,rfl,?_⟩⟩; (conv=>whnf); intro ha_ hh_; replace S:=S.set 5 rfl hh_; dsimp only [List.set] at S) | (refine ⟨_,rfl,rfl,rfl,.inl ⟨_,S.row 6 rfl,rfl,?_⟩⟩; (conv=>whnf); intro ha_ hh_; replace S:=S.set 6 rfl hh_; dsimp only [List.set] at S) | (refine ⟨_,rfl,rfl,rfl,.inl ⟨_,S.row 7 rfl,rfl,?_⟩⟩; (conv=>whnf); intro ha_ hh_; replace S:=S.set 7 rfl hh_; dsimp only [List.set] at S) | (refine ⟨_,rfl,rfl,rfl,.inl ⟨_,S.row 8 rfl,rfl,?_⟩⟩; (conv=>whnf); intro ha_ hh_; replace S:=S.set 8 rfl hh_; dsimp only [List.set] at S) | (refine bsel_intro (fun hb=>?_) (fun hb=>?_)) | skip)
 conv=>whnf
 refine callD S hf rfl rfl fun V q1 F1 o1 S1=>?_
 replace S:=S1
 clear S1
 obtain ⟨vv,rfl,hu⟩:=Own_g.1 o1
 obtain ⟨C,K,D,Fc,Fk,Fd,w1,G1,rfl,g1,g2,g3,rfl,ho1⟩:=OwnC_p.1 hu
 obtain ⟨u2,w2,H2,G2,rfl,rfl,ho2,ho3⟩:=OwnC_g.1 ho1
 obtain ⟨L,u3,H3,G3,rfl,rfl,gL,ho4⟩:=OwnC_s.1 ho2
 obtain ⟨rfl,rfl⟩:=OwnC_nil.1 ho4
 obtain ⟨u4,w4,H4,G4,rfl,rfl,ho5,ho6⟩:=OwnC_g.1 ho3
 obtain ⟨R,u5,H5,G5,rfl,rfl,gR,ho7⟩:=OwnC_s.1 ho5
 obtain ⟨rfl,rfl⟩:=OwnC_nil.1 ho7
 obtain ⟨KS,u6,H6,G6,rfl,rfl,gK,ho8⟩:=OwnC_s.1 ho6
 obtain ⟨rfl,rfl⟩:=OwnC_nil.1 ho8
 conv=>whnf
 refine ⟨_,rfl,rfl,(allp g1.cell.2 g2.cell.2 g3.cell.2 (allc gL.cell.2 (allc gR.cell.2 (allc gK.cell.2 rfl)))),.inl ⟨_,S.row 1 rfl,rfl,?_⟩⟩
 conv=>whnf
 intro a1 hh_a1
 replace S:=S.set 1 rfl hh_a1
 dsimp only [List.set] at S
 conv=>whnf
 iterate 2
  all_goals (try (conv=>whnf))
  all_goals (first | (intro ka_ ha_ hk_ hh_; replace S:=S.alloc hk_ hh_) | (refine .inl ⟨_,S.row 0 rfl,rfl,?_⟩) | (refine .inl ⟨_,S.row 1 rfl,rfl,?_⟩) | (refine .inl ⟨_,S.row 2 rfl,rfl,?_⟩) | (refine .inl ⟨_,S.row 3 rfl,rfl,?_⟩) | (refine .inl ⟨_,S.row 4 rfl,rfl,?_⟩) | (refine .inl ⟨_,S.row 5 rfl,rfl,?_⟩) | (refine .inl ⟨_,S.row 6 rfl,rfl,?_⟩) | (refine .inl ⟨_,S.row 7 rfl,rfl,?_⟩) | (refine .inl ⟨_,S.row 8 rfl,rfl,?_⟩) | (refine ⟨_,rfl,rfl,rfl,.inl ⟨_,S.row 0 rfl,rfl,?_⟩⟩; (conv=>whnf); intro ha_ hh_; replace S:=S.set 0 rfl hh_; dsimp only [List.set] at S) | (refine ⟨_,rfl,rfl,rfl,.inl ⟨_,S.row 1 rfl,rfl,?_⟩⟩; (conv=>whnf); intro ha_ hh_; replace S:=S.set 1 rfl hh_; dsimp only [List.set] at S) | (refine ⟨_,rfl,rfl,rfl,.inl ⟨_,S.row 2 rfl,rfl,?_⟩⟩; (conv=>whnf); intro ha_ hh_; replace S:=S.set 2 rfl hh_; dsimp only [List.set] at S) | (refine ⟨_,rfl,rfl,rfl,.inl ⟨_,S.row 3 rfl,rfl,?_⟩⟩; (conv=>whnf); intro ha_ hh_; replace S:=S.set 3 rfl hh_; dsimp only [List.set] at S) | (refine ⟨_,rfl,rfl,rfl,.inl ⟨_,S.row 4 rfl,rfl,?_⟩⟩; (conv=>whnf); intro ha_ hh_; replace S:=S.set 4 rfl hh_; dsimp only [List.set] at S) | (refine ⟨_,rfl,rfl,rfl,.inl ⟨_,S.row 5 rfl,rfl,?_⟩⟩; (conv=>whnf); intro ha_ hh_; replace S:=S.set 5 rfl hh_; dsimp only [List.set] at S) | (refine ⟨_,rfl,rfl,rfl,.inl ⟨_,S.row 6 rfl,rfl,?_⟩⟩; (conv=>whnf); intro ha_ hh_; replace S:=S.set 6 rfl hh_; dsimp only [List.set] at S) | (refine ⟨_,rfl,rfl,rfl,.inl ⟨_,S.row 7 rfl,rfl,?_⟩⟩; (conv=>whnf); intro ha_ hh_; replace S:=S.set 7 rfl hh_; dsimp only [List.set] at S) | (refine ⟨_,rfl,rfl,rfl,.inl ⟨_,S.row 8 rfl,rfl,?_⟩⟩; (conv=>whnf); intro ha_ hh_; replace S:=S.set 8 rfl hh_; dsimp only [List.set] at S) | (refine bsel_intro (fun hb=>?_) (fun hb=>?_)) | skip)
 iterate 1
  all_goals (try (conv=>whnf))
  all_goals (first | (intro ka_ ha_ hk_ hh_; replace S:=S.alloc hk_ hh_) | (refine .inl ⟨_,S.row 0 rfl,rfl,?_⟩) | (refine .inl ⟨_,S.row 1 rfl,rfl,?_⟩) | (refine .inl ⟨_,S.row 2 rfl,rfl,?_⟩) | (refine .inl ⟨_,S.row 3 rfl,rfl,?_⟩) | (refine .inl ⟨_,S.row 4 rfl,rfl,?_⟩) | (refine .inl ⟨_,S.row 5 rfl,rfl,?_⟩) | (refine .inl ⟨_,S.row 6 rfl,rfl,?_⟩) | (refine .inl ⟨_,S.row 7 rfl,rfl,?_⟩) | (refine .inl ⟨_,S.row 8 rfl,rfl,?_⟩) | (refine ⟨_,rfl,rfl,rfl,.inl ⟨_,S.row 0 rfl,rfl,?_⟩⟩; (conv=>whnf); intro ha_ hh_; replace S:=S.set 0 rfl hh_; dsimp only [List.set] at S) | (refine ⟨_,rfl,rfl,rfl,.inl ⟨_,S.row 1 rfl,rfl,?_⟩⟩; (conv=>whnf); intro ha_ hh_; replace S:=S.set 1 rfl hh_; dsimp only [List.set] at S) | (refine ⟨_,rfl,rfl,rfl,.inl ⟨_,S.row 2 rfl,rfl,?_⟩⟩; (conv=>whnf); intro ha_ hh_; replace S:=S.set 2 rfl hh_; dsimp only [List.set] at S) | (refine ⟨_,rfl,rfl,rfl,.inl ⟨_,S.row 3 rfl,rfl,?_⟩⟩; (conv=>whnf); intro ha_ hh_; replace S:=S.set 3 rfl hh_; dsimp only [List.set] at S) | (refine ⟨_,rfl,rfl,rfl,.inl ⟨_,S.row 4 rfl,rfl,?_⟩⟩; (conv=>whnf); intro ha_ hh_; replace S:=S.set 4 rfl hh_; dsimp only [List.set] at S) | (refine ⟨_,rfl,rfl,rfl,.inl ⟨_,S.row 5 rfl,rfl,?_⟩⟩; (conv=>whnf); intro ha_ hh_; replace S:=S.set 5 rfl hh_; dsimp only [List.set] at S) | (refine ⟨_,rfl,rfl,rfl,.inl ⟨_,S.row 6 rfl,rfl,?_⟩⟩; (conv=>whnf); intro ha_ hh_; replace S:=S.set 6 rfl hh_; dsimp only [List.set] at S) | (refine ⟨_,rfl,rfl,rfl,.inl ⟨_,S.row 7 rfl,rfl,?_⟩⟩; (conv=>whnf); intro ha_ hh_; replace S:=S.set 7 rfl hh_; dsimp only [List.set] at S) | (refine ⟨_,rfl,rfl,rfl,.inl ⟨_,S.row 8 rfl,rfl,?_⟩⟩; (conv=>whnf); intro ha_ hh_; replace S:=S.set 8 rfl hh_; dsimp only [List.set] at S) | (refine bsel_intro (fun hb=>?_) (fun hb=>?_)) | skip)
 conv=>whnf
 refine callD S hb rfl rfl fun B q3 F3 o3 S1=>?_
 replace S:=S1
 clear S1
 conv=>whnf
 refine ⟨[B],o3.cell.1,rfl,(all1 o3.cell.2),.inl ⟨_,S.row 2 rfl,rfl,?_⟩⟩
 conv=>whnf
 intro a3 hh_a3
 replace S:=S.set 2 rfl hh_a3
 dsimp only [List.set] at S
 conv=>whnf
 iterate 1
  all_goals (try (conv=>whnf))
  all_goals (first | (intro ka_ ha_ hk_ hh_; replace S:=S.alloc hk_ hh_) | (refine .inl ⟨_,S.row 0 rfl,rfl,?_⟩) | (refine .inl ⟨_,S.row 1 rfl,rfl,?_⟩) | (refine .inl ⟨_,S.row 2 rfl,rfl,?_⟩) | (refine .inl ⟨_,S.row 3 rfl,rfl,?_⟩) | (refine .inl ⟨_,S.row 4 rfl,rfl,?_⟩) | (refine .inl ⟨_,S.row 5 rfl,rfl,?_⟩) | (refine .inl ⟨_,S.row 6 rfl,rfl,?_⟩) | (refine .inl ⟨_,S.row 7 rfl,rfl,?_⟩) | (refine .inl ⟨_,S.row 8 rfl,rfl,?_⟩) | (refine ⟨_,rfl,rfl,rfl,.inl ⟨_,S.row 0 rfl,rfl,?_⟩⟩; (conv=>whnf); intro ha_ hh_; replace S:=S.set 0 rfl hh_; dsimp only [List.set] at S) | (refine ⟨_,rfl,rfl,rfl,.inl ⟨_,S.row 1 rfl,rfl,?_⟩⟩; (conv=>whnf); intro ha_ hh_; replace S:=S.set 1 rfl hh_; dsimp only [List.set] at S) | (refine ⟨_,rfl,rfl,rfl,.inl ⟨_,S.row 2 rfl,rfl,?_⟩⟩; (conv=>whnf); intro ha_ hh_; replace S:=S.set 2 rfl hh_; dsimp only [List.set] at S) | (refine ⟨_,rfl,rfl,rfl,.inl ⟨_,S.row 3 rfl,rfl,?_⟩⟩; (conv=>whnf); intro ha_ hh_; replace S:=S.set 3 rfl hh_; dsimp only [List.set] at S) | (refine ⟨_,rfl,rfl,rfl,.inl ⟨_,S.row 4 rfl,rfl,?_⟩⟩; (conv=>whnf); intro ha_ hh_; replace S:=S.set 4 rfl hh_; dsimp only [List.set] at S) | (refine ⟨_,rfl,rfl,rfl,.inl ⟨_,S.row 5 rfl,rfl,?_⟩⟩; (conv=>whnf); intro ha_ hh_; replace S:=S.set 5 rfl hh_; dsimp only [List.set] at S) | (refine ⟨_,rfl,rfl,rfl,.inl ⟨_,S.row 6 rfl,rfl,?_⟩⟩; (conv=>whnf); intro ha_ hh_; replace S:=S.set 6 rfl hh_; dsimp only [List.set] at S) | (refine ⟨_,rfl,rfl,rfl,.inl ⟨_,S.row 7 rfl,rfl,?_⟩⟩; (conv=>whnf); intro ha_ hh_; replace S:=S.set 7 rfl hh_; dsimp only [List.set] at S) | (refine ⟨_,rfl,rfl,rfl,.inl ⟨_,S.row 8 rfl,rfl,?_⟩⟩; (conv=>whnf); intro ha_ hh_; replace S:=S.set 8 rfl hh_; dsimp only [List.set] at S) | (refine bsel_intro (fun hb=>?_) (fun hb=>?_)) | skip)
 conv=>whnf
 refine callD S hq rfl rfl fun PS q4 F4 o4 S1=>?_
 replace S:=S1
 clear S1
 conv=>whnf
 refine ⟨[PS],o4.cell.1,rfl,(all1 o4.cell.2),.inl ⟨_,S.row 3 rfl,rfl,?_⟩⟩
 conv=>whnf
 intro a4 hh_a4
 replace S:=S.set 3 rfl hh_a4
 dsimp only [List.set] at S
 conv=>whnf
 iterate 1
  all_goals (try (conv=>whnf))
  all_goals (first | (intro ka_ ha_ hk_ hh_; replace S:=S.alloc hk_ hh_) | (refine .inl ⟨_,S.row 0 rfl,rfl,?_⟩) | (refine .inl ⟨_,S.row 1 rfl,rfl,?_⟩) | (refine .inl ⟨_,S.row 2 rfl,rfl,?_⟩) | (refine .inl ⟨_,S.row 3 rfl,rfl,?_⟩) | (refine .inl ⟨_,S.row 4 rfl,rfl,?_⟩) | (refine .inl ⟨_,S.row 5 rfl,rfl,?_⟩) | (refine .inl ⟨_,S.row 6 rfl,rfl,?_⟩) | (refine .inl ⟨_,S.row 7 rfl,rfl,?_⟩) | (refine .inl ⟨_,S.row 8 rfl,rfl,?_⟩) | (refine ⟨_,rfl,rfl,rfl,.inl ⟨_,S.row 0 rfl,rfl,?_⟩⟩; (conv=>whnf); intro ha_ hh_; replace S:=S.set 0 rfl hh_; dsimp only [List.set] at S) | (refine ⟨_,rfl,rfl,rfl,.inl ⟨_,S.row 1 rfl,rfl,?_⟩⟩; (conv=>whnf); intro ha_ hh_; replace S:=S.set 1 rfl hh_; dsimp only [List.set] at S) | (refine ⟨_,rfl,rfl,rfl,.inl ⟨_,S.row 2 rfl,rfl,?_⟩⟩; (conv=>whnf); intro ha_ hh_; replace S:=S.set 2 rfl hh_; dsimp only [List.set] at S) | (refine ⟨_,rfl,rfl,rfl,.inl ⟨_,S.row 3 rfl,rfl,?_⟩⟩; (conv=>whnf); intro ha_ hh_; replace S:=S.set 3 rfl hh_; dsimp only [List.set] at S) | (refine ⟨_,rfl,rfl,rfl,.inl ⟨_,S.row 4 rfl,rfl,?_⟩⟩; (conv=>whnf); intro ha_ hh_; replace S:=S.set 4 rfl hh_; dsimp only [List.set] at S) | (refine ⟨_,rfl,rfl,rfl,.inl ⟨_,S.row 5 rfl,rfl,?_⟩⟩; (conv=>whnf); intro ha_ hh_; replace S:=S.set 5 rfl hh_; dsimp only [List.set] at S) | (refine ⟨_,rfl,rfl,rfl,.inl ⟨_,S.row 6 rfl,rfl,?_⟩⟩; (conv=>whnf); intro ha_ hh_; replace S:=S.set 6 rfl hh_; dsimp only [List.set] at S) | (refine ⟨_,rfl,rfl,rfl,.inl ⟨_,S.row 7 rfl,rfl,?_⟩⟩; (conv=>whnf); intro ha_ hh_; replace S:=S.set 7 rfl hh_; dsimp only [List.set] at S) | (refine ⟨_,rfl,rfl,rfl,.inl ⟨_,S.row 8 rfl,rfl,?_⟩⟩; (conv=>whnf); intro ha_ hh_; replace S:=S.set 8 rfl hh_; dsimp only [List.set] at S) | (refine bsel_intro (fun hb=>?_) (fun hb=>?_)) | skip)
 conv=>whnf
 refine ⟨(pcells kind n test C a b K agg col D [L,R,KS,i64 since,B,PS]),(by kernel_rfl),rfl,(allp g1.cell.2 g2.cell.2 g3.cell.2 (allc gL.cell.2 (allc gR.cell.2 (allc gK.cell.2 (allc (c:=i64 since) rfl (allc o3.cell.2 (allc o4.cell.2 rfl))))))),.inl ⟨_,S.row 4 rfl,rfl,?_⟩⟩
 conv=>whnf
 intro aa hh_aa
 replace S:=S.set 4 rfl hh_aa
 dsimp only [List.set] at S
 conv=>whnf
 replace S:=S.pick [4,2,1,0] (by decide)
 simp only [pickL,List.getElem?_cons_zero,List.getElem?_cons_succ] at S
 refine fin_dat (vs:=(pcells kind n test C a b K agg col D [L,R,KS,i64 since,B,PS])) rfl rfl (S.row 0 rfl) (by kernel_rfl) (OwnC_fl (S.get 1 rfl) (OwnC_int (OwnC_one (S.get 2 rfl) (OwnC_one (S.get 3 rfl) OwnC_no)))) (S.drop 0).nodupAll
def zView : AVal:=.agg [i64 0,i64 0,i64 0,.bool false,i64 0,i64 0,i64 0,i64 0,i64 0,i64 0,i64 0,i64 0,.nil,i64 0,i64 0,.nil,i64 0,i64 0,.nil,.nil,.nil,.nil,i64 0,.nil,.nil]
theorem toViewS_n1 (hp : Okp pr) (xs : List View) (hl : xs.length ≤ 1048576) (ih : ∀ x ∈ xs,RetD pr 95 [View.enc x] (View.d x)) : RetD pr 48 [.sl (xs.map View.enc)] (.s 25 (xs.map View.d)):=by
 have hlen : (((xs.map View.enc).length : Nat) : Int).toNat = xs.length:=by simp
 refine retD_of hp rfl ?_
 have S : Sepa [] []:=Sepa.nil []
 conv=>whnf
 refine ⟨?_,?_⟩
 ·simp [sizeLim]; omega
 conv=>whnf
 intro k1 a1 hk1 hh1
 replace S:=S.alloc hk1 hh1
 rw [hlen] at S
 conv=>whnf
 refine loopG (fun m tm hp=>∃ (j : Nat) (vs : List AVal) (F : List Nat),j + m = xs.length ∧ tm 4 = i64 (j : Nat) ∧ Sepa hp [.dats ((xs.take j).map View.d) vs F,.row k1 (.arr 25 (vs ++ List.replicate (xs.length - j) zView))]) (fun m tm hq hfr hI=>?_) xs.length ⟨0,[],[],by simp,rfl,?_⟩
 rotate_left
 ·exact S.more (c:=.dats [] [] []) (List.prefix_refl _) (by show Owns _ _ _ _; simp [Owns]) (by simp [Chunk.dats]) (by simp [Chunk.dats])
 obtain ⟨j,vs,F,hj,e4,S2⟩:=hI
 clear S
 have S:=S2
 clear S2
 have k0:=hfr 0 (by kernel_rfl)
 conv at k0=>rhs; whnf
 rw [← upd_id k0]
 have k3:=hfr 3 (by kernel_rfl)
 conv at k3=>rhs; whnf
 rw [← upd_id k3,← upd_id e4]
 clear hfr k0 k3 e4
 have hvl : vs.length = j:=by
  have : Owns hq ((xs.take j).map View.d) vs F:=S.get 0 rfl
  rw [Owns_len this]; simp; omega
 conv=>whnf
 refine bsel_intro (fun h1=>?_) (fun h1=>?_)
 ·have hjl : j < xs.length:=by simpa using h1
  have hge : (xs.map View.enc)[((j : Nat) : Int).toNat]? = some (View.enc xs[j]):=by rw [Int.toNat_natCast]; simp [hjl]
  have hih:=ih xs[j] (List.getElem_mem hjl)
  have htk:=congrArg (List.map View.d) (take_snoc hjl)
  rw [List.map_append] at htk
  generalize xs[j] = q at hge hih htk
  obtain ⟨⟨⟨kind,n,test,cells,a,b,keys,agg,col,kids⟩,l,r,ks⟩,since,base,pasts⟩:=q
  conv=>whnf
  refine ⟨_,hge,by omega,rfl,?_⟩
  conv=>whnf
  refine callD S hih rfl rfl fun v q1 F2 ho S1=>?_
  replace S:=S1
  clear S1
  have ho0:=ho
  obtain ⟨vv9,rfl,hu9⟩:=Own_g.1 ho
  obtain ⟨uf,wf,Hf,Gf,rfl,rfl,hu,hw⟩:=OwnC_g.1 hu9
  obtain ⟨C,K,D,Fc,Fk,Fd,w1,G1,rfl,g1,g2,g3,rfl,ho1⟩:=OwnC_p.1 hu
  obtain ⟨u2,w2,H2,G2,rfl,rfl,ho2,ho3⟩:=OwnC_g.1 ho1
  obtain ⟨L,u3,H3,G3,rfl,rfl,gL,ho4⟩:=OwnC_s.1 ho2
  obtain ⟨rfl,rfl⟩:=OwnC_nil.1 ho4
  obtain ⟨u4,w4,H4,G4,rfl,rfl,ho5,ho6⟩:=OwnC_g.1 ho3
  obtain ⟨R,u5,H5,G5,rfl,rfl,gR,ho7⟩:=OwnC_s.1 ho5
  obtain ⟨rfl,rfl⟩:=OwnC_nil.1 ho7
  obtain ⟨KS,u6,H6,G6,rfl,rfl,gK,ho8⟩:=OwnC_s.1 ho6
  obtain ⟨rfl,rfl⟩:=OwnC_nil.1 ho8
  obtain ⟨w7,rfl,ho9⟩:=OwnC_i.1 hw
  obtain ⟨B,w8,H7,G7,rfl,rfl,gB,ho10⟩:=OwnC_s.1 ho9
  obtain ⟨PS,w9,H8,G8,rfl,rfl,gP,ho11⟩:=OwnC_s.1 ho10
  obtain ⟨rfl,rfl⟩:=OwnC_nil.1 ho11
  conv=>whnf
  refine ⟨_,S.row 2 rfl,⟨by omega,by rw [hlen]; omega⟩,?_⟩
  conv=>whnf
  refine ⟨_,rfl,rfl,allp g1.cell.2 g2.cell.2 g3.cell.2 (allc gL.cell.2 (allc gR.cell.2 (allc gK.cell.2 (allc (c:=i64 since) rfl (allc gB.cell.2 (allc gP.cell.2 rfl)))))),.inr ⟨_,_,zView,S.row 2 rfl,?_,?_⟩⟩
  ·rw [Int.toNat_natCast,Nat.zero_add]; exact plans_at hvl hjl
  conv=>whnf
  intro h5 hh5
  replace S:=S.set 2 rfl hh5
  dsimp only [List.set] at S
  conv=>whnf
  have hfill:=plans_fill (v:=.agg (pcells kind n test C a b K agg col D [L,R,KS,i64 since,B,PS])) (z:=zView) hvl hjl
  rw [Int.toNat_natCast,Nat.zero_add] at S
  have hS:=S.merge (e:=.dats (_ ++ _) (_ ++ _) (_ ++ _)) (Owns_append (S.get 1 rfl) (Owns_one (S.get 0 rfl))) (fun id hid=>(List.mem_append.1 hid).symm) S.nodup2
  exact ⟨m - 1,by omega,j + 1,vs ++ [.agg (pcells kind n test C a b K agg col D [L,R,KS,i64 since,B,PS])],_,by omega,nat_step j (by omega),by rw [← hfill,htk]; exact hS⟩
 ·have hje : j = xs.length:=by
   have : ¬ j < xs.length:=by simpa using h1
   omega
  subst hje
  conv=>whnf
  have e:=S.row 1 rfl
  rw [Nat.sub_self,List.replicate_zero,List.append_nil] at e
  have hps : Owns hq ((xs.take xs.length).map View.d) vs F:=S.get 0 rfl
  rw [List.take_length] at hps
  refine ⟨_,rfl,_,_,k1 :: F,rfl,?_,List.nodup_cons.2 ⟨fun hm=>S.apart 0 1 _ _ (by omega) rfl rfl k1 hm (by simp [Chunk.row]),(S.get' 0 _ rfl).2⟩⟩
  simp only [Own]
  refine .inr ⟨k1,vs,F,?_,e,hps,rfl⟩
  refine Eq.trans (b:=AVal.own k1 0 (((xs.map View.enc).length : Nat) : Int).toNat) (by kernel_rfl) (by rw [hlen,List.length_map])
theorem toViewS_n (hp : Okp pr) (xs : List View) (h : (Dat.s 25 (xs.map View.d)).tot ≤ 1048576) : RetD pr 48 [.sl (xs.map View.enc)] (.s 25 (xs.map View.d)):=by
 simp only [Dat.tot,List.length_map] at h
 exact toViewS_n1 hp xs (by omega) fun x hx=>toView_n hp x (by have:=tots_map (f:=View.d) hx; omega)
theorem toStore_n (hp : Okp pr) (x : Store) (h : x.d.tot ≤ 1048576) : RetD pr 14 [x.enc] x.d:=by
 obtain ⟨ws,ts,vs,now,keep⟩:=x
 simp only [Store.d,Dat.tot,Dat.tots,Ints.d,List.length_map] at h
 have hw:=RetL.toD (toIntS_n hp ws (by omega))
 have ht:=toItemSS_n hp ts (by omega)
 have hv:=toViewS_n hp vs (by simp only [Dat.tot,List.length_map]; omega)
 clear h
 refine retD_of hp rfl ?_
 have S : Sepa [] []:=Sepa.nil []
 iterate 3
  all_goals (try (conv=>whnf))
  all_goals (first | (intro ka_ ha_ hk_ hh_; replace S:=S.alloc hk_ hh_) | (refine .inl ⟨_,S.row 0 rfl,rfl,?_⟩) | (refine .inl ⟨_,S.row 1 rfl,rfl,?_⟩) | (refine .inl ⟨_,S.row 2 rfl,rfl,?_⟩) | (refine .inl ⟨_,S.row 3 rfl,rfl,?_⟩) | (refine .inl ⟨_,S.row 4 rfl,rfl,?_⟩) | (refine .inl ⟨_,S.row 5 rfl,rfl,?_⟩) | (refine .inl ⟨_,S.row 6 rfl,rfl,?_⟩) | (refine .inl ⟨_,S.row 7 rfl,rfl,?_⟩) | (refine .inl ⟨_,S.row 8 rfl,rfl,?_⟩) | (refine ⟨_,rfl,rfl,rfl,.inl ⟨_,S.row 0 rfl,rfl,?_⟩⟩; (conv=>whnf); intro ha_ hh_; replace S:=S.set 0 rfl hh_; dsimp only [List.set] at S) | (refine ⟨_,rfl,rfl,rfl,.inl ⟨_,S.row 1 rfl,rfl,?_⟩⟩; (conv=>whnf); intro ha_ hh_; replace S:=S.set 1 rfl hh_; dsimp only [List.set] at S) | (refine ⟨_,rfl,rfl,rfl,.inl ⟨_,S.row 2 rfl,rfl,?_⟩⟩; (conv=>whnf); intro ha_ hh_; replace S:=S.set 2 rfl hh_; dsimp only [List.set] at S) | (refine ⟨_,rfl,rfl,rfl,.inl ⟨_,S.row 3 rfl,rfl,?_⟩⟩; (conv=>whnf); intro ha_ hh_; replace S:=S.set 3 rfl hh_; dsimp only [List.set] at S) | (refine ⟨_,rfl,rfl,rfl,.inl ⟨_,S.row 4 rfl,rfl,?_⟩⟩; (conv=>whnf); intro ha_ hh_; replace S:=S.set 4 rfl hh_; dsimp only [List.set] at S) | (refine ⟨_,rfl,rfl,rfl,.inl ⟨_,S.row 5 rfl,rfl,?_⟩⟩; (conv=>whnf); intro ha_ hh_; replace S:=S.set 5 rfl hh_; dsimp only [List.set] at S) | (refine ⟨_,rfl,rfl,rfl,.inl ⟨_,S.row 6 rfl,rfl,?_⟩⟩; (conv=>whnf); intro ha_ hh_; replace S:=S.set 6 rfl hh_; dsimp only [List.set] at S) | (refine ⟨_,rfl,rfl,rfl,.inl ⟨_,S.row 7 rfl,rfl,?_⟩⟩; (conv=>whnf); intro ha_ hh_; replace S:=S.set 7 rfl hh_; dsimp only [List.set] at S) | (refine ⟨_,rfl,rfl,rfl,.inl ⟨_,S.row 8 rfl,rfl,?_⟩⟩; (conv=>whnf); intro ha_ hh_; replace S:=S.set 8 rfl hh_; dsimp only [List.set] at S) | (refine bsel_intro (fun hb=>?_) (fun hb=>?_)) | skip)
 iterate 1
  all_goals (try (conv=>whnf))
  all_goals (first | (intro ka_ ha_ hk_ hh_; replace S:=S.alloc hk_ hh_) | (refine .inl ⟨_,S.row 0 rfl,rfl,?_⟩) | (refine .inl ⟨_,S.row 1 rfl,rfl,?_⟩) | (refine .inl ⟨_,S.row 2 rfl,rfl,?_⟩) | (refine .inl ⟨_,S.row 3 rfl,rfl,?_⟩) | (refine .inl ⟨_,S.row 4 rfl,rfl,?_⟩) | (refine .inl ⟨_,S.row 5 rfl,rfl,?_⟩) | (refine .inl ⟨_,S.row 6 rfl,rfl,?_⟩) | (refine .inl ⟨_,S.row 7 rfl,rfl,?_⟩) | (refine .inl ⟨_,S.row 8 rfl,rfl,?_⟩) | (refine ⟨_,rfl,rfl,rfl,.inl ⟨_,S.row 0 rfl,rfl,?_⟩⟩; (conv=>whnf); intro ha_ hh_; replace S:=S.set 0 rfl hh_; dsimp only [List.set] at S) | (refine ⟨_,rfl,rfl,rfl,.inl ⟨_,S.row 1 rfl,rfl,?_⟩⟩; (conv=>whnf); intro ha_ hh_; replace S:=S.set 1 rfl hh_; dsimp only [List.set] at S) | (refine ⟨_,rfl,rfl,rfl,.inl ⟨_,S.row 2 rfl,rfl,?_⟩⟩; (conv=>whnf); intro ha_ hh_; replace S:=S.set 2 rfl hh_; dsimp only [List.set] at S) | (refine ⟨_,rfl,rfl,rfl,.inl ⟨_,S.row 3 rfl,rfl,?_⟩⟩; (conv=>whnf); intro ha_ hh_; replace S:=S.set 3 rfl hh_; dsimp only [List.set] at S) | (refine ⟨_,rfl,rfl,rfl,.inl ⟨_,S.row 4 rfl,rfl,?_⟩⟩; (conv=>whnf); intro ha_ hh_; replace S:=S.set 4 rfl hh_; dsimp only [List.set] at S) | (refine ⟨_,rfl,rfl,rfl,.inl ⟨_,S.row 5 rfl,rfl,?_⟩⟩; (conv=>whnf); intro ha_ hh_; replace S:=S.set 5 rfl hh_; dsimp only [List.set] at S) | (refine ⟨_,rfl,rfl,rfl,.inl ⟨_,S.row 6 rfl,rfl,?_⟩⟩; (conv=>whnf); intro ha_ hh_; replace S:=S.set 6 rfl hh_; dsimp only [List.set] at S) | (refine ⟨_,rfl,rfl,rfl,.inl ⟨_,S.row 7 rfl,rfl,?_⟩⟩; (conv=>whnf); intro ha_ hh_; replace S:=S.set 7 rfl hh_; dsimp only [List.set] at S) | (refine ⟨_,rfl,rfl,rfl,.inl ⟨_,S.row 8 rfl,rfl,?_⟩⟩; (conv=>whnf); intro ha_ hh_; replace S:=S.set 8 rfl hh_; dsimp only [List.set] at S) | (refine bsel_intro (fun hb=>?_) (fun hb=>?_)) | skip)
 conv=>whnf
 refine callD S hw rfl rfl fun A q1 F1 o1 S1=>?_
 replace S:=S1
 clear S1
 conv=>whnf
 refine ⟨[A],o1.cell.1,rfl,(all1 o1.cell.2),.inl ⟨_,S.row 1 rfl,rfl,?_⟩⟩
 conv=>whnf
 intro a1 hh_a1
 replace S:=S.set 1 rfl hh_a1
 dsimp only [List.set] at S
 conv=>whnf
 iterate 1
  all_goals (try (conv=>whnf))
  all_goals (first | (intro ka_ ha_ hk_ hh_; replace S:=S.alloc hk_ hh_) | (refine .inl ⟨_,S.row 0 rfl,rfl,?_⟩) | (refine .inl ⟨_,S.row 1 rfl,rfl,?_⟩) | (refine .inl ⟨_,S.row 2 rfl,rfl,?_⟩) | (refine .inl ⟨_,S.row 3 rfl,rfl,?_⟩) | (refine .inl ⟨_,S.row 4 rfl,rfl,?_⟩) | (refine .inl ⟨_,S.row 5 rfl,rfl,?_⟩) | (refine .inl ⟨_,S.row 6 rfl,rfl,?_⟩) | (refine .inl ⟨_,S.row 7 rfl,rfl,?_⟩) | (refine .inl ⟨_,S.row 8 rfl,rfl,?_⟩) | (refine ⟨_,rfl,rfl,rfl,.inl ⟨_,S.row 0 rfl,rfl,?_⟩⟩; (conv=>whnf); intro ha_ hh_; replace S:=S.set 0 rfl hh_; dsimp only [List.set] at S) | (refine ⟨_,rfl,rfl,rfl,.inl ⟨_,S.row 1 rfl,rfl,?_⟩⟩; (conv=>whnf); intro ha_ hh_; replace S:=S.set 1 rfl hh_; dsimp only [List.set] at S) | (refine ⟨_,rfl,rfl,rfl,.inl ⟨_,S.row 2 rfl,rfl,?_⟩⟩; (conv=>whnf); intro ha_ hh_; replace S:=S.set 2 rfl hh_; dsimp only [List.set] at S) | (refine ⟨_,rfl,rfl,rfl,.inl ⟨_,S.row 3 rfl,rfl,?_⟩⟩; (conv=>whnf); intro ha_ hh_; replace S:=S.set 3 rfl hh_; dsimp only [List.set] at S) | (refine ⟨_,rfl,rfl,rfl,.inl ⟨_,S.row 4 rfl,rfl,?_⟩⟩; (conv=>whnf); intro ha_ hh_; replace S:=S.set 4 rfl hh_; dsimp only [List.set] at S) | (refine ⟨_,rfl,rfl,rfl,.inl ⟨_,S.row 5 rfl,rfl,?_⟩⟩; (conv=>whnf); intro ha_ hh_; replace S:=S.set 5 rfl hh_; dsimp only [List.set] at S) | (refine ⟨_,rfl,rfl,rfl,.inl ⟨_,S.row 6 rfl,rfl,?_⟩⟩; (conv=>whnf); intro ha_ hh_; replace S:=S.set 6 rfl hh_; dsimp only [List.set] at S) | (refine ⟨_,rfl,rfl,rfl,.inl ⟨_,S.row 7 rfl,rfl,?_⟩⟩; (conv=>whnf); intro ha_ hh_; replace S:=S.set 7 rfl hh_; dsimp only [List.set] at S) | (refine ⟨_,rfl,rfl,rfl,.inl ⟨_,S.row 8 rfl,rfl,?_⟩⟩; (conv=>whnf); intro ha_ hh_; replace S:=S.set 8 rfl hh_; dsimp only [List.set] at S) | (refine bsel_intro (fun hb=>?_) (fun hb=>?_)) | skip)
 conv=>whnf
 refine callD S ht rfl rfl fun B q2 F2 o2 S1=>?_
 replace S:=S1
 clear S1
 conv=>whnf
 refine ⟨[B],o2.cell.1,rfl,(all1 o2.cell.2),.inl ⟨_,S.row 2 rfl,rfl,?_⟩⟩
 conv=>whnf
 intro a2 hh_a2
 replace S:=S.set 2 rfl hh_a2
 dsimp only [List.set] at S
 conv=>whnf
 iterate 1
  all_goals (try (conv=>whnf))
  all_goals (first | (intro ka_ ha_ hk_ hh_; replace S:=S.alloc hk_ hh_) | (refine .inl ⟨_,S.row 0 rfl,rfl,?_⟩) | (refine .inl ⟨_,S.row 1 rfl,rfl,?_⟩) | (refine .inl ⟨_,S.row 2 rfl,rfl,?_⟩) | (refine .inl ⟨_,S.row 3 rfl,rfl,?_⟩) | (refine .inl ⟨_,S.row 4 rfl,rfl,?_⟩) | (refine .inl ⟨_,S.row 5 rfl,rfl,?_⟩) | (refine .inl ⟨_,S.row 6 rfl,rfl,?_⟩) | (refine .inl ⟨_,S.row 7 rfl,rfl,?_⟩) | (refine .inl ⟨_,S.row 8 rfl,rfl,?_⟩) | (refine ⟨_,rfl,rfl,rfl,.inl ⟨_,S.row 0 rfl,rfl,?_⟩⟩; (conv=>whnf); intro ha_ hh_; replace S:=S.set 0 rfl hh_; dsimp only [List.set] at S) | (refine ⟨_,rfl,rfl,rfl,.inl ⟨_,S.row 1 rfl,rfl,?_⟩⟩; (conv=>whnf); intro ha_ hh_; replace S:=S.set 1 rfl hh_; dsimp only [List.set] at S) | (refine ⟨_,rfl,rfl,rfl,.inl ⟨_,S.row 2 rfl,rfl,?_⟩⟩; (conv=>whnf); intro ha_ hh_; replace S:=S.set 2 rfl hh_; dsimp only [List.set] at S) | (refine ⟨_,rfl,rfl,rfl,.inl ⟨_,S.row 3 rfl,rfl,?_⟩⟩; (conv=>whnf); intro ha_ hh_; replace S:=S.set 3 rfl hh_; dsimp only [List.set] at S) | (refine ⟨_,rfl,rfl,rfl,.inl ⟨_,S.row 4 rfl,rfl,?_⟩⟩; (conv=>whnf); intro ha_ hh_; replace S:=S.set 4 rfl hh_; dsimp only [List.set] at S) | (refine ⟨_,rfl,rfl,rfl,.inl ⟨_,S.row 5 rfl,rfl,?_⟩⟩; (conv=>whnf); intro ha_ hh_; replace S:=S.set 5 rfl hh_; dsimp only [List.set] at S) | (refine ⟨_,rfl,rfl,rfl,.inl ⟨_,S.row 6 rfl,rfl,?_⟩⟩; (conv=>whnf); intro ha_ hh_; replace S:=S.set 6 rfl hh_; dsimp only [List.set] at S) | (refine ⟨_,rfl,rfl,rfl,.inl ⟨_,S.row 7 rfl,rfl,?_⟩⟩; (conv=>whnf); intro ha_ hh_; replace S:=S.set 7 rfl hh_; dsimp only [List.set] at S) | (refine ⟨_,rfl,rfl,rfl,.inl ⟨_,S.row 8 rfl,rfl,?_⟩⟩; (conv=>whnf); intro ha_ hh_; replace S:=S.set 8 rfl hh_; dsimp only [List.set] at S) | (refine bsel_intro (fun hb=>?_) (fun hb=>?_)) | skip)
 conv=>whnf
 refine callD S hv rfl rfl fun C q3 F3 o3 S1=>?_
 replace S:=S1
 clear S1
 conv=>whnf
 refine ⟨[C],o3.cell.1,rfl,(all1 o3.cell.2),.inl ⟨_,S.row 3 rfl,rfl,?_⟩⟩
 conv=>whnf
 intro a3 hh_a3
 replace S:=S.set 3 rfl hh_a3
 dsimp only [List.set] at S
 conv=>whnf
 iterate 2
  all_goals (try (conv=>whnf))
  all_goals (first | (intro ka_ ha_ hk_ hh_; replace S:=S.alloc hk_ hh_) | (refine .inl ⟨_,S.row 0 rfl,rfl,?_⟩) | (refine .inl ⟨_,S.row 1 rfl,rfl,?_⟩) | (refine .inl ⟨_,S.row 2 rfl,rfl,?_⟩) | (refine .inl ⟨_,S.row 3 rfl,rfl,?_⟩) | (refine .inl ⟨_,S.row 4 rfl,rfl,?_⟩) | (refine .inl ⟨_,S.row 5 rfl,rfl,?_⟩) | (refine .inl ⟨_,S.row 6 rfl,rfl,?_⟩) | (refine .inl ⟨_,S.row 7 rfl,rfl,?_⟩) | (refine .inl ⟨_,S.row 8 rfl,rfl,?_⟩) | (refine ⟨_,rfl,rfl,rfl,.inl ⟨_,S.row 0 rfl,rfl,?_⟩⟩; (conv=>whnf); intro ha_ hh_; replace S:=S.set 0 rfl hh_; dsimp only [List.set] at S) | (refine ⟨_,rfl,rfl,rfl,.inl ⟨_,S.row 1 rfl,rfl,?_⟩⟩; (conv=>whnf); intro ha_ hh_; replace S:=S.set 1 rfl hh_; dsimp only [List.set] at S) | (refine ⟨_,rfl,rfl,rfl,.inl ⟨_,S.row 2 rfl,rfl,?_⟩⟩; (conv=>whnf); intro ha_ hh_; replace S:=S.set 2 rfl hh_; dsimp only [List.set] at S) | (refine ⟨_,rfl,rfl,rfl,.inl ⟨_,S.row 3 rfl,rfl,?_⟩⟩; (conv=>whnf); intro ha_ hh_; replace S:=S.set 3 rfl hh_; dsimp only [List.set] at S) | (refine ⟨_,rfl,rfl,rfl,.inl ⟨_,S.row 4 rfl,rfl,?_⟩⟩; (conv=>whnf); intro ha_ hh_; replace S:=S.set 4 rfl hh_; dsimp only [List.set] at S) | (refine ⟨_,rfl,rfl,rfl,.inl ⟨_,S.row 5 rfl,rfl,?_⟩⟩; (conv=>whnf); intro ha_ hh_; replace S:=S.set 5 rfl hh_; dsimp only [List.set] at S) | (refine ⟨_,rfl,rfl,rfl,.inl ⟨_,S.row 6 rfl,rfl,?_⟩⟩; (conv=>whnf); intro ha_ hh_; replace S:=S.set 6 rfl hh_; dsimp only [List.set] at S) | (refine ⟨_,rfl,rfl,rfl,.inl ⟨_,S.row 7 rfl,rfl,?_⟩⟩; (conv=>whnf); intro ha_ hh_; replace S:=S.set 7 rfl hh_; dsimp only [List.set] at S) | (refine ⟨_,rfl,rfl,rfl,.inl ⟨_,S.row 8 rfl,rfl,?_⟩⟩; (conv=>whnf); intro ha_ hh_; replace S:=S.set 8 rfl hh_; dsimp only [List.set] at S) | (refine bsel_intro (fun hb=>?_) (fun hb=>?_)) | skip)
 iterate 2
  all_goals (try (conv=>whnf))
  all_goals (first | (intro ka_ ha_ hk_ hh_; replace S:=S.alloc hk_ hh_) | (refine .inl ⟨_,S.row 0 rfl,rfl,?_⟩) | (refine .inl ⟨_,S.row 1 rfl,rfl,?_⟩) | (refine .inl ⟨_,S.row 2 rfl,rfl,?_⟩) | (refine .inl ⟨_,S.row 3 rfl,rfl,?_⟩) | (refine .inl ⟨_,S.row 4 rfl,rfl,?_⟩) | (refine .inl ⟨_,S.row 5 rfl,rfl,?_⟩) | (refine .inl ⟨_,S.row 6 rfl,rfl,?_⟩) | (refine .inl ⟨_,S.row 7 rfl,rfl,?_⟩) | (refine .inl ⟨_,S.row 8 rfl,rfl,?_⟩) | (refine ⟨_,rfl,rfl,rfl,.inl ⟨_,S.row 0 rfl,rfl,?_⟩⟩; (conv=>whnf); intro ha_ hh_; replace S:=S.set 0 rfl hh_; dsimp only [List.set] at S) | (refine ⟨_,rfl,rfl,rfl,.inl ⟨_,S.row 1 rfl,rfl,?_⟩⟩; (conv=>whnf); intro ha_ hh_; replace S:=S.set 1 rfl hh_; dsimp only [List.set] at S) | (refine ⟨_,rfl,rfl,rfl,.inl ⟨_,S.row 2 rfl,rfl,?_⟩⟩; (conv=>whnf); intro ha_ hh_; replace S:=S.set 2 rfl hh_; dsimp only [List.set] at S) | (refine ⟨_,rfl,rfl,rfl,.inl ⟨_,S.row 3 rfl,rfl,?_⟩⟩; (conv=>whnf); intro ha_ hh_; replace S:=S.set 3 rfl hh_; dsimp only [List.set] at S) | (refine ⟨_,rfl,rfl,rfl,.inl ⟨_,S.row 4 rfl,rfl,?_⟩⟩; (conv=>whnf); intro ha_ hh_; replace S:=S.set 4 rfl hh_; dsimp only [List.set] at S) | (refine ⟨_,rfl,rfl,rfl,.inl ⟨_,S.row 5 rfl,rfl,?_⟩⟩; (conv=>whnf); intro ha_ hh_; replace S:=S.set 5 rfl hh_; dsimp only [List.set] at S) | (refine ⟨_,rfl,rfl,rfl,.inl ⟨_,S.row 6 rfl,rfl,?_⟩⟩; (conv=>whnf); intro ha_ hh_; replace S:=S.set 6 rfl hh_; dsimp only [List.set] at S) | (refine ⟨_,rfl,rfl,rfl,.inl ⟨_,S.row 7 rfl,rfl,?_⟩⟩; (conv=>whnf); intro ha_ hh_; replace S:=S.set 7 rfl hh_; dsimp only [List.set] at S) | (refine ⟨_,rfl,rfl,rfl,.inl ⟨_,S.row 8 rfl,rfl,?_⟩⟩; (conv=>whnf); intro ha_ hh_; replace S:=S.set 8 rfl hh_; dsimp only [List.set] at S) | (refine bsel_intro (fun hb=>?_) (fun hb=>?_)) | skip)
 iterate 1
  all_goals (try (conv=>whnf))
  all_goals (first | (intro ka_ ha_ hk_ hh_; replace S:=S.alloc hk_ hh_) | (refine .inl ⟨_,S.row 0 rfl,rfl,?_⟩) | (refine .inl ⟨_,S.row 1 rfl,rfl,?_⟩) | (refine .inl ⟨_,S.row 2 rfl,rfl,?_⟩) | (refine .inl ⟨_,S.row 3 rfl,rfl,?_⟩) | (refine .inl ⟨_,S.row 4 rfl,rfl,?_⟩) | (refine .inl ⟨_,S.row 5 rfl,rfl,?_⟩) | (refine .inl ⟨_,S.row 6 rfl,rfl,?_⟩) | (refine .inl ⟨_,S.row 7 rfl,rfl,?_⟩) | (refine .inl ⟨_,S.row 8 rfl,rfl,?_⟩) | (refine ⟨_,rfl,rfl,rfl,.inl ⟨_,S.row 0 rfl,rfl,?_⟩⟩; (conv=>whnf); intro ha_ hh_; replace S:=S.set 0 rfl hh_; dsimp only [List.set] at S) | (refine ⟨_,rfl,rfl,rfl,.inl ⟨_,S.row 1 rfl,rfl,?_⟩⟩; (conv=>whnf); intro ha_ hh_; replace S:=S.set 1 rfl hh_; dsimp only [List.set] at S) | (refine ⟨_,rfl,rfl,rfl,.inl ⟨_,S.row 2 rfl,rfl,?_⟩⟩; (conv=>whnf); intro ha_ hh_; replace S:=S.set 2 rfl hh_; dsimp only [List.set] at S) | (refine ⟨_,rfl,rfl,rfl,.inl ⟨_,S.row 3 rfl,rfl,?_⟩⟩; (conv=>whnf); intro ha_ hh_; replace S:=S.set 3 rfl hh_; dsimp only [List.set] at S) | (refine ⟨_,rfl,rfl,rfl,.inl ⟨_,S.row 4 rfl,rfl,?_⟩⟩; (conv=>whnf); intro ha_ hh_; replace S:=S.set 4 rfl hh_; dsimp only [List.set] at S) | (refine ⟨_,rfl,rfl,rfl,.inl ⟨_,S.row 5 rfl,rfl,?_⟩⟩; (conv=>whnf); intro ha_ hh_; replace S:=S.set 5 rfl hh_; dsimp only [List.set] at S) | (refine ⟨_,rfl,rfl,rfl,.inl ⟨_,S.row 6 rfl,rfl,?_⟩⟩; (conv=>whnf); intro ha_ hh_; replace S:=S.set 6 rfl hh_; dsimp only [List.set] at S) | (refine ⟨_,rfl,rfl,rfl,.inl ⟨_,S.row 7 rfl,rfl,?_⟩⟩; (conv=>whnf); intro ha_ hh_; replace S:=S.set 7 rfl hh_; dsimp only [List.set] at S) | (refine ⟨_,rfl,rfl,rfl,.inl ⟨_,S.row 8 rfl,rfl,?_⟩⟩; (conv=>whnf); intro ha_ hh_; replace S:=S.set 8 rfl hh_; dsimp only [List.set] at S) | (refine bsel_intro (fun hb=>?_) (fun hb=>?_)) | skip)
 conv=>whnf
 refine ⟨[A,B,C,i64 now,i64 keep],(by kernel_rfl),rfl,(allc o1.cell.2 (allc o2.cell.2 (allc o3.cell.2 rfl))),.inl ⟨_,S.row 4 rfl,rfl,?_⟩⟩
 conv=>whnf
 intro aa hh_aa
 replace S:=S.set 4 rfl hh_aa
 dsimp only [List.set] at S
 conv=>whnf
 replace S:=S.pick [4,2,1,0] (by decide)
 simp only [pickL,List.getElem?_cons_zero,List.getElem?_cons_succ] at S
 refine fin_dat (vs:=[A,B,C,i64 now,i64 keep]) rfl rfl (S.row 0 rfl) (by kernel_rfl) (OwnC_one (S.get 1 rfl) (OwnC_one (S.get 2 rfl) (OwnC_one (S.get 3 rfl) (OwnC_int (OwnC_int OwnC_no))))) (S.drop 0).nodupAll
end Go.Proofs.YtncgofhhnhebjaaGreat

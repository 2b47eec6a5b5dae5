/- How wide parts are; their shape. -/
import Derived.Test.YtncgofhhnhebjaaGreatGSDi
import Derived.Test.YtncgofhhnhebjaaGreatGH17
import Derived.Test.YtncgofhhnhebjaaGreatGH16
set_option linter.unusedVariables false
set_option linter.unusedSimpArgs false
/- Marks in stores. -/
set_option maxHeartbeats 4000000
namespace Go.Proofs.YtncgofhhnhebjaaGreat
open Go Go.Am
variable {pr : Prims} (hp : Okp pr)
set_option maxRecDepth 100000
theorem Sepa.store {h : Heap} {Q : List Chunk} {wides : List Int} {tables : List (List Item)} {views : List View} {now keep : Int} {v : AVal} {F : List Nat} (S : Sepa h (.dat (Store.mk wides tables views now keep).d v F :: Q)) :
  ∃ W T V F1 F2 F3,v = .agg [W,T,V,i64 now,i64 keep] ∧ Sepa h (.dat (Ints.d wides) W F1 :: .dat (Runs.d tables) T F2 :: .dat (.s 25 (views.map View.d)) V F3 :: Q):=by
   have ho : Own h _ v F:=S.get 0 rfl
   obtain ⟨vv,rfl,hu⟩:=Own_g.1 ho
   obtain ⟨W,u1,H1,G1,rfl,rfl,g1,h2⟩:=OwnC_s.1 hu
   obtain ⟨T,u2,H2,G2,rfl,rfl,g2,h3⟩:=OwnC_s.1 h2
   obtain ⟨V,u3,H3,G3,rfl,rfl,g3,h4⟩:=OwnC_s.1 h3
   obtain ⟨w4,rfl,h5⟩:=OwnC_i.1 h4
   obtain ⟨w5,rfl,h6⟩:=OwnC_i.1 h5
   obtain ⟨rfl,rfl⟩:=OwnC_nil.1 h6
   refine ⟨W,T,V,H1,H2,H3,rfl,S.cuts [.dat (Ints.d wides) W H1,.dat (Runs.d tables) T H2,.dat (.s 25 (views.map View.d)) V H3] (by simp [Chunk.dat]) ?_⟩
   intro d hd
   simp only [List.mem_cons,List.not_mem_nil,or_false] at hd
   rcases hd with rfl | rfl | rfl
   ·exact g1
   ·exact g2
   ·exact g3
theorem markStore_t (hp : Okp pr) (s : Store) : MarkT pr 17 s.d:=by
 intro v F h L k S h0 hb
 have htot : s.d.tot = s.wides.length + (Runs.d s.tables).tot + (Dat.s 25 (s.views.map View.d)).tot:=by
  simp only [Store.d,Ints.d,Dat.tot,Dat.tots,List.length_map,tot_ints]
  omega
 rw [htot] at hb ⊢
 clear htot
 obtain ⟨wides,tables,views,now,keep⟩:=s
 simp only at hb ⊢
 have tr : (Dat.s 1 (tables.map Items.d)).tot = (Runs.d tables).tot:=rfl
 rw [callF rfl]
 suffices hw : wpFG (cfp pr) 17 [v,i64 k] h (fun r=>∃ h' k',r = .ret (i64 k') h' ∧ k ≤ k' ∧ k' ≤ k + 64 * ((wides.length + (Runs.d tables).tot + (Dat.s 25 (views.map View.d)).tot : Nat) : Int) ∧ Sepa h' L) by
  obtain ⟨r,hr,h',k',rfl,h1⟩:=wpFG_sound (hp.out _ rfl) hw
  exact ⟨h',k',hr,h1⟩
 obtain ⟨W,T,V,F1,F2,F3,rfl,S1⟩:=Sepa.store S
 clear S
 have S:=S1
 clear S1
 conv=>whnf
 intro k0 a0 hk0 hh0
 replace S:=S.alloc hk0 hh0
 conv=>whnf
 refine .inl ⟨_,S.row 0 rfl,rfl,?_⟩
 conv=>whnf
 replace S:=S.swap
 obtain ⟨q1,hc1,S1⟩:=markInts_t hp wides S h0 (by omega)
 refine ⟨_,hc1,?_⟩
 clear S hc1
 have S:=S1.drop 0
 dsimp only [List.eraseIdx] at S
 clear S1
 conv=>whnf
 refine .inl ⟨_,S.row 0 rfl,rfl,?_⟩
 conv=>whnf
 replace S:=S.swap
 have hA : 0 ≤ k + (wides.length : Int):=by omega
 have hB : k + (wides.length : Int) + 64 * ((Runs.d tables).tot : Int) ≤ 1152921504606846976:=by omega
 obtain ⟨q2,k2,hc2,b2,b2',S2⟩:=markRuns_t hp tables _ _ _ _ (k + (wides.length : Int)) S hA hB
 refine ⟨_,hc2,?_⟩
 clear S hc2
 have S:=S2
 clear S2
 conv=>whnf
 refine .inl ⟨_,S.row 0 rfl,rfl,?_⟩
 conv=>whnf
 replace S:=S.swap
 have hA2 : 0 ≤ k2:=by omega
 have hB2 : k2 + 64 * ((Dat.s 25 (views.map View.d)).tot : Int) ≤ 1152921504606846976:=by omega
 obtain ⟨q3,k3,hc3,b3,b3',S3⟩:=markViewS_t hp views _ _ _ _ k2 S hA2 hB2
 refine ⟨_,hc3,?_⟩
 clear S hc3
 conv=>whnf
 exact ⟨_,rfl,q3,k3,rfl,by omega,by omega,S3.drop 0⟩
end Go.Proofs.YtncgofhhnhebjaaGreat
/- The kinds of parts: their kids, what is theirs, how wide. -/
set_option maxHeartbeats 4000000
namespace Go.Proofs.YtncgofhhnhebjaaGreat
open Go Go.Am
variable {pr : Prims} (hp : Okp pr)
set_option maxRecDepth 100000
def partT (k : Nat) : AVal:=.iface k (.agg [])
def partsV : AVal:=.cmap [i64 1,i64 2,i64 3,i64 4,i64 5,i64 6,i64 7]
 [partT 174,partT 175,partT 176,partT 177,partT 178,partT 179,partT 180]
theorem parts_r (hp : Okp pr) : Ret pr 87 [] partsV:=by
 refine ret_of hp rfl rfl ?_
 conv=>whnf
 exact ⟨_,_,rfl,rfl⟩
theorem tableKids_r (hp : Okp pr) : Ret pr 247 [.agg []] (i64 0):=by
 refine ret_of hp rfl rfl ?_
 conv=>whnf
 exact fin_int rfl
theorem whereKids_r (hp : Okp pr) : Ret pr 252 [.agg []] (i64 1):=by
 refine ret_of hp rfl rfl ?_
 conv=>whnf
 exact fin_int rfl
theorem mapKids_r (hp : Okp pr) : Ret pr 260 [.agg []] (i64 1):=by
 refine ret_of hp rfl rfl ?_
 conv=>whnf
 exact fin_int rfl
theorem joinKids_r (hp : Okp pr) : Ret pr 268 [.agg []] (i64 2):=by
 refine ret_of hp rfl rfl ?_
 conv=>whnf
 exact fin_int rfl
theorem bothKids_r (hp : Okp pr) : Ret pr 274 [.agg []] (i64 2):=by
 refine ret_of hp rfl rfl ?_
 conv=>whnf
 exact fin_int rfl
theorem onceKids_r (hp : Okp pr) : Ret pr 279 [.agg []] (i64 1):=by
 refine ret_of hp rfl rfl ?_
 conv=>whnf
 exact fin_int rfl
theorem groupKids_r (hp : Okp pr) : Ret pr 284 [.agg []] (i64 1):=by
 refine ret_of hp rfl rfl ?_
 conv=>whnf
 exact fin_int rfl
def zT : Test:=⟨0,false,⟨0,0,0,0⟩,⟨0,0,0,0⟩⟩
def only : Plan → Plan
 | .mk kind n test cells a b keys agg c _=>
  .mk kind (if kind = 1 then n else 0) (if kind = 2 then test else zT) (if kind = 3 then cells else []) (if kind = 4 then a else 0) (if kind = 4 then b else 0) (if kind = 7 then keys else []) (if kind = 7 then agg else 0) (if kind = 7 then c else 0) []
theorem tableOnly_r (hp : Okp pr) (n : Int) (test : Test) (cells : List Cell) (a b : Int) (keys : List Int) (agg c : Int) (kids : List Plan) : Ret pr 248 [.agg [],(Plan.mk 1 n test cells a b keys agg c kids).enc] (only (Plan.mk 1 n test cells a b keys agg c kids)).enc:=by
 refine ret_of hp rfl rfl ?_
 conv=>whnf
 exact ⟨_,_,rfl,rfl⟩
theorem whereOnly_r (hp : Okp pr) (n : Int) (test : Test) (cells : List Cell) (a b : Int) (keys : List Int) (agg c : Int) (kids : List Plan) : Ret pr 253 [.agg [],(Plan.mk 2 n test cells a b keys agg c kids).enc] (only (Plan.mk 2 n test cells a b keys agg c kids)).enc:=by
 refine ret_of hp rfl rfl ?_
 conv=>whnf
 exact ⟨_,_,rfl,rfl⟩
theorem mapOnly_r (hp : Okp pr) (n : Int) (test : Test) (cells : List Cell) (a b : Int) (keys : List Int) (agg c : Int) (kids : List Plan) : Ret pr 261 [.agg [],(Plan.mk 3 n test cells a b keys agg c kids).enc] (only (Plan.mk 3 n test cells a b keys agg c kids)).enc:=by
 refine ret_of hp rfl rfl ?_
 conv=>whnf
 exact ⟨_,_,rfl,rfl⟩
theorem joinOnly_r (hp : Okp pr) (n : Int) (test : Test) (cells : List Cell) (a b : Int) (keys : List Int) (agg c : Int) (kids : List Plan) : Ret pr 269 [.agg [],(Plan.mk 4 n test cells a b keys agg c kids).enc] (only (Plan.mk 4 n test cells a b keys agg c kids)).enc:=by
 refine ret_of hp rfl rfl ?_
 conv=>whnf
 exact ⟨_,_,rfl,rfl⟩
theorem bothOnly_r (hp : Okp pr) (n : Int) (test : Test) (cells : List Cell) (a b : Int) (keys : List Int) (agg c : Int) (kids : List Plan) : Ret pr 275 [.agg [],(Plan.mk 5 n test cells a b keys agg c kids).enc] (only (Plan.mk 5 n test cells a b keys agg c kids)).enc:=by
 refine ret_of hp rfl rfl ?_
 conv=>whnf
 exact ⟨_,_,rfl,rfl⟩
theorem onceOnly_r (hp : Okp pr) (n : Int) (test : Test) (cells : List Cell) (a b : Int) (keys : List Int) (agg c : Int) (kids : List Plan) : Ret pr 280 [.agg [],(Plan.mk 6 n test cells a b keys agg c kids).enc] (only (Plan.mk 6 n test cells a b keys agg c kids)).enc:=by
 refine ret_of hp rfl rfl ?_
 conv=>whnf
 exact ⟨_,_,rfl,rfl⟩
theorem groupOnly_r (hp : Okp pr) (n : Int) (test : Test) (cells : List Cell) (a b : Int) (keys : List Int) (agg c : Int) (kids : List Plan) : Ret pr 285 [.agg [],(Plan.mk 7 n test cells a b keys agg c kids).enc] (only (Plan.mk 7 n test cells a b keys agg c kids)).enc:=by
 refine ret_of hp rfl rfl ?_
 conv=>whnf
 exact ⟨_,_,rfl,rfl⟩
end Go.Proofs.YtncgofhhnhebjaaGreat
/- How wide parts are. -/
set_option maxHeartbeats 4000000
namespace Go.Proofs.YtncgofhhnhebjaaGreat
open Go Go.Am
variable {pr : Prims} (hp : Okp pr)
set_option maxRecDepth 100000
def nth (ws : List Int) (i : Nat) : Int:=(ws[i]?).getD 0
def partWide : Plan → List Int → Int
 | .mk kind n test cells a b keys agg c _,ws=>
  if kind = 1 then (if decide (0 ≤ n) && decide (n < ws.length) then nth ws n.toNat else -1)
  else if kind = 2 then (if testOk test (nth ws 0) then nth ws 0 else -1)
  else if kind = 3 then (if decide (1 ≤ cells.length) && (decide (cells.length ≤ 6) && cells.all (fun c=>cellOk c (nth ws 0))) then (cells.length : Int) else -1)
  else if kind = 4 then (if col a (nth ws 0) && col b (nth ws 1) then IntKind.i64.wrap (nth ws 0 + nth ws 1) else -1)
  else if kind = 5 then (if nth ws 0 == nth ws 1 then nth ws 0 else -1)
  else if kind = 6 then nth ws 0
  else (if decide (0 ≤ agg) && (decide (agg ≤ 3) && (keysOk keys (nth ws 0) && col c (nth ws 0))) then (keys.length : Int) + 1 else -1)
theorem tableWide_r (hp : Okp pr) (n : Int) (test : Test) (cells : List Cell) (a b : Int) (keys : List Int) (agg c : Int) (kids : List Plan) (ws : List Int) (h0 : ws ≠ []) (hl : ws.length ≤ 1048576) :
  Ret pr 250 [.agg [],(Plan.mk 1 n test cells a b keys agg c kids).enc,.sl (ws.map i64)] (i64 (partWide (Plan.mk 1 n test cells a b keys agg c kids) ws)):=by
   have hpos : 0 < ws.length:=List.length_pos_iff.2 h0
   have hw1 : IntKind.i64.wrap (((ws.map i64).length : Int) - 1) = (ws.length : Int) - 1:=by rw [IntKind.wrap_i64]; simp; omega
   have hwi:=wideIf_r hp
   have key : ∀ (ok : Bool),ok = (decide (0 ≤ n) && decide (n < ws.length)) → ∃ y,(ws.map i64)[(if (if IntKind.i64.wrap (((ws.map i64).length : Int) - 1) < n then IntKind.i64.wrap (((ws.map i64).length : Int) - 1) else n) > 0 then (if IntKind.i64.wrap (((ws.map i64).length : Int) - 1) < n then IntKind.i64.wrap (((ws.map i64).length : Int) - 1) else n) else 0).toNat]? = some (i64 y) ∧
     0 ≤ (if (if IntKind.i64.wrap (((ws.map i64).length : Int) - 1) < n then IntKind.i64.wrap (((ws.map i64).length : Int) - 1) else n) > 0 then (if IntKind.i64.wrap (((ws.map i64).length : Int) - 1) < n then IntKind.i64.wrap (((ws.map i64).length : Int) - 1) else n) else 0) ∧ (if ok then y else -1) = partWide (Plan.mk 1 n test cells a b keys agg c kids) ws:=by
      intro ok hok
      rw [hw1]
      generalize hi : (if (if (ws.length : Int) - 1 < n then (ws.length : Int) - 1 else n) > 0 then (if (ws.length : Int) - 1 < n then (ws.length : Int) - 1 else n) else 0) = i
      have hi0 : 0 ≤ i ∧ i < ws.length ∧ (0 ≤ n → n < ws.length → i = n):=by
       subst hi
       refine ⟨by split <;> omega,by split <;> (try split) <;> omega,fun _ _=>by split <;> (try split at *) <;> omega⟩
      obtain ⟨a1,a2,a3⟩:=hi0
      have hlt : i.toNat < ws.length:=by omega
      refine ⟨ws[i.toNat],by simp [hlt],a1,?_⟩
      have hpw : partWide (Plan.mk 1 n test cells a b keys agg c kids) ws = if decide (0 ≤ n) && decide (n < ws.length) then nth ws n.toNat else -1:=rfl
      rw [hpw,hok]
      by_cases h : (decide (0 ≤ n) && decide (n < (ws.length : Int))) = true
      ·rw [if_pos h,if_pos h]
       simp only [Bool.and_eq_true,decide_eq_true_eq] at h
       obtain rfl:=a3 h.1 h.2
       simp [nth,hlt]
      ·rw [if_neg h,if_neg h]
   refine ret_of hp rfl rfl ?_
   conv=>whnf
   refine bsel_intro (fun g1=>?_) (fun g1=>?_)
   ·conv=>whnf
    refine bsel_intro (fun g2=>?_) (fun g2=>?_)
    ·conv=>whnf
     obtain ⟨y,k1,k2,k3⟩:=key true (by simp at g1 g2; simp; omega)
     refine ⟨_,k1,k2,rfl,?_⟩
     conv=>whnf
     refine ⟨_,hwi true y _,?_⟩
     conv=>whnf
     exact fin_int k3
    ·conv=>whnf
     obtain ⟨y,k1,k2,k3⟩:=key false (by simp at g1 g2; simp; omega)
     refine ⟨_,k1,k2,rfl,?_⟩
     conv=>whnf
     refine ⟨_,hwi false y _,?_⟩
     conv=>whnf
     exact fin_int k3
   ·conv=>whnf
    obtain ⟨y,k1,k2,k3⟩:=key false (by simp at g1; simp; omega)
    refine ⟨_,k1,k2,rfl,?_⟩
    conv=>whnf
    refine ⟨_,hwi false y _,?_⟩
    conv=>whnf
    exact fin_int k3
theorem whereWide_r (hp : Okp pr) (n : Int) (test : Test) (cells : List Cell) (a b : Int) (keys : List Int) (agg c : Int) (kids : List Plan) (w : Int) (ws : List Int) :
  Ret pr 255 [.agg [],(Plan.mk 2 n test cells a b keys agg c kids).enc,.sl ((w :: ws).map i64)] (i64 (partWide (Plan.mk 2 n test cells a b keys agg c kids) (w :: ws))):=by
   have ht:=iTestOk_r hp test w
   have hwi:=wideIf_r hp
   refine ret_of hp rfl rfl ?_
   conv=>whnf
   refine ⟨i64 w,rfl,by omega,rfl,?_⟩
   conv=>whnf
   refine ⟨_,ht _,?_⟩
   conv=>whnf
   refine bsel_intro (fun g1=>?_) (fun g1=>?_)
   ·conv=>whnf
    refine ⟨i64 w,rfl,by omega,rfl,?_⟩
    conv=>whnf
    refine ⟨_,hwi _ w _,?_⟩
    conv=>whnf
    exact fin_int (by simp [partWide,nth,g1])
   ·conv=>whnf
    refine ⟨i64 w,rfl,by omega,rfl,?_⟩
    conv=>whnf
    refine ⟨_,hwi _ w _,?_⟩
    conv=>whnf
    exact fin_int (by simp [partWide,nth,g1])
theorem mapWide_r (hp : Okp pr) (n : Int) (test : Test) (cells : List Cell) (a b : Int) (keys : List Int) (agg c : Int) (kids : List Plan) (w : Int) (ws : List Int) (hl : cells.length ≤ 1048576) :
  Ret pr 263 [.agg [],(Plan.mk 3 n test cells a b keys agg c kids).enc,.sl ((w :: ws).map i64)] (i64 (partWide (Plan.mk 3 n test cells a b keys agg c kids) (w :: ws))):=by
   have hc:=containsFunc_r hp cells w ws hl
   have hwi:=fun ok=>wideIf_r hp ok (cells.map Cell.enc).length
   have hpw : partWide (Plan.mk 3 n test cells a b keys agg c kids) (w :: ws) = if decide (1 ≤ cells.length) && (decide (cells.length ≤ 6) && cells.all (fun c=>cellOk c w)) then (cells.length : Int) else -1:=rfl
   rw [hpw]
   refine ret_of hp rfl rfl ?_
   conv=>whnf
   refine ⟨_,hc.frozen rfl rfl rfl rfl,?_⟩
   iterate 6
    all_goals (try (conv=>whnf))
    all_goals (first | (refine bsel_intro (fun hb=>?_) (fun hb=>?_)) | (refine ⟨_,hwi _ _,?_⟩) | skip)
   all_goals exact fin_int (by clear hc hwi hpw; simp_all; try omega)
end Go.Proofs.YtncgofhhnhebjaaGreat
/- The reference's form of plans; SlimOnce. -/
set_option maxHeartbeats 4000000
namespace Go.Proofs.YtncgofhhnhebjaaGreat
open Go Go.Am
variable {pr : Prims} (hp : Okp pr)
set_option maxRecDepth 100000
def kidsN (kind : Int) : Int:=if kind = 1 then 0 else if kind = 2 ∨ kind = 3 ∨ kind = 6 ∨ kind = 7 then 1 else if kind = 4 ∨ kind = 5 then 2 else -1
theorem kind_cases (k : Int) : k = 1 ∨ k = 2 ∨ k = 3 ∨ k = 4 ∨ k = 5 ∨ k = 6 ∨ k = 7 ∨ ((k == 1) = false ∧ (k == 2) = false ∧ (k == 3) = false ∧ (k == 4) = false ∧ (k == 5) = false ∧ (k == 6) = false ∧ (k == 7) = false):=by
 simp only [beq_eq_false_iff_ne,ne_eq]
 omega
theorem l4Kids_r (hp : Okp pr) (kind : Int) : Ret pr 159 [i64 kind] (i64 (kidsN kind)):=by
 refine ret_of hp rfl rfl ?_
 rcases kind_cases kind with rfl | rfl | rfl | rfl | rfl | rfl | rfl | ⟨h1,h2,h3,h4,h5,h6,h7⟩
 iterate 7
  ·conv=>whnf
   exact fin_int rfl
 ·conv=>whnf
  refine bsel_false h1 ?_
  conv=>whnf
  refine bsel_false h2 ?_
  conv=>whnf
  refine bsel_false h3 ?_
  conv=>whnf
  refine bsel_false h6 ?_
  conv=>whnf
  refine bsel_false h7 ?_
  conv=>whnf
  refine bsel_false h4 ?_
  conv=>whnf
  refine bsel_false h5 ?_
  conv=>whnf
  exact fin_int (by simp_all [kidsN])
def zTest (t : Test) : Bool:=t.kind == 0 && (t.no == false && (t.l.kind == 0 && (t.l.a == 0 && (t.l.b == 0 && (t.l.n == 0 && (t.r.kind == 0 && (t.r.a == 0 && (t.r.b == 0 && (t.r.n == 0 && true)))))))))
def clean : Plan → Bool
 | .mk kind n test cells a b keys agg col _=>(kind == 1 || n == 0) && ((kind == 2 || zTest test) && ((kind == 3 || cells.isEmpty) && ((kind == 4 || (a == 0 && b == 0)) && (kind == 7 || (keys.isEmpty && (agg == 0 && col == 0))))))
theorem l4Clean_r (hp : Okp pr) (p : Plan) : Ret pr 160 [p.enc] (.bool (clean p)):=by
 obtain ⟨kind,n,⟨tk,tn,⟨a1,a2,a3,a4⟩,⟨b1,b2,b3,b4⟩⟩,cells,a,b,keys,agg,col,kids⟩:=p
 refine ret_of hp rfl rfl ?_
 rcases kind_cases kind with rfl | rfl | rfl | rfl | rfl | rfl | rfl | ⟨h1,h2,h3,h4,h5,h6,h7⟩
 iterate 7
  ·iterate 12
    all_goals (try (conv=>whnf))
    all_goals (first | (refine bsel_intro (fun hb=>?_) (fun hb=>?_)) | (refine ⟨_,_,eqS_test,rfl,?_⟩) | skip)
   all_goals (try (conv=>whnf))
   all_goals exact fin_bool (by simp_all [clean,zTest])
 ·iterate 19
   all_goals (try (conv=>whnf))
   all_goals (first | (refine bsel_false h1 ?_) | (refine bsel_false h2 ?_) | (refine bsel_false h3 ?_) | (refine bsel_false h4 ?_) | (refine bsel_false h7 ?_) | (refine bsel_intro (fun hb=>?_) (fun hb=>?_)) | (refine ⟨_,_,eqS_test,rfl,?_⟩) | skip)
  all_goals (try (conv=>whnf))
  all_goals exact fin_bool (by simp_all [clean,zTest])
end Go.Proofs.YtncgofhhnhebjaaGreat
/- How wide parts are; their shape. -/
set_option maxHeartbeats 4000000
namespace Go.Proofs.YtncgofhhnhebjaaGreat
open Go Go.Am
variable {pr : Prims} (hp : Okp pr)
set_option maxRecDepth 100000
theorem joinWide_r (hp : Okp pr) (n : Int) (test : Test) (cells : List Cell) (a b : Int) (keys : List Int) (agg c : Int) (kids : List Plan) (w v : Int) (ws : List Int) :
  Ret pr 271 [.agg [],(Plan.mk 4 n test cells a b keys agg c kids).enc,.sl ((w :: v :: ws).map i64)] (i64 (partWide (Plan.mk 4 n test cells a b keys agg c kids) (w :: v :: ws))):=by
   have h1:=isPlace_r hp a w
   have h2:=isPlace_r hp b v
   have hwi:=fun ok=>wideIf_r hp ok (IntKind.i64.wrap (w + v))
   have hpw : partWide (Plan.mk 4 n test cells a b keys agg c kids) (w :: v :: ws) = if col a w && col b v then IntKind.i64.wrap (w + v) else -1:=rfl
   rw [hpw]
   refine ret_of hp rfl rfl ?_
   iterate 10
    all_goals (try (conv=>whnf))
    all_goals (first | (refine ⟨i64 w,rfl,by omega,rfl,?_⟩) | (refine ⟨i64 v,rfl,by omega,rfl,?_⟩) | (refine bsel_intro (fun hb=>?_) (fun hb=>?_)) | (refine ⟨_,h1 _,?_⟩) | (refine ⟨_,h2 _,?_⟩) | (refine ⟨_,hwi _ _,?_⟩) | skip)
   all_goals exact fin_int (by clear h1 h2 hwi hpw; simp_all)
theorem bothWide_r (hp : Okp pr) (n : Int) (test : Test) (cells : List Cell) (a b : Int) (keys : List Int) (agg c : Int) (kids : List Plan) (w v : Int) (ws : List Int) :
  Ret pr 277 [.agg [],(Plan.mk 5 n test cells a b keys agg c kids).enc,.sl ((w :: v :: ws).map i64)] (i64 (partWide (Plan.mk 5 n test cells a b keys agg c kids) (w :: v :: ws))):=by
   have hwi:=fun ok=>wideIf_r hp ok w
   have hpw : partWide (Plan.mk 5 n test cells a b keys agg c kids) (w :: v :: ws) = if w == v then w else -1:=rfl
   rw [hpw]
   refine ret_of hp rfl rfl ?_
   iterate 10
    all_goals (try (conv=>whnf))
    all_goals (first | (refine ⟨i64 w,rfl,by omega,rfl,?_⟩) | (refine ⟨i64 v,rfl,by omega,rfl,?_⟩) | (refine bsel_intro (fun hb=>?_) (fun hb=>?_)) | (refine ⟨_,hwi _ _,?_⟩) | skip)
   all_goals exact fin_int (by clear hwi hpw; simp_all)
theorem onceWide_r (hp : Okp pr) (n : Int) (test : Test) (cells : List Cell) (a b : Int) (keys : List Int) (agg c : Int) (kids : List Plan) (w : Int) (ws : List Int) :
  Ret pr 282 [.agg [],(Plan.mk 6 n test cells a b keys agg c kids).enc,.sl ((w :: ws).map i64)] (i64 (partWide (Plan.mk 6 n test cells a b keys agg c kids) (w :: ws))):=by
   refine ret_of hp rfl rfl ?_
   iterate 3
    all_goals (try (conv=>whnf))
    all_goals (first | (refine ⟨i64 w,rfl,by omega,rfl,?_⟩) | (refine bsel_intro (fun hb=>?_) (fun hb=>?_)) | skip)
   exact fin_int rfl
theorem groupWide_r (hp : Okp pr) (n : Int) (test : Test) (cells : List Cell) (a b : Int) (keys : List Int) (agg c : Int) (kids : List Plan) (w : Int) (ws : List Int) (hl : keys.length ≤ 1048576) :
  Ret pr 287 [.agg [],(Plan.mk 7 n test cells a b keys agg c kids).enc,.sl ((w :: ws).map i64)] (i64 (partWide (Plan.mk 7 n test cells a b keys agg c kids) (w :: ws))):=by
   have h1:=iKeysOk_r hp keys w hl
   have h2:=isPlace_r hp c w
   have hl2 : IntKind.i64.wrap (((keys.map i64).length : Int) + 1) = (keys.length : Int) + 1:=by rw [IntKind.wrap_i64]; simp; omega
   have hwi:=fun ok=>wideIf_r hp ok (IntKind.i64.wrap (((keys.map i64).length : Int) + 1))
   have hpw : partWide (Plan.mk 7 n test cells a b keys agg c kids) (w :: ws) = if decide (0 ≤ agg) && (decide (agg ≤ 3) && (keysOk keys w && col c w)) then (keys.length : Int) + 1 else -1:=rfl
   rw [hpw]
   refine ret_of hp rfl rfl ?_
   iterate 14
    all_goals (try (conv=>whnf))
    all_goals (first | (refine ⟨i64 w,rfl,by omega,rfl,?_⟩) | (refine bsel_intro (fun hb=>?_) (fun hb=>?_)) | (refine ⟨_,h1 _,?_⟩) | (refine ⟨_,h2 _,?_⟩) | (refine ⟨_,hwi _ _,?_⟩) | skip)
   all_goals exact fin_int (by rw [hl2]; clear h1 h2 hwi hpw hl2; simp_all; try omega)
def shaped (p : Plan) : Bool:=(kidsN p.kind == (p.kids.length : Int)) && clean p
theorem only_eq (p : Plan) (h : kidsN p.kind ≠ -1) : planEq (.mk p.kind p.n p.test p.cells p.a p.b p.keys p.agg p.col []) (only p) = clean p:=by
 obtain ⟨kind,n,⟨tk,tn,⟨a1,a2,a3,a4⟩,⟨b1,b2,b3,b4⟩⟩,cells,a,b,keys,agg,c,kids⟩:=p
 have hce : ∀ l : List Cell,listEq cellEq l l = true:=fun l=>by
  induction l with
  | nil=>rfl
  | cons x l ih=>simp only [listEq,ih]; simp [cellEq]
 have hie : ∀ l : List Int,listEq (fun x y : Int=>x == y) l l = true:=fun l=>by
  induction l with
  | nil=>rfl
  | cons x l ih=>simp only [listEq,ih]; simp
 have hcn : ∀ l : List Cell,listEq cellEq l [] = l.isEmpty:=fun l=>by cases l <;> rfl
 have hin : ∀ l : List Int,listEq (fun x y : Int=>x == y) l [] = l.isEmpty:=fun l=>by cases l <;> rfl
 rcases kind_cases kind with rfl | rfl | rfl | rfl | rfl | rfl | rfl | ⟨h1,h2,h3,h4,h5,h6,h7⟩
 iterate 7
  ·simp only [Plan.kind,Plan.n,Plan.test,Plan.cells,Plan.a,Plan.b,Plan.keys,Plan.agg,Plan.col,Plan.kids,only,planEq,planEqs,clean,zTest,testEq,zT]
   rw [Bool.eq_iff_iff]
   simp [hce,hie,hcn,hin]
   try (constructor <;> intro h <;> simp_all)
 ·exfalso
  simp only [Plan.kind,beq_eq_false_iff_ne,ne_eq] at *
  simp [kidsN,h1,h2,h3,h4,h5,h6,h7] at h
theorem shaped_r (hp : Okp pr) (p : Plan) (hsm : p.small) : Ret pr 86 [p.enc] (.bool (shaped p)):=by
 have hon:=only_eq p
 have hps:=fun q=>planSame_r hp (.mk p.kind p.n p.test p.cells p.a p.b p.keys p.agg p.col []) q (by
  obtain ⟨kind,n,test,cells,a,b,keys,agg,c,kids⟩:=p
  simp only [Plan.small,Plan.sz,Plan.kind,Plan.cells,Plan.keys,Plan.szs] at *
  simp
  omega)
 have hpa:=parts_r hp
 obtain ⟨kind,n,test,cells,a,b,keys,agg,c,kids⟩:=p
 have hel:=encs_len kids
 refine ret_of hp rfl rfl ?_
 rcases kind_cases kind with rfl | rfl | rfl | rfl | rfl | rfl | rfl | ⟨h1,h2,h3,h4,h5,h6,h7⟩
 ·have hk:=tableKids_r hp
  have ho:=tableOnly_r hp n test cells a b keys agg c kids
  have hs:=hps (only (.mk 1 n test cells a b keys agg c kids))
  rw [hon (by simp [Plan.kind,kidsN])] at hs
  conv=>whnf
  refine ⟨_,hpa _,?_⟩
  conv=>whnf
  refine ⟨_,hk _,?_⟩
  conv=>whnf
  refine bsel_intro (fun g1=>?_) (fun g1=>?_)
  ·rw [hel] at g1
   have hkn : (kidsN 1 == (kids.length : Int)) = false:=by
    have : ((kids.length : Int) == 0) = false:=by rw [bne,Bool.not_eq_true'] at g1; exact g1
    rw [BEq.comm]; exact this
   conv=>whnf
   exact fin_bool (by simp only [shaped,Plan.kind,Plan.kids]; rw [hkn]; rfl)
  ·rw [hel] at g1
   have hkn : (kidsN 1 == (kids.length : Int)) = true:=by
    have : ((kids.length : Int) == 0) = true:=by rw [bne,Bool.not_eq_false'] at g1; exact g1
    rw [BEq.comm]; exact this
   conv=>whnf
   refine ⟨_,ho _,?_⟩
   conv=>whnf
   refine ⟨_,hs.snapped rfl rfl rfl _,?_⟩
   iterate 2
    all_goals (try (conv=>whnf))
    all_goals (first | (refine bsel_intro (fun hb=>?_) (fun hb=>?_)) | skip)
   all_goals exact fin_bool (by simp only [shaped,Plan.kind,Plan.kids]; rw [hkn,hb]; rfl)
 ·have hk:=whereKids_r hp
  have ho:=whereOnly_r hp n test cells a b keys agg c kids
  have hs:=hps (only (.mk 2 n test cells a b keys agg c kids))
  rw [hon (by simp [Plan.kind,kidsN])] at hs
  conv=>whnf
  refine ⟨_,hpa _,?_⟩
  conv=>whnf
  refine ⟨_,hk _,?_⟩
  conv=>whnf
  refine bsel_intro (fun g1=>?_) (fun g1=>?_)
  ·rw [hel] at g1
   have hkn : (kidsN 2 == (kids.length : Int)) = false:=by
    have : ((kids.length : Int) == 1) = false:=by rw [bne,Bool.not_eq_true'] at g1; exact g1
    rw [BEq.comm]; exact this
   conv=>whnf
   exact fin_bool (by simp only [shaped,Plan.kind,Plan.kids]; rw [hkn]; rfl)
  ·rw [hel] at g1
   have hkn : (kidsN 2 == (kids.length : Int)) = true:=by
    have : ((kids.length : Int) == 1) = true:=by rw [bne,Bool.not_eq_false'] at g1; exact g1
    rw [BEq.comm]; exact this
   conv=>whnf
   refine ⟨_,ho _,?_⟩
   conv=>whnf
   refine ⟨_,hs.snapped rfl rfl rfl _,?_⟩
   iterate 2
    all_goals (try (conv=>whnf))
    all_goals (first | (refine bsel_intro (fun hb=>?_) (fun hb=>?_)) | skip)
   all_goals exact fin_bool (by simp only [shaped,Plan.kind,Plan.kids]; rw [hkn,hb]; rfl)
 ·have hk:=mapKids_r hp
  have ho:=mapOnly_r hp n test cells a b keys agg c kids
  have hs:=hps (only (.mk 3 n test cells a b keys agg c kids))
  rw [hon (by simp [Plan.kind,kidsN])] at hs
  conv=>whnf
  refine ⟨_,hpa _,?_⟩
  conv=>whnf
  refine ⟨_,hk _,?_⟩
  conv=>whnf
  refine bsel_intro (fun g1=>?_) (fun g1=>?_)
  ·rw [hel] at g1
   have hkn : (kidsN 3 == (kids.length : Int)) = false:=by
    have : ((kids.length : Int) == 1) = false:=by rw [bne,Bool.not_eq_true'] at g1; exact g1
    rw [BEq.comm]; exact this
   conv=>whnf
   exact fin_bool (by simp only [shaped,Plan.kind,Plan.kids]; rw [hkn]; rfl)
  ·rw [hel] at g1
   have hkn : (kidsN 3 == (kids.length : Int)) = true:=by
    have : ((kids.length : Int) == 1) = true:=by rw [bne,Bool.not_eq_false'] at g1; exact g1
    rw [BEq.comm]; exact this
   conv=>whnf
   refine ⟨_,ho _,?_⟩
   conv=>whnf
   refine ⟨_,hs.snapped rfl rfl rfl _,?_⟩
   iterate 2
    all_goals (try (conv=>whnf))
    all_goals (first | (refine bsel_intro (fun hb=>?_) (fun hb=>?_)) | skip)
   all_goals exact fin_bool (by simp only [shaped,Plan.kind,Plan.kids]; rw [hkn,hb]; rfl)
 ·have hk:=joinKids_r hp
  have ho:=joinOnly_r hp n test cells a b keys agg c kids
  have hs:=hps (only (.mk 4 n test cells a b keys agg c kids))
  rw [hon (by simp [Plan.kind,kidsN])] at hs
  conv=>whnf
  refine ⟨_,hpa _,?_⟩
  conv=>whnf
  refine ⟨_,hk _,?_⟩
  conv=>whnf
  refine bsel_intro (fun g1=>?_) (fun g1=>?_)
  ·rw [hel] at g1
   have hkn : (kidsN 4 == (kids.length : Int)) = false:=by
    have : ((kids.length : Int) == 2) = false:=by rw [bne,Bool.not_eq_true'] at g1; exact g1
    rw [BEq.comm]; exact this
   conv=>whnf
   exact fin_bool (by simp only [shaped,Plan.kind,Plan.kids]; rw [hkn]; rfl)
  ·rw [hel] at g1
   have hkn : (kidsN 4 == (kids.length : Int)) = true:=by
    have : ((kids.length : Int) == 2) = true:=by rw [bne,Bool.not_eq_false'] at g1; exact g1
    rw [BEq.comm]; exact this
   conv=>whnf
   refine ⟨_,ho _,?_⟩
   conv=>whnf
   refine ⟨_,hs.snapped rfl rfl rfl _,?_⟩
   iterate 2
    all_goals (try (conv=>whnf))
    all_goals (first | (refine bsel_intro (fun hb=>?_) (fun hb=>?_)) | skip)
   all_goals exact fin_bool (by simp only [shaped,Plan.kind,Plan.kids]; rw [hkn,hb]; rfl)
 ·have hk:=bothKids_r hp
  have ho:=bothOnly_r hp n test cells a b keys agg c kids
  have hs:=hps (only (.mk 5 n test cells a b keys agg c kids))
  rw [hon (by simp [Plan.kind,kidsN])] at hs
  conv=>whnf
  refine ⟨_,hpa _,?_⟩
  conv=>whnf
  refine ⟨_,hk _,?_⟩
  conv=>whnf
  refine bsel_intro (fun g1=>?_) (fun g1=>?_)
  ·rw [hel] at g1
   have hkn : (kidsN 5 == (kids.length : Int)) = false:=by
    have : ((kids.length : Int) == 2) = false:=by rw [bne,Bool.not_eq_true'] at g1; exact g1
    rw [BEq.comm]; exact this
   conv=>whnf
   exact fin_bool (by simp only [shaped,Plan.kind,Plan.kids]; rw [hkn]; rfl)
  ·rw [hel] at g1
   have hkn : (kidsN 5 == (kids.length : Int)) = true:=by
    have : ((kids.length : Int) == 2) = true:=by rw [bne,Bool.not_eq_false'] at g1; exact g1
    rw [BEq.comm]; exact this
   conv=>whnf
   refine ⟨_,ho _,?_⟩
   conv=>whnf
   refine ⟨_,hs.snapped rfl rfl rfl _,?_⟩
   iterate 2
    all_goals (try (conv=>whnf))
    all_goals (first | (refine bsel_intro (fun hb=>?_) (fun hb=>?_)) | skip)
   all_goals exact fin_bool (by simp only [shaped,Plan.kind,Plan.kids]; rw [hkn,hb]; rfl)
 ·have hk:=onceKids_r hp
  have ho:=onceOnly_r hp n test cells a b keys agg c kids
  have hs:=hps (only (.mk 6 n test cells a b keys agg c kids))
  rw [hon (by simp [Plan.kind,kidsN])] at hs
  conv=>whnf
  refine ⟨_,hpa _,?_⟩
  conv=>whnf
  refine ⟨_,hk _,?_⟩
  conv=>whnf
  refine bsel_intro (fun g1=>?_) (fun g1=>?_)
  ·rw [hel] at g1
   have hkn : (kidsN 6 == (kids.length : Int)) = false:=by
    have : ((kids.length : Int) == 1) = false:=by rw [bne,Bool.not_eq_true'] at g1; exact g1
    rw [BEq.comm]; exact this
   conv=>whnf
   exact fin_bool (by simp only [shaped,Plan.kind,Plan.kids]; rw [hkn]; rfl)
  ·rw [hel] at g1
   have hkn : (kidsN 6 == (kids.length : Int)) = true:=by
    have : ((kids.length : Int) == 1) = true:=by rw [bne,Bool.not_eq_false'] at g1; exact g1
    rw [BEq.comm]; exact this
   conv=>whnf
   refine ⟨_,ho _,?_⟩
   conv=>whnf
   refine ⟨_,hs.snapped rfl rfl rfl _,?_⟩
   iterate 2
    all_goals (try (conv=>whnf))
    all_goals (first | (refine bsel_intro (fun hb=>?_) (fun hb=>?_)) | skip)
   all_goals exact fin_bool (by simp only [shaped,Plan.kind,Plan.kids]; rw [hkn,hb]; rfl)
 ·have hk:=groupKids_r hp
  have ho:=groupOnly_r hp n test cells a b keys agg c kids
  have hs:=hps (only (.mk 7 n test cells a b keys agg c kids))
  rw [hon (by simp [Plan.kind,kidsN])] at hs
  conv=>whnf
  refine ⟨_,hpa _,?_⟩
  conv=>whnf
  refine ⟨_,hk _,?_⟩
  conv=>whnf
  refine bsel_intro (fun g1=>?_) (fun g1=>?_)
  ·rw [hel] at g1
   have hkn : (kidsN 7 == (kids.length : Int)) = false:=by
    have : ((kids.length : Int) == 1) = false:=by rw [bne,Bool.not_eq_true'] at g1; exact g1
    rw [BEq.comm]; exact this
   conv=>whnf
   exact fin_bool (by simp only [shaped,Plan.kind,Plan.kids]; rw [hkn]; rfl)
  ·rw [hel] at g1
   have hkn : (kidsN 7 == (kids.length : Int)) = true:=by
    have : ((kids.length : Int) == 1) = true:=by rw [bne,Bool.not_eq_false'] at g1; exact g1
    rw [BEq.comm]; exact this
   conv=>whnf
   refine ⟨_,ho _,?_⟩
   conv=>whnf
   refine ⟨_,hs.snapped rfl rfl rfl _,?_⟩
   iterate 2
    all_goals (try (conv=>whnf))
    all_goals (first | (refine bsel_intro (fun hb=>?_) (fun hb=>?_)) | skip)
   all_goals exact fin_bool (by simp only [shaped,Plan.kind,Plan.kids]; rw [hkn,hb]; rfl)
 ·conv=>whnf
  refine ⟨_,hpa _,?_⟩
  iterate 9
   all_goals (try (conv=>whnf))
   all_goals (first | (refine bsel_false h1 ?_) | (refine bsel_false h2 ?_) | (refine bsel_false h3 ?_) | (refine bsel_false h4 ?_) | (refine bsel_false h5 ?_) | (refine bsel_false h6 ?_) | (refine bsel_false h7 ?_) | (refine bsel_intro (fun hb=>?_) (fun hb=>?_)) | skip)
  all_goals exact fin_bool (by
   simp only [beq_eq_false_iff_ne,ne_eq] at *
   simp only [shaped,Plan.kind,Plan.kids,kidsN]
   simp [h1,h2,h3,h4,h5,h6,h7]
   try (intro hh; omega))
end Go.Proofs.YtncgofhhnhebjaaGreat

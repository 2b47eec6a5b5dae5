/- Items put into items of one's own: the reference's. -/
import Derived.Test.YtncgofhhnhebjaaGreatGH34
set_option linter.unusedVariables false
set_option linter.unusedSimpArgs false
/- Items put into items of one's own: the reference's. -/
set_option maxHeartbeats 4000000
namespace Go.Proofs.YtncgofhhnhebjaaGreat
open Go Go.Am
variable {pr : Prims} (hp : Okp pr)
set_option maxRecDepth 100000
def putZ : List Item → List Int → Int → List Item
 | [],r,w=>if w == 0 then [] else [⟨r,w⟩]
 | x :: xs,r,w=>if rowLess x.row r then x :: putZ xs r w
  else if rowSame x.row r then (if addW x.w w == 0 then xs else ⟨x.row,addW x.w w⟩ :: xs)
  else if w == 0 then x :: xs else ⟨r,w⟩ :: x :: xs
def addZ (a b : List Item) : List Item:=b.foldl (fun z x=>putZ z x.row x.w) a
theorem putZ_less {A B : List Item} {r : List Int} {w : Int} (h : ∀ x ∈ A,rowLess x.row r = true) : putZ (A ++ B) r w = A ++ putZ B r w:=by
 induction A with
 | nil=>rfl
 | cons x xs ih=>
  simp only [List.cons_append,putZ]
  rw [if_pos (h x (by simp)),ih fun y hy=>h y (by simp [hy])]
theorem putZ_len (z : List Item) (r : List Int) (w : Int) : (putZ z r w).length ≤ z.length + 1:=by
 induction z with
 | nil=>unfold putZ; split <;> simp
 | cons x xs ih=>
  unfold putZ
  repeat' split
  all_goals simp only [List.length_cons] at *
  all_goals omega
theorem putZ_mem {z : List Item} {r : List Int} {w : Int} : ∀ x ∈ putZ z r w,x.row = r ∨ ∃ y ∈ z,x.row = y.row:=by
 induction z with
 | nil=>intro x hx; unfold putZ at hx; split at hx <;> simp at hx; subst hx; exact .inl rfl
 | cons y ys ih=>
  intro x hx
  unfold putZ at hx
  split at hx
  ·rcases List.mem_cons.1 hx with rfl | hx
   ·exact .inr ⟨x,by simp,rfl⟩
   ·rcases ih x hx with h | ⟨u,hu,e⟩
    ·exact .inl h
    ·exact .inr ⟨u,by simp [hu],e⟩
  ·split at hx
   ·split at hx
    ·exact .inr ⟨x,by simp [hx],rfl⟩
    ·rcases List.mem_cons.1 hx with rfl | hx
     ·exact .inr ⟨y,by simp,rfl⟩
     ·exact .inr ⟨x,by simp [hx],rfl⟩
   ·split at hx
    ·exact .inr ⟨x,hx,rfl⟩
    ·rcases List.mem_cons.1 hx with rfl | hx
     ·exact .inl rfl
     ·exact .inr ⟨x,hx,rfl⟩
theorem putZ_zsm {z : List Item} {r : List Int} {w : Int} (hz : ∀ x ∈ z,x.row.length ≤ big) (hr : r.length ≤ big) : ∀ x ∈ putZ z r w,x.row.length ≤ big:=fun x hx=>by
 rcases putZ_mem x hx with e | ⟨y,hy,e⟩
 ·rw [e]; exact hr
 ·rw [e]; exact hz y hy
theorem addZ_zsm {a b : List Item} (ha : ∀ x ∈ a,x.row.length ≤ big) (hb : ∀ x ∈ b,x.row.length ≤ big) : (addZ a b).length ≤ a.length + b.length ∧ ∀ x ∈ addZ a b,x.row.length ≤ big:=by
 unfold addZ
 induction b generalizing a with
 | nil=>exact ⟨by simp,ha⟩
 | cons y ys ih=>
  have h1:=putZ_len a y.row y.w
  obtain ⟨h2,h3⟩:=ih (a:=putZ a y.row y.w) (putZ_zsm ha (hb y (by simp))) fun x hx=>hb x (by simp [hx])
  simp only [List.foldl_cons,List.length_cons]
  exact ⟨by omega,h3⟩
theorem Owns.at {h : Heap} {A B : List Dat} {d : Dat} {vs : List AVal} {F : List Nat} (ho : Owns h (A ++ d :: B) vs F) : ∃ v F1,vs[A.length]? = some v ∧ Own h d v F1:=by
 obtain ⟨v1,v2,F1,F2,rfl,rfl,h1,h2⟩:=Owns_split ho
 simp only [Owns] at h2
 obtain ⟨v,vs',G1,G2,rfl,rfl,h3,h4⟩:=h2
 exact ⟨v,G1,by rw [← Owns_len h1]; simp,h3⟩
theorem Item.open {h : Heap} {x : Item} {v : AVal} {F : List Nat} (ho : Own h x.d v F) : ∃ P,v = .agg [P,i64 x.w] ∧ Own h (Ints.d x.row) P F:=by
 obtain ⟨r,w⟩:=x
 obtain ⟨vv,rfl,hu⟩:=Own_g.1 ho
 obtain ⟨P,w1,G1,G2,rfl,rfl,gP,ho2⟩:=OwnC_s.1 hu
 obtain ⟨w2,rfl,ho3⟩:=OwnC_i.1 ho2
 obtain ⟨rfl,rfl⟩:=OwnC_nil.1 ho3
 exact ⟨P,rfl,by rw [List.append_nil]; exact gP⟩
theorem Ints.snap {h : Heap} {r : List Int} {v : AVal} {F : List Nat} (ho : Own h (Ints.d r) v F) : Am.snap h v = some (.sl (r.map i64)):=by
 have hi : ∀ ys : List Int,Dat.deps (ys.map Dat.i) ≤ 1:=fun ys=>by induction ys with | nil=>simp [Dat.deps] | cons y ys ih=>simp only [List.map_cons,Dat.deps,Dat.dep]; omega
 have:=ho.snap (by have:=hi r; simp only [Ints.d,Dat.dep]; omega)
 rw [this]
 simp only [Ints.d,Dat.enc,Dat.encs_i]
theorem AppR_cut {h : Heap} {L : List Chunk} {id sz len : Nat} {es ys : List AVal} {K : AVal → Heap → Prop} (S : Sepa h (.row id (.arr sz es) :: L)) (hlen : len ≤ es.length) (hl : len + ys.length ≤ sizeLim)
  (hK : ∀ k h',Sepa h' (.row k (.arr sz (es.take len ++ ys)) :: L) → K (.own k 0 (len + ys.length)) h') : AppR h sz (.own id 0 len) ys K:=by
   refine ⟨es,S.row 0 rfl,rfl,hlen,?_⟩
   by_cases hy : ys = []
   ·subst hy
    refine .inl ⟨rfl,fun h' e=>?_⟩
    have S1:=S.set 0 rfl e
    dsimp only [List.set] at S1
    exact hK id h' (by simpa using S1)
   ·refine .inr ⟨hy,hl,fun k h' e1 e2=>?_⟩
    have S1:=S.move 0 rfl e1 e2
    dsimp only [List.eraseIdx] at S1
    have:=hK k h' S1
    rw [List.length_append,List.length_take,Nat.min_eq_left hlen]
    exact this
theorem elems_cut {h : Heap} {id sz st n : Nat} {es ys : List AVal} (hi : h[id]? = some (.arr sz es)) (hn : st + n ≤ es.length) (hy : (es.drop st).take n = ys) : elemsA h (.own id st n) = some ys:=by
 simp only [elemsA,hi,hn,if_true,hy]
theorem itemsD {h : Heap} {B : List Item} : ∀ {vs : List AVal} {F : List Nat},Owns h (B.map Item.d) vs F → vs.all (elemOk 2) = true:=by
 induction B with
 | nil=>intro vs F ho; simp only [List.map_nil,Owns] at ho; rw [ho.1]; rfl
 | cons b B ih=>
  intro vs F ho
  simp only [List.map_cons,Owns] at ho
  obtain ⟨v,vs',F1,F2,rfl,rfl,h1,h2⟩:=ho
  rw [List.all_cons,ih h2,Bool.and_true]
  obtain ⟨r,w⟩:=b
  obtain ⟨vv,rfl,hu⟩:=Own_g.1 h1
  obtain ⟨P,w1,G3,G4,rfl,rfl,gP,ho2⟩:=OwnC_s.1 hu
  obtain ⟨w2,rfl,ho3⟩:=OwnC_i.1 ho2
  obtain ⟨rfl,rfl⟩:=OwnC_nil.1 ho3
  have:=elem_agg (cs:=[P,i64 w]) (sz:=2) rfl (allc gP.cell.2 rfl)
  rwa [List.all_cons,List.all_nil,Bool.and_true] at this
theorem Sepa.dcons {h : Heap} {L : List Chunk} {d : Dat} {ds : List Dat} {v : AVal} {vs : List AVal} {F1 F2 : List Nat} (s : Sepa h (.dat d v F1 :: .dats ds vs F2 :: L)) : Sepa h (.dats (d :: ds) (v :: vs) (F1 ++ F2) :: L):=
 s.merge (e:=.dats (d :: ds) (v :: vs) (F1 ++ F2)) (by show Owns _ _ _ _; simp only [Owns]; exact ⟨v,vs,F1,F2,rfl,rfl,s.get 0 rfl,s.get 1 rfl⟩) (fun id hid=>List.mem_append.1 hid) (by
  have:=s.swap.nodup2
  exact this)
theorem Sepa.dappend {h : Heap} {L : List Chunk} {ds es : List Dat} {vs us : List AVal} {F1 F2 : List Nat} (s : Sepa h (.dats ds vs F1 :: .dats es us F2 :: L)) : Sepa h (.dats (ds ++ es) (vs ++ us) (F1 ++ F2) :: L):=
 s.merge (e:=.dats (ds ++ es) (vs ++ us) (F1 ++ F2)) (Owns_append (s.get 0 rfl) (s.get 1 rfl)) (fun id hid=>List.mem_append.1 hid) s.swap.nodup2
theorem Sepa.datsAt {h : Heap} {L : List Chunk} {A B : List Item} {b : Item} {vs : List AVal} {F : List Nat} (S : Sepa h (.dats ((A ++ b :: B).map Item.d) vs F :: L)) :
  ∃ VA P VB F0 G F2,vs = VA ++ .agg [P,i64 b.w] :: VB ∧ VA.length = A.length ∧ Sepa h (.dats (A.map Item.d) VA F0 :: .dat (Ints.d b.row) P G :: .dats (B.map Item.d) VB F2 :: L):=by
   have h1 : Owns h ((A ++ b :: B).map Item.d) vs F:=S.get 0 rfl
   rw [List.map_append,List.map_cons] at h1
   obtain ⟨v1,v2,F1,F2,rfl,rfl,h2,h3⟩:=Owns_split h1
   simp only [Owns] at h3
   obtain ⟨v,vs',G1,G2,rfl,rfl,h4,h5⟩:=h3
   obtain ⟨r,w⟩:=b
   obtain ⟨vv,rfl,hu⟩:=Own_g.1 h4
   obtain ⟨P,w1,G3,G4,rfl,rfl,gP,ho2⟩:=OwnC_s.1 hu
   obtain ⟨w2,rfl,ho3⟩:=OwnC_i.1 ho2
   obtain ⟨rfl,rfl⟩:=OwnC_nil.1 ho3
   refine ⟨v1,P,vs',F1,G3,G2,rfl,by simpa using Owns_len h2,S.cuts [.dats (A.map Item.d) v1 F1,.dat (Ints.d r) P G3,.dats (B.map Item.d) vs' G2] (by simp [Chunk.dat,Chunk.dats]) ?_⟩
   intro d hd
   simp only [List.mem_cons,List.not_mem_nil,or_false] at hd
   rcases hd with rfl | rfl | rfl
   ·exact h2
   ·exact gP
   ·exact h5
theorem Sepa.datsOf {h : Heap} {L : List Chunk} {A B : List Item} {row : List Int} {w : Int} {VA VB : List AVal} {P : AVal} {F0 G F2 : List Nat} (S : Sepa h (.dats (A.map Item.d) VA F0 :: .dat (Ints.d row) P G :: .dats (B.map Item.d) VB F2 :: L)) :
  ∃ F,Sepa h (.dats ((A ++ ⟨row,w⟩ :: B).map Item.d) (VA ++ .agg [P,i64 w] :: VB) F :: L):=by
   have S1:=S.front 1 rfl
   dsimp only [List.eraseIdx] at S1
   have S2:=S1.is (c':=.dat (Item.d ⟨row,w⟩) (.agg [P,i64 w]) (G ++ [])) (Own_g.2 ⟨_,rfl,OwnC_one (S1.get 0 rfl) (OwnC_int OwnC_no)⟩) (by simp [Chunk.dat])
   have S3:=(S2.front 2 rfl).swap
   dsimp only [List.eraseIdx] at S3
   have S4:=Sepa.dappend ((Sepa.dcons S3).swap)
   exact ⟨_,by rw [List.map_append,List.map_cons]; exact S4⟩
end Go.Proofs.YtncgofhhnhebjaaGreat

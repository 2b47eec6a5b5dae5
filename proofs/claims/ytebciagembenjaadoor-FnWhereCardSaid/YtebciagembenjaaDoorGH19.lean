/- Lists that are gathered by 'append'. -/
import Derived.Test.YtebciagembenjaaDoorGH18
set_option linter.unusedVariables false
set_option linter.unusedSimpArgs false
/- Calls that give plans of one's own. -/
set_option maxHeartbeats 4000000
namespace Go.Proofs.YtebciagembenjaaDoor
open Go Go.Am
def keepV (c : AVal) : Bool:=match c with
 | .agg ds=>ds.all AVal.ownc
 | c=>c.ownc
theorem keep_arr {n sz : Nat} {es : List AVal} (h : ∀ c ∈ es,keepV c = true) : AObj.keep n (.arr sz es) = .arr sz (es.map (shift1 n)):=by
 have hk : (AObj.arr sz es).keeps = true:=List.all_eq_true.2 h
 simp only [AObj.keep,hk]
theorem joined_get {h h1 : Heap} {id : Nat} {o : AObj} (hi : h1[id]? = some o) : (h ++ h1.map (AObj.keep h.length))[id + h.length]? = some (AObj.keep h.length o):=by
 rw [List.getElem?_append_right (by omega),Nat.add_sub_cancel,List.getElem?_map,hi]
 rfl
theorem OwnL.ownc {α : Type} {f : α → AVal} {sz : Nat} {h : Heap} {xs : List α} {v : AVal} {F : List Nat} (ho : OwnL f sz h xs v F) : v.ownc = true:=by
 rcases ho with ⟨_,_,rfl | rfl⟩ | ⟨id,rfl,_,_⟩ <;> rfl
theorem OwnL.shift {α : Type} {f : α → AVal} {sz : Nat} {h h1 : Heap} {xs : List α} {v : AVal} {F : List Nat} (hk : ∀ x,keepV (f x) = true) (hs : ∀ n x,shift1 n (f x) = f x) (ho : OwnL f sz h1 xs v F) :
  OwnL f sz (h ++ h1.map (AObj.keep h.length)) xs (shift0 h.length v) (F.map (· + h.length)):=by
   rcases ho with ⟨rfl,rfl,rfl | rfl⟩ | ⟨id,rfl,h2,rfl⟩
   ·exact .inl ⟨rfl,rfl,.inl rfl⟩
   ·exact .inl ⟨rfl,rfl,.inr rfl⟩
   ·refine .inr ⟨id + h.length,rfl,?_,rfl⟩
    rw [joined_get h2,keep_arr (fun c hc=>by obtain ⟨x,_,rfl⟩:=List.mem_map.1 hc; exact hk x),List.map_map]
    congr 2
    exact List.map_congr_left fun x _=>hs _ x
theorem OwnK.ownc {h : Heap} {ps : List Plan} {D : AVal} {F : List Nat} (ho : OwnK h ps D F) : D.ownc = true:=by
 rcases ho with ⟨_,rfl,_⟩ | ⟨id,vs,Fs,rfl,_⟩ <;> rfl
theorem own_shift {h h1 : Heap} : ∀ (N : Nat),(∀ (p : Plan) (v : AVal) (F : List Nat),SizeOf.sizeOf p ≤ N → OwnP h1 p v F → OwnP (h ++ h1.map (AObj.keep h.length)) p (shift1 h.length v) (F.map (· + h.length)) ∧ keepV v = true ∧ ∃ cs,v = .agg cs) ∧
  ∀ (ps : List Plan) (vs : List AVal) (F : List Nat),SizeOf.sizeOf ps ≤ N → OwnPs h1 ps vs F → OwnPs (h ++ h1.map (AObj.keep h.length)) ps (vs.map (shift1 h.length)) (F.map (· + h.length)) ∧ ∀ v ∈ vs,keepV v = true:=by
   intro N
   induction N with
   | zero=>
    refine ⟨fun p v F hs=>?_,fun ps vs F hs hp=>?_⟩
    ·cases p; simp at hs
    ·cases ps <;> simp at hs
   | succ N ih=>
    refine ⟨fun p v F hs hp=>?_,fun ps vs F hs hp=>?_⟩
    ·obtain ⟨kind,m,test,cells,a,b,keys,agg,col,kids⟩:=p
     rw [OwnP_mk] at hp ⊢
     obtain ⟨C,K,D,Fc,Fk,Fd,rfl,h1,h2,h3,rfl⟩:=hp
     have c1:=h1.ownc
     have c2:=h2.ownc
     have c3:=OwnK.ownc h3
     refine ⟨⟨shift0 _ C,shift0 _ K,shift0 _ D,Fc.map (· + h.length),Fk.map (· + h.length),Fd.map (· + h.length),rfl,h1.shift (fun _=>rfl) fun _ _=>rfl,h2.shift (fun _=>rfl) fun _ _=>rfl,?_,by simp⟩,?_,_,rfl⟩
     ·rcases h3 with ⟨rfl,rfl,rfl⟩ | ⟨id,vs,Fs,rfl,h5,h6,rfl⟩
      ·exact .inl ⟨rfl,rfl,rfl⟩
      ·obtain ⟨g1,g2⟩:=ih.2 kids vs Fs (by simp at hs; omega) h6
       exact .inr ⟨id + h.length,_,_,rfl,by rw [joined_get h5,keep_arr g2],g1,by simp⟩
     ·simp only [keepV,pval,List.all_cons,c1,c2,c3,List.all_nil,Bool.and_true,Bool.true_and]
      rfl
    ·cases ps with
     | nil=>simp only [OwnPs] at hp ⊢; obtain ⟨rfl,rfl⟩:=hp; exact ⟨⟨rfl,rfl⟩,by simp⟩
     | cons p ps=>
      simp only [OwnPs] at hp ⊢
      obtain ⟨v,vs',F1,F2,rfl,rfl,h1,h2⟩:=hp
      simp at hs
      obtain ⟨g1,g2,_⟩:=ih.1 p v F1 (by omega) h1
      obtain ⟨g3,g4⟩:=ih.2 ps vs' F2 (by omega) h2
      refine ⟨⟨_,_,_,_,rfl,by simp,g1,g3⟩,fun w hw=>?_⟩
      rcases List.mem_cons.1 hw with rfl | hw
      ·exact g2
      ·exact g4 w hw
theorem nodup_shift {F : List Nat} (n : Nat) (h : F.Nodup) : (F.map (· + n)).Nodup:=by
 induction F with
 | nil=>simp
 | cons x xs ih=>
  simp only [List.map_cons,List.nodup_cons] at h ⊢
  refine ⟨fun hm=>?_,ih h.2⟩
  obtain ⟨y,hy,he⟩:=List.mem_map.1 hm
  have : y = x:=by simpa using he
  subst this
  exact h.1 hy
def RetN (pr : Prims) (f : FuncId) (args : List AVal) (p : Plan) : Prop:=∃ v h1 F,call (cfp pr) f args [] = some (.ret v h1) ∧ OwnP h1 p v F ∧ F.Nodup
def RetL {α : Type} (g : α → AVal) (sz : Nat) (pr : Prims) (f : FuncId) (args : List AVal) (xs : List α) : Prop:=∃ v h1 F,call (cfp pr) f args [] = some (.ret v h1) ∧ OwnL g sz h1 xs v F ∧ F.Nodup
def RetS (pr : Prims) (f : FuncId) (args : List AVal) (ps : List Plan) : Prop:=∃ v h1 F,call (cfp pr) f args [] = some (.ret v h1) ∧ OwnK h1 ps v F ∧ F.Nodup
theorem RetN.at {pr : Prims} {f : FuncId} {args args' : List AVal} {p : Plan} {h : Heap} (hr : RetN pr f args' p) (hM : modes f = Am.Mode.N) (hs : snapL h args = some args') :
  ∃ v hh F,callM (cfp pr) (call (cfp pr)) f args h = some (.ret v hh) ∧ h <+: hh ∧ OwnP hh p v F ∧ F.Nodup ∧ ∀ id ∈ F,h.length ≤ id:=by
   obtain ⟨v,h1,F,hc,ho,hn⟩:=hr
   obtain ⟨g1,g2,cs,rfl⟩:=(own_shift (h:=h) _).1 p v F (Nat.le_refl _) ho
   have hm : (cfp pr).M f = .N:=hM
   refine ⟨shiftA h.length (.agg cs),h ++ h1.map (AObj.keep h.length),F.map (· + h.length),?_,List.prefix_append _ _,g1,nodup_shift _ hn,fun id hid=>?_⟩
   ·unfold callM
    have hcl : (AVal.agg cs).clean = true:=g2
    simp only [hm,hs,hc,hcl,if_true]
   ·obtain ⟨y,_,rfl⟩:=List.mem_map.1 hid
    omega
theorem shiftA_ownc {n : Nat} {v : AVal} (h : v.ownc = true) : shiftA n v = shift0 n v:=by cases v <;> first | rfl | (simp [AVal.ownc,AVal.isScalar] at h)
theorem clean_ownc {v : AVal} (h : v.ownc = true) : v.clean = true:=by cases v <;> first | exact h | (simp [AVal.ownc,AVal.isScalar] at h)
theorem RetL.at {α : Type} {g : α → AVal} {sz : Nat} {pr : Prims} {f : FuncId} {args args' : List AVal} {xs : List α} {h : Heap} (hr : RetL g sz pr f args' xs) (hM : modes f = Am.Mode.N) (hs : snapL h args = some args') (hk : ∀ x,keepV (g x) = true) (hsh : ∀ n x,shift1 n (g x) = g x) :
  ∃ v hh F,callM (cfp pr) (call (cfp pr)) f args h = some (.ret v hh) ∧ h <+: hh ∧ OwnL g sz hh xs v F ∧ F.Nodup ∧ ∀ id ∈ F,h.length ≤ id:=by
   obtain ⟨v,h1,F,hc,ho,hn⟩:=hr
   have hm : (cfp pr).M f = .N:=hM
   have ho2:=ho.ownc
   refine ⟨shiftA h.length v,h ++ h1.map (AObj.keep h.length),F.map (· + h.length),?_,List.prefix_append _ _,by rw [shiftA_ownc ho2]; exact ho.shift hk hsh,nodup_shift _ hn,fun id hid=>?_⟩
   ·unfold callM
    simp only [hm,hs,hc,clean_ownc ho2,if_true]
   ·obtain ⟨y,_,rfl⟩:=List.mem_map.1 hid
    omega
theorem RetS.at {pr : Prims} {f : FuncId} {args args' : List AVal} {ps : List Plan} {h : Heap} (hr : RetS pr f args' ps) (hM : modes f = Am.Mode.N) (hs : snapL h args = some args') :
  ∃ v hh F,callM (cfp pr) (call (cfp pr)) f args h = some (.ret v hh) ∧ h <+: hh ∧ OwnK hh ps v F ∧ F.Nodup ∧ ∀ id ∈ F,h.length ≤ id:=by
   obtain ⟨v,h1,F,hc,ho,hn⟩:=hr
   have hm : (cfp pr).M f = .N:=hM
   have ho2:=OwnK.ownc ho
   refine ⟨shiftA h.length v,h ++ h1.map (AObj.keep h.length),F.map (· + h.length),?_,List.prefix_append _ _,?_,nodup_shift _ hn,fun id hid=>?_⟩
   ·unfold callM
    simp only [hm,hs,hc,clean_ownc ho2,if_true]
   ·rw [shiftA_ownc ho2]
    rcases ho with ⟨rfl,rfl,rfl⟩ | ⟨id,vs,Fs,rfl,h5,h6,rfl⟩
    ·exact .inl ⟨rfl,rfl,rfl⟩
    ·obtain ⟨g1,g2⟩:=(own_shift (h:=h) _).2 ps vs Fs (Nat.le_refl _) h6
     exact .inr ⟨id + h.length,_,_,rfl,by rw [joined_get h5,keep_arr g2],g1,by simp⟩
   ·obtain ⟨y,_,rfl⟩:=List.mem_map.1 hid
    omega
end Go.Proofs.YtebciagembenjaaDoor
/- A heap in parts: what lies where, and that no two parts meet. -/
set_option maxHeartbeats 4000000
namespace Go.Am
open Go
theorem fin_cell {P : Program} {fn : Func} {st : St} {d t k : Nat} {x v : AVal} (hr : fn.results.toList = [.cell d t]) (ht : st.tm d = .ptr k 0 0) (hk : st.hp[k]? = some (.box x)) (hv : partA P t x 0 = some v) : finA P fn (some (.ret st)) = some (.ret v st.hp):=by
 have h1 : resA P st (.cell d t) = some v:=by
  simp only [resA,ht,loadA,hk,if_true,hv]
 simp only [finA,hr,mapO,h1,Option.map_some]
 rfl
structure Chunk where
 F : List Nat
 P : Heap → Prop
 loc : ∀ h h',P h → (∀ id ∈ F,h'[id]? = h[id]?) → P h'
 lt : ∀ h,P h → ∀ id ∈ F,id < h.length
def Chunk.row (k : Nat) (o : AObj) : Chunk:=⟨[k],fun h=>h[k]? = some o,fun h h' hp hf=>by rw [hf k (by simp)]; exact hp,fun h hp id hid=>by simp at hid; subst hid; exact get_lt hp⟩
structure Sepa (h : Heap) (L : List Chunk) : Prop where
 get' : ∀ (i : Nat) c,L[i]? = some c → c.P h ∧ c.F.Nodup
 apart : ∀ (i j : Nat) c d,i ≠ j → L[i]? = some c → L[j]? = some d → ∀ id ∈ c.F,id ∉ d.F
theorem Sepa.nil (h : Heap) : Sepa h []:=⟨fun i c hi=>by simp at hi,fun i j c d _ hi=>by simp at hi⟩
section
variable {h h' : Heap} {L : List Chunk}
theorem Sepa.get (s : Sepa h L) (i : Nat) {c : Chunk} (hi : L[i]? = some c) : c.P h:=(s.get' i c hi).1
theorem Sepa.row (s : Sepa h L) (i : Nat) {k : Nat} {o : AObj} (hi : L[i]? = some (.row k o)) : h[k]? = some o:=s.get i hi
theorem Sepa.lt (s : Sepa h L) (i : Nat) {c : Chunk} (hi : L[i]? = some c) : ∀ id ∈ c.F,id < h.length:=c.lt h (s.get i hi)
theorem Sepa.cons (s : Sepa h L) {c : Chunk} (hg : ∀ id,id < h.length → h'[id]? = h[id]?) (hc : c.P h') (hn : c.F.Nodup) (hd : ∀ id ∈ c.F,h.length ≤ id) : Sepa h' (c :: L):=by
 have old : ∀ (i : Nat) d,L[i]? = some d → d.P h':=fun i d hi=>d.loc h h' (s.get i hi) fun id hid=>hg id (s.lt i hi id hid)
 refine ⟨fun i d hi=>?_,fun i j d e hij hi hj id hid=>?_⟩
 ·cases i with
  | zero=>simp at hi; subst hi; exact ⟨hc,hn⟩
  | succ i=>exact ⟨old i d (by simpa using hi),(s.get' i d (by simpa using hi)).2⟩
 ·cases i with
  | zero=>
   simp at hi
   subst hi
   cases j with
   | zero=>exact absurd rfl hij
   | succ j=>intro hm; have:=s.lt j (by simpa using hj) id hm; have:=hd id hid; omega
  | succ i=>
   cases j with
   | zero=>simp at hj; subst hj; intro hm; have:=s.lt i (by simpa using hi) id hid; have:=hd id hm; omega
   | succ j=>exact s.apart i j d e (by omega) (by simpa using hi) (by simpa using hj) id hid
theorem Sepa.alloc (s : Sepa h L) {k : Nat} {o : AObj} (hk : k = h.length) (e : h' = h ++ [o]) : Sepa h' (.row k o :: L):=
 s.cons (fun id hid=>by subst e; exact List.getElem?_append_left hid) (get_new hk e) (by simp [Chunk.row]) (by intro id hid; simp [Chunk.row] at hid; omega)
theorem Sepa.more (s : Sepa h L) {c : Chunk} (hp : h <+: h') (hc : c.P h') (hn : c.F.Nodup) (hd : ∀ id ∈ c.F,h.length ≤ id) : Sepa h' (c :: L):=
 s.cons (fun id hid=>by obtain ⟨t,rfl⟩:=hp; exact List.getElem?_append_left hid) hc hn hd
theorem Sepa.grow (s : Sepa h L) (hg : ∀ id,id < h.length → h'[id]? = h[id]?) : Sepa h' L:=
 ⟨fun i d hi=>⟨d.loc h h' (s.get i hi) fun id hid=>hg id (s.lt i hi id hid),(s.get' i d hi).2⟩,s.apart⟩
theorem Sepa.turn (s : Sepa h L) (i : Nat) {c c' : Chunk} (hi : L[i]? = some c) (hg : ∀ id,id < h.length → id ∉ c.F → h'[id]? = h[id]?) (hc : c'.P h') (hn : c'.F.Nodup) (hd : ∀ id ∈ c'.F,id ∈ c.F ∨ h.length ≤ id) : Sepa h' (L.set i c'):=by
 have hil : i < L.length:=(List.getElem?_eq_some_iff.1 hi).1
 have other : ∀ (j : Nat) d,j ≠ i → L[j]? = some d → d.P h':=fun j d hj hd'=>d.loc h h' (s.get j hd') fun id hid=>hg id (s.lt j hd' id hid) (s.apart j i d c hj hd' hi id hid)
 have cases' : ∀ (j : Nat) d,(L.set i c')[j]? = some d → (j = i ∧ d = c') ∨ (j ≠ i ∧ L[j]? = some d):=by
  intro j d hj
  by_cases e : i = j
  ·subst e; rw [List.getElem?_set_self hil] at hj; cases hj; exact .inl ⟨rfl,rfl⟩
  ·rw [List.getElem?_set_ne e] at hj; exact .inr ⟨fun h=>e h.symm,hj⟩
 have apart1 : ∀ (j : Nat) d,j ≠ i → L[j]? = some d → ∀ id ∈ c'.F,id ∉ d.F:=by
  intro j d hj hdj id hid hm
  rcases hd id hid with h1 | h1
  ·exact s.apart i j c d (fun e=>hj e.symm) hi hdj id h1 hm
  ·have:=s.lt j hdj id hm; omega
 refine ⟨fun j d hj=>?_,fun j k d e hjk hj hk id hid hm=>?_⟩
 ·rcases cases' j d hj with ⟨_,rfl⟩ | ⟨h1,h2⟩
  ·exact ⟨hc,hn⟩
  ·exact ⟨other j d h1 h2,(s.get' j d h2).2⟩
 ·rcases cases' j d hj with ⟨rfl,rfl⟩ | ⟨h1,h2⟩ <;> rcases cases' k e hk with ⟨rfl,rfl⟩ | ⟨h3,h4⟩
  ·exact hjk rfl
  ·exact apart1 k e h3 h4 id hid hm
  ·exact apart1 j d h1 h2 id hm hid
  ·exact s.apart j k d e hjk h2 h4 id hid hm
theorem Sepa.set (s : Sepa h L) (i : Nat) {k : Nat} {o o' : AObj} (hi : L[i]? = some (.row k o)) (e : h' = h.set k o') : Sepa h' (L.set i (.row k o')):=
 s.turn i hi (fun id _ hid=>by subst e; exact List.getElem?_set_ne (fun e=>hid (by simp [Chunk.row,e]))) (get_same e (s.row i hi)) (by simp [Chunk.row]) (fun id hid=>.inl hid)
theorem Sepa.drop (s : Sepa h L) (i : Nat) : Sepa h (L.eraseIdx i):=by
 have key : ∀ (j : Nat) d,(L.eraseIdx i)[j]? = some d → L[if j < i then j else j + 1]? = some d:=by
  intro j d hj
  rw [List.getElem?_eraseIdx] at hj
  split
  ·rename_i hl; rw [if_pos hl] at hj; exact hj
  ·rename_i hl; rw [if_neg hl] at hj; exact hj
 refine ⟨fun j d hj=>s.get' _ d (key j d hj),fun j k d e hjk hj hk=>s.apart _ _ d e ?_ (key j d hj) (key k e hk)⟩
 split <;> split <;> omega
theorem Sepa.move (s : Sepa h L) (i : Nat) {k k2 : Nat} {o o' : AObj} (hi : L[i]? = some (.row k o)) (hk : k2 = h.length) (e : h' = h.set k .dead ++ [o']) : Sepa h' (.row k2 o' :: L.eraseIdx i):=by
 have s1:=(s.set i (h':=h.set k .dead) (o':=.dead) hi rfl).drop i
 have : (L.set i (.row k .dead)).eraseIdx i = L.eraseIdx i:=by
  apply List.ext_getElem?
  intro j
  rw [List.getElem?_eraseIdx,List.getElem?_eraseIdx]
  split
  ·rw [List.getElem?_set_ne (by omega)]
  ·rw [List.getElem?_set_ne (by omega)]
 rw [this] at s1
 exact s1.alloc (by simp [hk]) e
theorem Sepa.front (s : Sepa h L) (i : Nat) {c : Chunk} (hi : L[i]? = some c) : Sepa h (c :: L.eraseIdx i):=by
 have key : ∀ (j : Nat) d,(L.eraseIdx i)[j]? = some d → L[if j < i then j else j + 1]? = some d:=by
  intro j d hj
  rw [List.getElem?_eraseIdx] at hj
  split
  ·rename_i hl; rw [if_pos hl] at hj; exact hj
  ·rename_i hl; rw [if_neg hl] at hj; exact hj
 refine ⟨fun j d hj=>?_,fun j k d e hjk hj hk=>?_⟩
 ·cases j with
  | zero=>simp at hj; subst hj; exact s.get' i _ hi
  | succ j=>exact s.get' _ d (key j d (by simpa using hj))
 ·cases j with
  | zero=>
   simp at hj
   subst hj
   cases k with
   | zero=>exact absurd rfl hjk
   | succ k=>exact s.apart i _ _ e (by split <;> omega) hi (key k e (by simpa using hk))
  | succ j=>
   cases k with
   | zero=>simp at hk; subst hk; exact s.apart _ i d _ (by split <;> omega) (key j d (by simpa using hj)) hi
   | succ k=>exact s.apart _ _ d e (by split <;> split <;> omega) (key j d (by simpa using hj)) (key k e (by simpa using hk))
theorem set_same {h : Heap} {id : Nat} {o : AObj} (e : h[id]? = some o) : h.set id o = h:=by
 apply List.ext_getElem?
 intro j
 by_cases hj : id = j
 ·subst hj; rw [List.getElem?_set_self (get_lt e),e]
 ·rw [List.getElem?_set_ne hj]
theorem AppR_own {i id sz : Nat} {es ys : List AVal} {K : AVal → Heap → Prop} (s : Sepa h L) (hi : L[i]? = some (.row id (.arr sz es))) (hl : es.length + ys.length ≤ sizeLim)
  (hk : ∀ k h',Sepa h' (.row k (.arr sz (es ++ ys)) :: L.eraseIdx i) → K (.own k 0 (es ++ ys).length) h') : AppR h sz (.own id 0 es.length) ys K:=by
   refine ⟨es,s.row i hi,rfl,Nat.le_refl _,?_⟩
   by_cases hy : ys = []
   ·left
    subst hy
    refine ⟨rfl,fun h' e=>?_⟩
    rw [List.take_length,set_same (s.row i hi)] at e
    subst e
    have:=hk id h' (by simpa using s.front i hi)
    simpa using this
   ·refine .inr ⟨hy,hl,fun k h' e1 e2=>?_⟩
    rw [List.take_length] at e2 ⊢
    exact hk k h' (s.move i hi e1 e2)
theorem AppR_nil {sz : Nat} {ys : List AVal} {K : AVal → Heap → Prop} (s : Sepa h L) (hy : ys ≠ []) (hl : ys.length ≤ sizeLim) (hk : ∀ k h',Sepa h' (.row k (.arr sz ys) :: L) → K (.own k 0 ys.length) h') : AppR h sz .nil ys K:=
 .inr ⟨hy,hl,fun k h' e1 e2=>hk k h' (s.alloc e1 e2)⟩
end
end Go.Am
namespace Go.Proofs.YtebciagembenjaaDoor
open Go Go.Am
def _root_.Go.Am.Chunk.plan (p : Plan) (v : AVal) (F : List Nat) : Chunk:=⟨F,fun h=>OwnP h p v F,fun h h' hp hf=>OwnP.frame hp hf,fun h hp=>OwnP.lt hp⟩
def _root_.Go.Am.Chunk.plans (ps : List Plan) (vs : List AVal) (F : List Nat) : Chunk:=⟨F,fun h=>OwnPs h ps vs F,fun h h' hp hf=>OwnPs.frame hp hf,fun h hp=>OwnPs.lt hp⟩
def _root_.Go.Am.Chunk.kids (ps : List Plan) (D : AVal) (F : List Nat) : Chunk:=⟨F,fun h=>OwnK h ps D F,fun h h' hp hf=>OwnK.frame hp hf,fun h hp=>OwnK.lt hp⟩
def _root_.Go.Am.Chunk.list {α : Type} (f : α → AVal) (sz : Nat) (xs : List α) (v : AVal) (F : List Nat) : Chunk:=⟨F,fun h=>OwnL f sz h xs v F,fun h h' hp hf=>OwnL.frame hp hf,fun h hp=>OwnL.lt hp⟩
end Go.Proofs.YtebciagembenjaaDoor
/- Lists that are gathered by 'append'. -/
set_option maxHeartbeats 4000000
namespace Go.Am
open Go
theorem reload_box {cf : Cfg} {tm : Nat → AVal} {h : Heap} {t : TypeId} {a : Operand} {id off : Nat} {x v v' : AVal} (ha : ev cf.G tm a = some (.ptr id 0 off)) (hx : h[id]? = some (.box x)) (hp : partA cf.P t x off = some v) (he : v' = v) :
  opEval cf tm h (.load t a) = some (.val v' h):=by
   subst he
   simp only [opEval,ha,loadA,hx,hp,if_true,Option.map_some]
def pickL (L : List Chunk) : List Nat → List Chunk
 | []=>[]
 | i :: is=>match L[i]? with
  | some c=>c :: pickL L is
  | none=>pickL L is
theorem mem_pickL {L : List Chunk} {d : Chunk} : ∀ {is : List Nat},d ∈ pickL L is → ∃ j ∈ is,L[j]? = some d
 | [],h=>by simp [pickL] at h
 | i :: is,h=>by
  simp only [pickL] at h
  split at h
  ·rename_i c hc
   rcases List.mem_cons.1 h with rfl | h
   ·exact ⟨i,by simp,hc⟩
   ·obtain ⟨j,hj,hd⟩:=mem_pickL h
    exact ⟨j,by simp [hj],hd⟩
  ·obtain ⟨j,hj,hd⟩:=mem_pickL h
   exact ⟨j,by simp [hj],hd⟩
theorem Sepa.cons' {h : Heap} {L : List Chunk} {c : Chunk} (s : Sepa h L) (hc : c.P h) (hn : c.F.Nodup) (ha : ∀ d ∈ L,∀ id ∈ c.F,id ∉ d.F) : Sepa h (c :: L):=by
 refine ⟨fun i d hi=>?_,fun i j d e hij hi hj id hid hm=>?_⟩
 ·cases i with
  | zero=>simp at hi; subst hi; exact ⟨hc,hn⟩
  | succ i=>exact s.get' i d (by simpa using hi)
 ·cases i with
  | zero=>
   simp at hi
   subst hi
   cases j with
   | zero=>exact hij rfl
   | succ j=>exact ha e (List.mem_of_getElem? (by simpa using hj)) id hid hm
  | succ i=>
   cases j with
   | zero=>simp at hj; subst hj; exact ha d (List.mem_of_getElem? (by simpa using hi)) id hm hid
   | succ j=>exact s.apart i j d e (by omega) (by simpa using hi) (by simpa using hj) id hid hm
theorem Sepa.pick {h : Heap} {L : List Chunk} (s : Sepa h L) : ∀ (is : List Nat),is.Nodup → Sepa h (pickL L is)
 | [],_=>Sepa.nil h
 | i :: is,hn=>by
  obtain ⟨h1,h2⟩:=List.nodup_cons.1 hn
  simp only [pickL]
  split
  ·rename_i c hc
   exact (s.pick is h2).cons' (s.get' i c hc).1 (s.get' i c hc).2 fun d hd=>by
    obtain ⟨j,hj,hd⟩:=mem_pickL hd
    exact s.apart i j c d (fun e=>h1 (e ▸ hj)) hc hd
  ·exact s.pick is h2
def AccP {α : Type} (f : α → AVal) (sz : Nat) (h : Heap) (xs : List α) (v : AVal) : Prop:=(xs = [] ∧ v = .nil) ∨ ∃ id,v = .own id 0 xs.length ∧ h[id]? = some (.arr sz (xs.map f))
def accF : AVal → List Nat
 | .own id _ _=>[id]
 | _=>[]
def Chunk.acc {α : Type} (f : α → AVal) (sz : Nat) (xs : List α) (v : AVal) : Chunk:=⟨accF v,fun h=>AccP f sz h xs v,fun h h' hp hf=>by
  rcases hp with hp | ⟨id,rfl,h1⟩
  ·exact .inl hp
  ·exact .inr ⟨id,rfl,by rw [hf id (by simp [accF])]; exact h1⟩,fun h hp id hid=>by
  rcases hp with ⟨_,rfl⟩ | ⟨id',rfl,h1⟩
  ·simp [accF] at hid
  ·simp [accF] at hid; subst hid; exact get_lt h1⟩
theorem Sepa.accNil {α : Type} (f : α → AVal) (sz : Nat) {h : Heap} {L : List Chunk} (s : Sepa h L) : Sepa h (.acc f sz [] .nil :: L):=
 s.more (c:=.acc f sz [] .nil) (List.prefix_refl _) (.inl ⟨rfl,rfl⟩) (by simp [Chunk.acc,accF]) (by simp [Chunk.acc,accF])
def plainH (h : Heap) : Prop:=h.all AObj.plainR = true
theorem plainH.alloc {h h' : Heap} {o : AObj} (hp : plainH h) (ho : o.plainR = true) (e : h' = h ++ [o]) : plainH h':=by
 subst e
 unfold plainH at *
 rw [List.all_append,hp]
 simp [ho]
theorem plainH.set {h h' : Heap} {o : AObj} {k : Nat} (hp : plainH h) (ho : o.plainR = true) (e : h' = h.set k o) : plainH h':=by
 subst e
 unfold plainH at *
 rw [List.all_eq_true] at *
 intro x hx
 rcases List.mem_or_eq_of_mem_set hx with h | rfl
 ·exact hp x h
 ·exact ho
theorem appAcc {α : Type} {f : α → AVal} {sz : Nat} {h : Heap} {B : List Chunk} {xs : List α} {x : α} {v : AVal} {K : AVal → Heap → Prop} (S : Sepa h (.acc f sz xs v :: B)) (hl : xs.length + 1 ≤ sizeLim)
  (hK : ∀ k h',Sepa h' (.acc f sz (xs ++ [x]) (.own k 0 (xs ++ [x]).length) :: B) → (plainH h → (∀ y ∈ xs ++ [x],(f y).nonm1 = true) → plainH h') → K (.own k 0 (xs ++ [x]).length) h') : AppR h sz v [f x] K:=by
   have key : ∀ k h',(h'[k]? = some (.arr sz ((xs ++ [x]).map f))) → AccP f sz h' (xs ++ [x]) (.own k 0 (xs ++ [x]).length):=fun k h' hk=>.inr ⟨k,rfl,hk⟩
   have h0 : AccP f sz h xs v:=S.get 0 rfl
   rcases h0 with ⟨rfl,rfl⟩ | ⟨id,rfl,h1⟩
   ·refine .inr ⟨by simp,by simp [sizeLim],fun k h' e1 e2=>?_⟩
    have S1:=(S.drop 0).alloc e1 e2
    dsimp only [List.eraseIdx] at S1
    refine hK k h' ((S1.front 0 rfl).turn 0 (c:=.row k (.arr sz [f x])) (c':=.acc f sz [x] (.own k 0 1)) rfl (fun _ _ _=>rfl) (.inr ⟨k,rfl,get_new e1 e2⟩) (by simp [Chunk.acc,accF]) (fun id hid=>.inl hid)) fun hp hy=>hp.alloc (by simpa [AObj.plainR] using hy x (by simp)) e2
   ·have hl' : (xs.map f).length = xs.length:=by simp
    refine ⟨_,h1,rfl,by simp,.inr ⟨by simp,hl,fun k h' e1 e2=>?_⟩⟩
    rw [show (xs.map f).take xs.length = xs.map f by rw [List.take_of_length_le (by simp)]] at e2 ⊢
    have e3 : xs.map f ++ [f x] = (xs ++ [x]).map f:=by simp
    rw [e3] at e2 ⊢
    have S1:=S.turn 0 (c':=.row id .dead) (h':=h.set id .dead) rfl (fun j hj hne=>List.getElem?_set_ne (fun e=>hne (by simp [Chunk.acc,accF,e]))) (get_same rfl h1) (by simp [Chunk.row]) (fun j hj=>.inl hj)
    dsimp only [List.set] at S1
    have S2:=(S1.drop 0).alloc (by simpa using e1) e2
    dsimp only [List.eraseIdx] at S2
    rw [List.length_map]
    exact hK k h' (S2.turn 0 (c:=.row k (.arr sz ((xs ++ [x]).map f))) (c':=.acc f sz (xs ++ [x]) (.own k 0 (xs ++ [x]).length)) rfl (fun _ _ _=>rfl) (.inr ⟨k,rfl,S2.row 0 rfl⟩) (by simp [Chunk.acc,accF]) (fun id hid=>.inl hid))
     fun hp hy=>(hp.set rfl rfl).alloc (by rw [AObj.plainR,List.all_eq_true]; intro z hz; obtain ⟨y,hy',rfl⟩:=List.mem_map.1 hz; exact hy y hy') e2
theorem AccP.frozen {α : Type} {f : α → AVal} {sz : Nat} {h : Heap} {xs : List α} {v : AVal} (ha : AccP f sz h xs v) (hf : ∀ x ∈ xs,snapF h 4194303 (f x) = some (f x)) : snap h v = some (.sl (xs.map f)):=by
 rcases ha with ⟨rfl,rfl⟩ | ⟨id,rfl,h1⟩
 ·rfl
 ·have:=snap_ownk h1 fun x hx=>by obtain ⟨y,hy,rfl⟩:=List.mem_map.1 hx; exact hf y hy
  simpa using this
theorem AccP.cases {α : Type} {f : α → AVal} {sz : Nat} {h : Heap} {xs : List α} {v : AVal} (ha : AccP f sz h xs v) : v = .nil ∨ ∃ id,v = .own id 0 xs.length:=by
 rcases ha with ⟨_,h⟩ | ⟨id,h,_⟩
 ·exact .inl h
 ·exact .inr ⟨id,h⟩
theorem snapL1 {h : Heap} {a a' : AVal} (ha : snap h a = some a') : snapL h [a] = some [a']:=by simp only [snapL,mapO,ha]
theorem snapL2 {h : Heap} {a a' b b' : AVal} (ha : snap h a = some a') (hb : snap h b = some b') : snapL h [a,b] = some [a',b']:=by simp only [snapL,mapO,ha,hb]
theorem elems_row1 {h : Heap} {k sz : Nat} {v : AVal} (hk : h[k]? = some (.arr sz [v])) : elemsA h (.own k 0 1) = some [v]:=by
 simp only [elemsA,hk]
 rfl
end Go.Am
namespace Go.Proofs.YtebciagembenjaaDoor
open Go Go.Am
variable {pr : Prims} (hp : Okp pr)
set_option maxRecDepth 100000
def RetK (pr : Prims) (f : FuncId) (args : List AVal) (res : AVal) : Prop:=∃ v h1,call (cfp pr) f args [] = some (.ret v h1) ∧ snap h1 v = some res
theorem RetK.clo {f : FuncId} {args args' : List AVal} {res : AVal} (hr : RetK pr f args' res) (hM : modes f = Am.Mode.K) (hs : snapL [] args = some args') : ∀ h,callM (cfp pr) (call (cfp pr)) f args h = some (.ret res h):=by
 intro h
 obtain ⟨v,h1,hc,hv⟩:=hr
 have hm : (cfp pr).M f = .K:=hM
 unfold callM
 simp only [hm,hs,hc,hv,Option.map_some]
theorem RetK.own {f : FuncId} {args args' : List AVal} {res : AVal} {h : Heap} (hr : RetK pr f args' res) (hM : modes f = Am.Mode.K) (hn : snapL [] args = none) (ho : args.all (AVal.oneR h) = true) (hpl : plainH h) (hs : snapL h args = some args') :
  callM (cfp pr) (call (cfp pr)) f args h = some (.ret res (h.map AObj.freeze)):=by
   obtain ⟨v,h1,hc,hv⟩:=hr
   have hm : (cfp pr).M f = .K:=hM
   have hpl' : h.all AObj.plainR = true:=hpl
   unfold callM
   simp only [hm,hn,ho,hpl',Bool.and_true,hs,hc,hv,Option.map_some]
end Go.Proofs.YtebciagembenjaaDoor

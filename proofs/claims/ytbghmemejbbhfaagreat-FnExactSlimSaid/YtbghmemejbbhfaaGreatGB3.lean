/- Marks in plans. -/
import Derived.Test.YtbghmemejbbhfaaGreatGB2
set_option linter.unusedVariables false
set_option linter.unusedSimpArgs false
/- Marks in lists. -/
namespace Go.Am
open Go
/-- What lies outside stays. -/
structure Fr (h0 h : Heap) (F : List Nat) : Prop where
  len : h0.length ≤ h.length
  out : ∀ id, id < h0.length → id ∉ F → h[id]? = h0[id]?
theorem Fr.refl (h : Heap) (F : List Nat) : Fr h h F := ⟨Nat.le_refl _, fun _ _ _ => rfl⟩
theorem Fr.set {h0 h h' : Heap} {F : List Nat} {k : Nat} {o : AObj} (f : Fr h0 h F) (e : h' = h.set k o) (hk : k ∈ F ∨ h0.length ≤ k) : Fr h0 h' F :=
  ⟨by subst e; simpa using f.len, fun id h1 h2 => by
    subst e
    rw [List.getElem?_set_ne (fun e => by subst e; rcases hk with h | h; · exact h2 h
                                          · omega)]
    exact f.out id h1 h2⟩
theorem Fr.alloc {h0 h h' : Heap} {F : List Nat} {o : AObj} (f : Fr h0 h F) (e : h' = h ++ [o]) : Fr h0 h' F :=
  ⟨by subst e; have := f.len; simp; omega, fun id h1 h2 => by
    subst e
    rw [List.getElem?_append_left (by have := f.len; omega)]
    exact f.out id h1 h2⟩
theorem Fr.turn {h0 h h' : Heap} {F F2 : List Nat} (f : Fr h0 h F) (g : Fr h h' F2) (hF : ∀ id ∈ F2, id ∈ F ∨ h0.length ≤ id) : Fr h0 h' F :=
  ⟨Nat.le_trans f.len g.len, fun id h1 h2 => by
    rw [g.out id (by have := f.len; omega) (fun hm => by rcases hF id hm with h | h; · exact h2 h
                                                         · omega)]
    exact f.out id h1 h2⟩
theorem Fr.mono {h0 h : Heap} {F F2 : List Nat} (f : Fr h0 h F) (hF : ∀ id ∈ F, id ∈ F2 ∨ h0.length ≤ id) : Fr h0 h F2 :=
  ⟨f.len, fun id h1 h2 => f.out id h1 fun hm => by rcases hF id hm with h | h; · exact h2 h
                                                   · omega⟩
theorem Sepa.one {h : Heap} {c : Chunk} (hc : c.P h) (hn : c.F.Nodup) : Sepa h [c] := by
  refine ⟨fun i d hi => ?_, fun i j d e hij hi hj => ?_⟩
  · cases i with
    | zero => simp at hi; subst hi; exact ⟨hc, hn⟩
    | succ i => simp at hi
  · cases i with
    | zero =>
      cases j with
      | zero => exact absurd rfl hij
      | succ j => simp at hj
    | succ i => simp at hi
theorem Sepa.fr {h h' : Heap} {L : List Chunk} (s : Sepa h L) (i : Nat) {c c' : Chunk} (hi : L[i]? = some c) (g : Fr h h' c.F) (hc : c'.P h') (hF : c'.F = c.F) : Sepa h' (L.set i c') :=
  s.turn i hi g.out hc (by rw [hF]; exact (s.get' i c hi).2) fun id hid => .inl (by rw [← hF]; exact hid)
theorem rowGet {A B : List AVal} {e : AVal} {i : Nat} (h : i = A.length) : (A ++ e :: B)[i]? = some e := by
  subst h
  rw [List.getElem?_append_right (Nat.le_refl _), Nat.sub_self]
  rfl
theorem rowSet {A B : List AVal} {e e' : AVal} {i : Nat} (h : i = A.length) : (A ++ e :: B).set i e' = A ++ e' :: B := by
  subst h
  rw [List.set_append_right _ _ (Nat.le_refl _), Nat.sub_self]
  rfl
theorem Sepa.setRow {h h' : Heap} {L : List Chunk} (s : Sepa h L) (i : Nat) {k sz idx : Nat} {A B : List AVal} {e e' : AVal} (hi : L[i]? = some (.row k (.arr sz (A ++ e :: B)))) (hx : idx = A.length) (hh : h' = h.set k (.arr sz ((A ++ e :: B).set idx e'))) :
    Sepa h' (L.set i (.row k (.arr sz (A ++ e' :: B)))) := by
  rw [rowSet hx] at hh
  exact s.set i hi hh
theorem wrap1 (x : Int) (h0 : 0 ≤ x) (h1 : x < 4611686018427387904) : IntKind.i64.wrap (x + 1) = x + 1 := by
  rw [IntKind.wrap_i64]
  omega
end Go.Am
namespace Go.Proofs.YtbghmemejbbhfaaGreat
open Go Go.Am
variable {pr : Prims} (hp : Okp pr)
theorem callF {f : FuncId} (hM : modes f = Am.Mode.F) (args : List AVal) (h : Heap) : callM (cfp pr) (call (cfp pr)) f args h = call (cfp pr) f args h := by
  have hm : (cfp pr).M f = .F := hM
  unfold callM
  simp only [hm]
def mkCells (k : Int) (n : Nat) : List Cell := (List.range n).map fun (i : Nat) => ⟨k + 4 * (i : Int), k + 4 * (i : Int) + 1, k + 4 * (i : Int) + 1 + 1, k + 4 * (i : Int) + 1 + 1 + 1⟩
def mkInts (k : Int) (n : Nat) : List Int := (List.range n).map fun (i : Nat) => k + (i : Int)
theorem mkCells_len (k : Int) (n : Nat) : (mkCells k n).length = n := by simp [mkCells]
theorem mkInts_len (k : Int) (n : Nat) : (mkInts k n).length = n := by simp [mkInts]
theorem mkCells_succ (k : Int) (n : Nat) : mkCells k (n + 1) = mkCells k n ++ [⟨k + 4 * (n : Int), k + 4 * (n : Int) + 1, k + 4 * (n : Int) + 1 + 1, k + 4 * (n : Int) + 1 + 1 + 1⟩] := by simp [mkCells, List.range_succ]
theorem mkInts_succ (k : Int) (n : Nat) : mkInts k (n + 1) = mkInts k n ++ [k + (n : Int)] := by simp [mkInts, List.range_succ]
set_option maxRecDepth 100000
theorem markCellS_f (hp : Okp pr) (xs : List Cell) (v : AVal) (F : List Nat) (h : Heap) (k : Int) (ho : OwnL Cell.enc 4 h xs v F) (h0 : 0 ≤ k) (hb : k + 4 * (xs.length : Int) ≤ 1152921504606846976) :
    ∃ h', callM (cfp pr) (call (cfp pr)) 36 [v, i64 k] h = some (.ret (i64 (k + 4 * (xs.length : Int))) h') ∧ Fr h h' F ∧ OwnL Cell.enc 4 h' (mkCells k xs.length) v F := by
  rw [callF rfl]
  suffices hw : wpFq (cfp pr) 36 [v, i64 k] h (fun r => ∃ h', r = .ret (i64 (k + 4 * (xs.length : Int))) h' ∧ Fr h h' F ∧ OwnL Cell.enc 4 h' (mkCells k xs.length) v F) by
    obtain ⟨r, hr, h', rfl, h1, h2⟩ := wpFq_sound (hp.out _ rfl) hw
    exact ⟨h', hr, h1, h2⟩
  rcases ho with ⟨rfl, rfl, hv⟩ | ⟨id, rfl, hrow, rfl⟩
  · rcases hv with rfl | rfl
    iterate 2
      · conv => whnf
        refine loop_unroll ?_
        conv => whnf
        exact ⟨_, rfl, h, by simp; rfl, Fr.refl _ _, .inl ⟨by simp [mkCells], rfl, by simp⟩⟩
  · refine loop_ruley true (fun m st => ∃ j : Nat, j + m = xs.length ∧ st.tm 0 = .own id 0 xs.length ∧ st.tm 1 = i64 (k + 4 * (j : Int)) ∧ st.tm 5 = i64 (j : Nat) ∧
      Sepa st.hp [.row id (.arr 4 ((mkCells k j).map Cell.enc ++ (xs.drop j).map Cell.enc))] ∧ Fr h st.hp [id]) (fun m st hI => ?_) xs.length _ ⟨0, by simp, rfl, by simp; rfl, rfl, ?_, Fr.refl _ _⟩
    rotate_left
    · exact Sepa.one (c := .row id (.arr 4 _)) (by show h[id]? = _; rw [hrow]; simp [mkCells]) (by simp [Chunk.row])
    obtain ⟨j, hj, e0, e1, e5, S, fr⟩ := hI
    obtain ⟨tm, hq⟩ := st
    simp only at e0 e1 e5 S fr
    rw [show tm = upd (upd (upd tm 0 (.own id 0 xs.length)) 1 (i64 (k + 4 * (j : Int)))) 5 (i64 (j : Nat)) by rw [upd_id e0, upd_id e1, upd_id e5]]
    clear e0 e1 e5
    have hAl : ((mkCells k j).map Cell.enc).length = j := by simp [mkCells_len]
    have hms := mkCells_succ k j
    have hkk : k + 4 * ((j + 1 : Nat) : Int) = k + 4 * (j : Int) + 1 + 1 + 1 + 1 := by omega
    have hb2 : j < xs.length → k + 4 * (j : Int) + 4 ≤ 1152921504606846976 := fun hjl => by omega
    have hpos : 0 ≤ k + 4 * (j : Int) := by omega
    generalize hkd : k + 4 * (j : Int) = kk at hms hkk hb2 hpos
    conv => whnf
    refine bsel_intro (fun h1 => ?_) (fun h1 => ?_)
    · have hjl : j < xs.length := by simpa using h1
      have hidx : 0 + ((j : Nat) : Int).toNat = ((mkCells k j).map Cell.enc).length := by rw [hAl]; simp
      have hb3 := hb2 hjl
      rw [List.drop_eq_getElem_cons hjl, List.map_cons] at S
      generalize xs[j] = q at S
      obtain ⟨q1, q2, q3, q4⟩ := q
      conv => whnf
      refine ⟨_, S.row 0 rfl, ⟨by omega, by omega⟩, ?_⟩
      conv => whnf
      refine ⟨_, rfl, rfl, rfl, .inr ⟨_, _, _, S.row 0 rfl, rowGet hidx, ?_⟩⟩
      conv => whnf
      intro c1 hh_c1
      replace fr := fr.set hh_c1 (.inl (by simp))
      replace S := S.setRow 0 rfl hidx hh_c1
      dsimp only [List.set] at S
      conv => whnf
      rw [wrap1 (kk) (by omega) (by omega)]
      refine ⟨_, S.row 0 rfl, ⟨by omega, by omega⟩, ?_⟩
      conv => whnf
      refine ⟨_, rfl, rfl, rfl, .inr ⟨_, _, _, S.row 0 rfl, rowGet hidx, ?_⟩⟩
      conv => whnf
      intro c2 hh_c2
      replace fr := fr.set hh_c2 (.inl (by simp))
      replace S := S.setRow 0 rfl hidx hh_c2
      dsimp only [List.set] at S
      conv => whnf
      rw [wrap1 (kk + 1) (by omega) (by omega)]
      refine ⟨_, S.row 0 rfl, ⟨by omega, by omega⟩, ?_⟩
      conv => whnf
      refine ⟨_, rfl, rfl, rfl, .inr ⟨_, _, _, S.row 0 rfl, rowGet hidx, ?_⟩⟩
      conv => whnf
      intro c3 hh_c3
      replace fr := fr.set hh_c3 (.inl (by simp))
      replace S := S.setRow 0 rfl hidx hh_c3
      dsimp only [List.set] at S
      conv => whnf
      rw [wrap1 (kk + 1 + 1) (by omega) (by omega)]
      refine ⟨_, S.row 0 rfl, ⟨by omega, by omega⟩, ?_⟩
      conv => whnf
      refine ⟨_, rfl, rfl, rfl, .inr ⟨_, _, _, S.row 0 rfl, rowGet hidx, ?_⟩⟩
      conv => whnf
      intro c4 hh_c4
      replace fr := fr.set hh_c4 (.inl (by simp))
      replace S := S.setRow 0 rfl hidx hh_c4
      dsimp only [List.set] at S
      conv => whnf
      rw [wrap1 (kk + 1 + 1 + 1) (by omega) (by omega)]
      conv => whnf
      refine ⟨m - 1, by omega, j + 1, by omega, rfl, by rw [hkk]; rfl, nat_step j (by omega), ?_, fr⟩
      rw [hms, List.map_append, List.append_assoc]
      exact S
    · have hje : j = xs.length := by
        have : ¬ j < xs.length := by simpa using h1
        omega
      subst hje
      conv => whnf
      have e := S.row 0 rfl
      rw [List.drop_length, List.map_nil, List.append_nil] at e
      exact ⟨_, rfl, hq, by rw [hkd]; rfl, fr, .inr ⟨id, by rw [mkCells_len], e, rfl⟩⟩
theorem markIntS_f (hp : Okp pr) (xs : List Int) (v : AVal) (F : List Nat) (h : Heap) (k : Int) (ho : OwnL i64 1 h xs v F) (h0 : 0 ≤ k) (hb : k + (xs.length : Int) ≤ 1152921504606846976) :
    ∃ h', callM (cfp pr) (call (cfp pr)) 37 [v, i64 k] h = some (.ret (i64 (k + (xs.length : Int))) h') ∧ Fr h h' F ∧ OwnL i64 1 h' (mkInts k xs.length) v F := by
  rw [callF rfl]
  suffices hw : wpFq (cfp pr) 37 [v, i64 k] h (fun r => ∃ h', r = .ret (i64 (k + (xs.length : Int))) h' ∧ Fr h h' F ∧ OwnL i64 1 h' (mkInts k xs.length) v F) by
    obtain ⟨r, hr, h', rfl, h1, h2⟩ := wpFq_sound (hp.out _ rfl) hw
    exact ⟨h', hr, h1, h2⟩
  rcases ho with ⟨rfl, rfl, hv⟩ | ⟨id, rfl, hrow, rfl⟩
  · rcases hv with rfl | rfl
    iterate 2
      · conv => whnf
        refine loop_unroll ?_
        conv => whnf
        exact ⟨_, rfl, h, by simp; rfl, Fr.refl _ _, .inl ⟨by simp [mkInts], rfl, by simp⟩⟩
  · refine loop_ruley true (fun m st => ∃ j : Nat, j + m = xs.length ∧ st.tm 0 = .own id 0 xs.length ∧ st.tm 1 = i64 (k + (j : Int)) ∧ st.tm 5 = i64 (j : Nat) ∧
      Sepa st.hp [.row id (.arr 1 ((mkInts k j).map i64 ++ (xs.drop j).map i64))] ∧ Fr h st.hp [id]) (fun m st hI => ?_) xs.length _ ⟨0, by simp, rfl, by simp; rfl, rfl, ?_, Fr.refl _ _⟩
    rotate_left
    · exact Sepa.one (c := .row id (.arr 1 _)) (by show h[id]? = _; rw [hrow]; simp [mkInts]) (by simp [Chunk.row])
    obtain ⟨j, hj, e0, e1, e5, S, fr⟩ := hI
    obtain ⟨tm, hq⟩ := st
    simp only at e0 e1 e5 S fr
    rw [show tm = upd (upd (upd tm 0 (.own id 0 xs.length)) 1 (i64 (k + (j : Int)))) 5 (i64 (j : Nat)) by rw [upd_id e0, upd_id e1, upd_id e5]]
    clear e0 e1 e5
    have hAl : ((mkInts k j).map i64).length = j := by simp [mkInts_len]
    have hms := mkInts_succ k j
    have hkk : k + ((j + 1 : Nat) : Int) = k + (j : Int) + 1 := by omega
    have hb2 : j < xs.length → k + (j : Int) + 1 ≤ 1152921504606846976 := fun hjl => by omega
    have hpos : 0 ≤ k + (j : Int) := by omega
    generalize hkd : k + (j : Int) = kk at hms hkk hb2 hpos
    conv => whnf
    refine bsel_intro (fun h1 => ?_) (fun h1 => ?_)
    · have hjl : j < xs.length := by simpa using h1
      have hidx : 0 + ((j : Nat) : Int).toNat = ((mkInts k j).map i64).length := by rw [hAl]; simp
      have hb3 := hb2 hjl
      rw [List.drop_eq_getElem_cons hjl, List.map_cons] at S
      generalize xs[j] = q at S
      conv => whnf
      refine ⟨_, S.row 0 rfl, ⟨by omega, by omega⟩, ?_⟩
      conv => whnf
      refine ⟨_, rfl, rfl, rfl, .inr ⟨_, _, _, S.row 0 rfl, rowGet hidx, ?_⟩⟩
      conv => whnf
      intro c1 hh_c1
      replace fr := fr.set hh_c1 (.inl (by simp))
      replace S := S.setRow 0 rfl hidx hh_c1
      dsimp only [List.set] at S
      conv => whnf
      rw [wrap1 (kk) (by omega) (by omega)]
      conv => whnf
      refine ⟨m - 1, by omega, j + 1, by omega, rfl, by rw [hkk]; rfl, nat_step j (by omega), ?_, fr⟩
      rw [hms, List.map_append, List.append_assoc]
      exact S
    · have hje : j = xs.length := by
        have : ¬ j < xs.length := by simpa using h1
        omega
      subst hje
      conv => whnf
      have e := S.row 0 rfl
      rw [List.drop_length, List.map_nil, List.append_nil] at e
      exact ⟨_, rfl, hq, by rw [hkd]; rfl, fr, .inr ⟨id, by rw [mkInts_len], e, rfl⟩⟩
end Go.Proofs.YtbghmemejbbhfaaGreat
/- Marks in plans. -/
namespace Go.Am
open Go
theorem Sepa.split {h : Heap} {L : List Chunk} {c d e : Chunk} (s : Sepa h (e :: L)) (hc : c.P h) (hd : d.P h) (hF : ∀ id, id ∈ c.F ∨ id ∈ d.F → id ∈ e.F) (hn : (c.F ++ d.F).Nodup) : Sepa h (c :: d :: L) := by
  rw [List.nodup_append] at hn
  obtain ⟨n1, n2, n3⟩ := hn
  refine ⟨fun i x hi => ?_, fun i j x y hij hi hj id hid hm => ?_⟩
  · match i, hi with
    | 0, hi => simp at hi; subst hi; exact ⟨hc, n1⟩
    | 1, hi => simp at hi; subst hi; exact ⟨hd, n2⟩
    | i + 2, hi => exact s.get' (i + 1) x (by simpa using hi)
  · match i, hi, j, hj with
    | 0, _, 0, _ => exact hij rfl
    | 1, _, 1, _ => exact hij rfl
    | 0, hi, 1, hj => simp at hi hj; subst hi; subst hj; exact n3 id hid id hm rfl
    | 1, hi, 0, hj => simp at hi hj; subst hi; subst hj; exact n3 id hm id hid rfl
    | 0, hi, j + 2, hj => simp at hi; subst hi; exact s.apart 0 (j + 1) e y (by omega) rfl (by simpa using hj) id (hF id (.inl hid)) hm
    | 1, hi, j + 2, hj => simp at hi; subst hi; exact s.apart 0 (j + 1) e y (by omega) rfl (by simpa using hj) id (hF id (.inr hid)) hm
    | i + 2, hi, 0, hj => simp at hj; subst hj; exact s.apart 0 (i + 1) e x (by omega) rfl (by simpa using hi) id (hF id (.inl hm)) hid
    | i + 2, hi, 1, hj => simp at hj; subst hj; exact s.apart 0 (i + 1) e x (by omega) rfl (by simpa using hi) id (hF id (.inr hm)) hid
    | i + 2, hi, j + 2, hj => exact s.apart (i + 1) (j + 1) x y (by omega) (by simpa using hi) (by simpa using hj) id hid hm
end Go.Am
namespace Go.Proofs.YtbghmemejbbhfaaGreat
open Go Go.Am
variable {pr : Prims} (hp : Okp pr)
def k12 (k : Int) : Int := k + 1 + 1 + 1 + 1 + 1 + 1 + 1 + 1 + 1 + 1 + 1 + 1
def mkTest (k : Int) : Test := ⟨k + 1 + 1, (k + 1 + 1 + 1).tmod 3 == 0, ⟨k + 1 + 1 + 1 + 1, k + 1 + 1 + 1 + 1 + 1, k + 1 + 1 + 1 + 1 + 1 + 1, k + 1 + 1 + 1 + 1 + 1 + 1 + 1⟩,
  ⟨k + 1 + 1 + 1 + 1 + 1 + 1 + 1 + 1, k + 1 + 1 + 1 + 1 + 1 + 1 + 1 + 1 + 1, k + 1 + 1 + 1 + 1 + 1 + 1 + 1 + 1 + 1 + 1, k + 1 + 1 + 1 + 1 + 1 + 1 + 1 + 1 + 1 + 1 + 1⟩⟩
mutual
/-- A plan that bears marks from 'k' on; 'k'' is the next. -/
def MkOne : Plan → Int → Int → Prop
  | .mk kind n test cells a b keys agg col kids, k, k' => kind = k ∧ n = k + 1 ∧ test = mkTest k ∧ cells = mkCells (k12 k) cells.length ∧ a = k12 k + 4 * (cells.length : Int) ∧ b = k12 k + 4 * (cells.length : Int) + 1 ∧
      keys = mkInts (k12 k + 4 * (cells.length : Int) + 1 + 1) keys.length ∧ agg = k12 k + 4 * (cells.length : Int) + 1 + 1 + (keys.length : Int) ∧ col = k12 k + 4 * (cells.length : Int) + 1 + 1 + (keys.length : Int) + 1 ∧
      MkS kids (k12 k + 4 * (cells.length : Int) + 1 + 1 + (keys.length : Int) + 1 + 1) k'
def MkS : List Plan → Int → Int → Prop
  | [], k, k' => k' = k
  | p :: ps, k, k' => ∃ k1, MkOne p k k1 ∧ MkS ps k1 k'
end
def MkIn : Plan → Int → Int → Prop
  | .mk kind n test cells a b keys agg col kids, k, k' => cells = mkCells k cells.length ∧ keys = mkInts (k + 4 * (cells.length : Int)) keys.length ∧ MkS kids (k + 4 * (cells.length : Int) + (keys.length : Int)) k'
theorem MkS_append : ∀ {ps : List Plan} {p : Plan} {k k1 k2 : Int}, MkS ps k k1 → MkOne p k1 k2 → MkS (ps ++ [p]) k k2
  | [], p, k, k1, k2, h, h2 => by simp only [MkS] at h; subst h; simp only [List.nil_append, MkS]; exact ⟨k2, h2, rfl⟩
  | q :: qs, p, k, k1, k2, h, h2 => by
    simp only [MkS] at h
    obtain ⟨k3, h3, h4⟩ := h
    simp only [List.cons_append, MkS]
    exact ⟨k3, h3, MkS_append h4 h2⟩
mutual
/-- How many marks a plan's element takes. -/
def cm : Plan → Nat
  | .mk kind n test cells a b keys agg col kids => 16 + 4 * cells.length + keys.length + cms kids
def cms : List Plan → Nat
  | [] => 0
  | p :: ps => cm p + cms ps
end
theorem cms_append : ∀ (ps qs : List Plan), cms (ps ++ qs) = cms ps + cms qs
  | [], qs => by simp [cms]
  | p :: ps, qs => by simp only [List.cons_append, cms, cms_append ps qs]; omega
theorem cm_sz' : ∀ (N : Nat), (∀ p : Plan, SizeOf.sizeOf p ≤ N → cm p ≤ 16 + 16 * p.sz) ∧ ∀ ps : List Plan, SizeOf.sizeOf ps ≤ N → cms ps ≤ 16 * ps.length + 16 * Plan.szs ps := by
  intro N
  induction N with
  | zero =>
    refine ⟨fun p h => ?_, fun ps h => ?_⟩
    · cases p; simp at h
    · cases ps <;> simp at h
  | succ N ih =>
    refine ⟨fun p h => ?_, fun ps h => ?_⟩
    · obtain ⟨kind, n, test, cells, a, b, keys, agg, col, kids⟩ := p
      have := ih.2 kids (by simp at h; omega)
      simp only [cm, Plan.sz]
      omega
    · cases ps with
      | nil => simp [cms]
      | cons p ps =>
        simp at h
        have h1 := ih.1 p (by omega)
        have h2 := ih.2 ps (by omega)
        simp only [cms, Plan.szs, List.length_cons]
        omega
theorem cms_ge : ∀ ps : List Plan, ps.length ≤ cms ps
  | [] => by simp
  | .mk .. :: ps => by have := cms_ge ps; simp only [cms, cm, List.length_cons]; omega
theorem cms_sz (ps : List Plan) : cms ps ≤ 16 * ps.length + 16 * Plan.szs ps := (cm_sz' _).2 ps (Nat.le_refl _)
/-- Two parts, as one. -/
def _root_.Go.Am.Chunk.two (c d : Chunk) : Chunk := ⟨c.F ++ d.F, fun h => c.P h ∧ d.P h, fun h h' hp hf => ⟨c.loc h h' hp.1 fun id hid => hf id (by simp [hid]), d.loc h h' hp.2 fun id hid => hf id (by simp [hid])⟩,
  fun h hp id hid => (List.mem_append.1 hid).elim (c.lt h hp.1 id) (d.lt h hp.2 id)⟩
/-- An element that is marked joins those ahead of it. -/
theorem gather {h : Heap} {R P2 : Chunk} {qs : List Plan} {v1 : List AVal} {F1 Fc Fk Fd : List Nat} {C K D : AVal} {kind n : Int} {test : Test} {cells : List Cell} {a b : Int} {keys : List Int} {agg col : Int} {kids : List Plan}
    (S : Sepa h [R, .plans qs v1 F1, .list Cell.enc 4 cells C Fc, .list i64 1 keys K Fk, .kids kids D Fd, P2]) :
    Sepa h [R, .plans (qs ++ [.mk kind n test cells a b keys agg col kids]) (v1 ++ [pval kind n test C a b K agg col D]) (F1 ++ (Fc ++ (Fk ++ Fd))), P2] := by
  have T1 := ((S.front 4 rfl).front 4 rfl).swap
  dsimp only [List.eraseIdx] at T1
  have T2 := T1.merge (e := (Chunk.list i64 1 keys K Fk).two (.kids kids D Fd)) ⟨T1.get 1 rfl, T1.get 0 rfl⟩ (fun id hid => (List.mem_append.1 hid).symm) T1.nodup2
  have T3 := (T2.front 3 rfl).swap
  dsimp only [List.eraseIdx] at T3
  have T4 := T3.merge (e := .plan (.mk kind n test cells a b keys agg col kids) (pval kind n test C a b K agg col D) (Fc ++ (Fk ++ Fd))) (OwnP.of (T3.get 1 rfl) (T3.get 0 rfl).1 (T3.get 0 rfl).2) (fun id hid => (List.mem_append.1 hid).symm) T3.nodup2
  have T5 := (T4.front 2 rfl).swap
  dsimp only [List.eraseIdx] at T5
  have T6 := T5.merge (e := .plans (qs ++ [.mk kind n test cells a b keys agg col kids]) (v1 ++ [pval kind n test C a b K agg col D]) (F1 ++ (Fc ++ (Fk ++ Fd))))
    (OwnPs_append (T5.get 1 rfl) (by simp only [OwnPs]; exact ⟨_, [], _, [], rfl, by simp, T5.get 0 rfl, rfl, rfl⟩)) (fun id hid => (List.mem_append.1 hid).symm) T5.nodup2
  exact T6.swap
/-- The next element's parts. -/
theorem ungather {h : Heap} {R P1 : Chunk} {v2 : List AVal} {F2 : List Nat} {kind n : Int} {test : Test} {cells : List Cell} {a b : Int} {keys : List Int} {agg col : Int} {kids rest : List Plan}
    (S : Sepa h [R, P1, .plans (.mk kind n test cells a b keys agg col kids :: rest) v2 F2]) :
    ∃ C K D v2' Fc Fk Fd F2', v2 = pval kind n test C a b K agg col D :: v2' ∧ F2 = (Fc ++ (Fk ++ Fd)) ++ F2' ∧ Sepa h [R, P1, .list Cell.enc 4 cells C Fc, .list i64 1 keys K Fk, .kids kids D Fd, .plans rest v2' F2'] := by
  have h1 : OwnPs h _ v2 F2 := S.get 2 rfl
  simp only [OwnPs] at h1
  obtain ⟨v, v2', Fp, F2', rfl, rfl, h2, h3⟩ := h1
  have h2' := h2
  rw [OwnP_mk] at h2
  obtain ⟨C, K, D, Fc, Fk, Fd, rfl, g1, g2, g3, rfl⟩ := h2
  have hn : (((Fc ++ (Fk ++ Fd)) ++ F2')).Nodup := (S.get' 2 _ rfl).2
  refine ⟨C, K, D, v2', Fc, Fk, Fd, F2', rfl, rfl, ?_⟩
  have T0 := S.front 2 rfl
  dsimp only [List.eraseIdx] at T0
  have T1 := T0.split (c := .plan (.mk kind n test cells a b keys agg col kids) _ (Fc ++ (Fk ++ Fd))) (d := .plans rest v2' F2') h2' h3 (fun id hid => List.mem_append.2 hid) hn
  have hn1 : (Fc ++ (Fk ++ Fd)).Nodup := (List.nodup_append.1 hn).1
  have T2 := T1.split (c := .list Cell.enc 4 cells C Fc) (d := (Chunk.list i64 1 keys K Fk).two (.kids kids D Fd)) g1 ⟨g2, g3⟩ (fun id hid => List.mem_append.2 hid) hn1
  have T3 := T2.swap.split (c := .list i64 1 keys K Fk) (d := .kids kids D Fd) g2 g3 (fun id hid => List.mem_append.2 hid) (List.nodup_append.1 hn1).2.1
  -- [lk, kd, lc, P2, R, P1]
  have T4 := T3.front 4 rfl
  dsimp only [List.eraseIdx] at T4
  have T5 := (T4.front 5 rfl).swap
  dsimp only [List.eraseIdx] at T5
  -- [R, P1, lk, kd, lc, P2]
  have T6 := T5.front 4 rfl
  dsimp only [List.eraseIdx] at T6
  have T7 := (T6.front 2 rfl)
  dsimp only [List.eraseIdx] at T7
  have T8 := T7.front 2 rfl
  dsimp only [List.eraseIdx] at T8
  exact T8
end Go.Proofs.YtbghmemejbbhfaaGreat

/- Parts in any order, and parts of parts. No Go here. -/
import Derived.Test.YtebciagembenjaaDoorGH22
import Derived.Test.YtebciagembenjaaDoorGH20
set_option linter.unusedVariables false
set_option linter.unusedSimpArgs false
/- The law's own functions: copies of plans, the caller's own. -/
set_option maxHeartbeats 4000000
namespace Go.Am
open Go
theorem Sepa.merge {h : Heap} {L : List Chunk} {c d e : Chunk} (s : Sepa h (c :: d :: L)) (he : e.P h) (hF : ∀ id ∈ e.F,id ∈ c.F ∨ id ∈ d.F) (hn : e.F.Nodup) : Sepa h (e :: L):=by
 refine ⟨fun i x hi=>?_,fun i j x y hij hi hj id hid=>?_⟩
 ·cases i with
  | zero=>simp at hi; subst hi; exact ⟨he,hn⟩
  | succ i=>exact s.get' (i + 2) x (by simpa using hi)
 ·cases i with
  | zero=>
   simp at hi
   subst hi
   cases j with
   | zero=>exact absurd rfl hij
   | succ j=>
    rcases hF id hid with h1 | h1
    ·exact s.apart 0 (j + 2) c y (by omega) rfl (by simpa using hj) id h1
    ·exact s.apart 1 (j + 2) d y (by omega) rfl (by simpa using hj) id h1
  | succ i=>
   cases j with
   | zero=>
    simp at hj
    subst hj
    intro hm
    rcases hF id hm with h1 | h1
    ·exact s.apart (i + 2) 0 x c (by omega) (by simpa using hi) rfl id hid h1
    ·exact s.apart (i + 2) 1 x d (by omega) (by simpa using hi) rfl id hid h1
   | succ j=>exact s.apart (i + 2) (j + 2) x y (by omega) (by simpa using hi) (by simpa using hj) id hid
theorem nodup_join {F G : List Nat} (h1 : F.Nodup) (h2 : G.Nodup) (h3 : ∀ id ∈ F,id ∉ G) : (F ++ G).Nodup:=by
 rw [List.nodup_append]
 exact ⟨h1,h2,fun a ha b hb e=>h3 a ha (e ▸ hb)⟩
theorem Sepa.nodup2 {h : Heap} {L : List Chunk} {c d : Chunk} (s : Sepa h (c :: d :: L)) : (d.F ++ c.F).Nodup:=nodup_join (s.get' 1 d rfl).2 (s.get' 0 c rfl).2 (s.apart 1 0 d c (by omega) rfl rfl)
theorem Sepa.swap {h : Heap} {L : List Chunk} {c d : Chunk} (s : Sepa h (c :: d :: L)) : Sepa h (d :: c :: L):=by
 have key : ∀ i x,(d :: c :: L)[i]? = some x → ∃ j,(c :: d :: L)[j]? = some x ∧ (i = 0 → j = 1) ∧ (i = 1 → j = 0) ∧ (2 ≤ i → j = i):=by
  intro i x hi
  match i,hi with
  | 0,hi=>exact ⟨1,by simpa using hi,by simp,by simp,by simp⟩
  | 1,hi=>exact ⟨0,by simpa using hi,by simp,by simp,by simp⟩
  | i + 2,hi=>exact ⟨i + 2,by simpa using hi,by simp,by omega,by simp⟩
 refine ⟨fun i x hi=>?_,fun i j x y hij hi hj=>?_⟩
 ·obtain ⟨k,hk,_⟩:=key i x hi; exact s.get' k x hk
 ·obtain ⟨k,hk,k0,k1,k2⟩:=key i x hi
  obtain ⟨l,hl,l0,l1,l2⟩:=key j y hj
  refine s.apart k l x y ?_ hk hl
  rcases Nat.lt_or_ge i 2 with h1 | h1 <;> rcases Nat.lt_or_ge j 2 with h2 | h2
  ·rcases (by omega : i = 0 ∨ i = 1) with h3 | h3 <;> rcases (by omega : j = 0 ∨ j = 1) with h4 | h4 <;> first | omega | (have:=k0 h3; have:=l1 h4; omega) | (have:=k1 h3; have:=l0 h4; omega)
  ·have:=l2 h2; rcases (by omega : i = 0 ∨ i = 1) with h3 | h3
   ·have:=k0 h3; omega
   ·have:=k1 h3; omega
  ·have:=k2 h1; rcases (by omega : j = 0 ∨ j = 1) with h3 | h3
   ·have:=l0 h3; omega
   ·have:=l1 h3; omega
  ·have:=k2 h1; have:=l2 h2; omega
end Go.Am
namespace Go.Proofs.YtebciagembenjaaDoor
open Go Go.Am
variable {pr : Prims} (hp : Okp pr)
theorem OwnL.cell {α : Type} {f : α → AVal} {sz : Nat} {h : Heap} {xs : List α} {v : AVal} {F : List Nat} (ho : OwnL f sz h xs v F) : v.cells = [v] ∧ v.isCell = true:=by
 rcases ho with ⟨_,_,rfl | rfl⟩ | ⟨id,rfl,_,_⟩ <;> exact ⟨rfl,rfl⟩
theorem OwnK.cell {h : Heap} {ps : List Plan} {D : AVal} {F : List Nat} (ho : OwnK h ps D F) : D.cells = [D] ∧ D.isCell = true:=by
 rcases ho with ⟨_,rfl,_⟩ | ⟨id,vs,Fs,rfl,_⟩ <;> exact ⟨rfl,rfl⟩
set_option maxRecDepth 100000
end Go.Proofs.YtebciagembenjaaDoor
/- toPlan: the caller's own. -/
set_option maxHeartbeats 4000000
namespace Go.Proofs.YtebciagembenjaaDoor
open Go Go.Am
variable {pr : Prims} (hp : Okp pr)
set_option maxRecDepth 100000
theorem OwnP.of {h : Heap} {kind n : Int} {test : Test} {cells : List Cell} {a b : Int} {keys : List Int} {agg col : Int} {kids : List Plan} {C K D : AVal} {Fc Fk Fd : List Nat}
  (h1 : OwnL Cell.enc 4 h cells C Fc) (h2 : OwnL i64 1 h keys K Fk) (h3 : OwnK h kids D Fd) : OwnP h (.mk kind n test cells a b keys agg col kids) (pval kind n test C a b K agg col D) (Fc ++ (Fk ++ Fd)):=
   OwnP_mk.2 ⟨C,K,D,Fc,Fk,Fd,rfl,h1,h2,h3,rfl⟩
end Go.Proofs.YtebciagembenjaaDoor
/- Items, flows, views, stores as data; the law's copies of items. -/
set_option maxHeartbeats 4000000
namespace Go.Am
open Go
end Go.Am
namespace Go.Proofs.YtebciagembenjaaDoor
open Go Go.Am
variable {pr : Prims} (hp : Okp pr)
set_option maxRecDepth 100000
theorem Own.cell {h : Heap} {sz : Nat} {xs : List Dat} {v : AVal} {F : List Nat} (ho : Own h (.s sz xs) v F) : v.cells = [v] ∧ v.isCell = true:=by
 simp only [Own] at ho
 rcases ho with ⟨_,_,rfl | rfl⟩ | ⟨id,vs,Fs,rfl,_⟩ <;> exact ⟨rfl,rfl⟩
theorem OwnC_nil {h : Heap} {vs : List AVal} {F : List Nat} : OwnC h [] vs F ↔ vs = [] ∧ F = []:=by simp only [OwnC]
theorem OwnC_i {h : Heap} {x : Int} {ds : List Dat} {vs : List AVal} {F : List Nat} : OwnC h (.i x :: ds) vs F ↔ ∃ vs',vs = i64 x :: vs' ∧ OwnC h ds vs' F:=by
 simp only [OwnC,Own]
 constructor
 ·rintro ⟨v,vs',F1,F2,rfl,rfl,⟨rfl,rfl⟩,h2⟩
  exact ⟨vs',rfl,h2⟩
 ·rintro ⟨vs',rfl,h2⟩
  exact ⟨_,vs',[],F,rfl,rfl,⟨rfl,rfl⟩,h2⟩
theorem OwnC_s {h : Heap} {sz : Nat} {xs ds : List Dat} {vs : List AVal} {F : List Nat} : OwnC h (.s sz xs :: ds) vs F ↔ ∃ v vs' F1 F2,vs = v :: vs' ∧ F = F1 ++ F2 ∧ Own h (.s sz xs) v F1 ∧ OwnC h ds vs' F2:=by
 rw [OwnC]
 constructor
 ·rintro ⟨v,vs',F1,F2,rfl,rfl,h1,h2⟩
  exact ⟨v,vs',F1,F2,by rw [h1.cell.1]; rfl,rfl,h1,h2⟩
 ·rintro ⟨v,vs',F1,F2,rfl,rfl,h1,h2⟩
  exact ⟨v,vs',F1,F2,by rw [h1.cell.1]; rfl,rfl,h1,h2⟩
def pcells (kind n : Int) (test : Test) (C : AVal) (a b : Int) (K : AVal) (agg col : Int) (D : AVal) (r : List AVal) : List AVal:=
 i64 kind :: i64 n :: i64 test.kind :: .bool test.no :: i64 test.l.kind :: i64 test.l.a :: i64 test.l.b :: i64 test.l.n :: i64 test.r.kind :: i64 test.r.a :: i64 test.r.b :: i64 test.r.n ::
  C :: i64 a :: i64 b :: K :: i64 agg :: i64 col :: D :: r
theorem callD {h : Heap} {L : List Chunk} {f : FuncId} {args args' : List AVal} {d : Dat} {K : ARes → Prop} (S : Sepa h L) (hr : RetD pr f args' d) (hM : modes f = Am.Mode.N) (hs : snapL h args = some args')
  (hK : ∀ v hh F,Own hh d v F → Sepa hh (.dat d v F :: L) → K (.ret v hh)) : ∃ r,callM (cfp pr) (call (cfp pr)) f args h = some r ∧ K r:=by
   obtain ⟨v,hh,F,hc,hpre,ho,hn,hd⟩:=hr.at (h:=h) hM hs
   exact ⟨_,hc,hK v hh F ho (S.more hpre ho hn hd)⟩
theorem RetL.toD {f : FuncId} {args : List AVal} {xs : List Int} (hr : RetL i64 1 pr f args xs) : RetD pr f args (.s 1 (xs.map Dat.i)):=by
 obtain ⟨v,h1,F,hc,ho,hn⟩:=hr
 exact ⟨v,h1,F,hc,OwnL_i.1 ho,hn⟩
theorem RetN.toD {f : FuncId} {args : List AVal} {p : Plan} (hr : RetN pr f args p) : RetD pr f args (.p p):=by
 obtain ⟨v,h1,F,hc,ho,hn⟩:=hr
 exact ⟨v,h1,F,hc,by simp only [Own]; exact ho,hn⟩
theorem allc {c : AVal} {r : List AVal} (h : c.isCell = true) (h2 : r.all AVal.isCell = true) : (c :: r).all AVal.isCell = true:=by simp [h,h2]
def Ints.d (xs : List Int) : Dat:=.s 1 (xs.map Dat.i)
def Item.d (x : Item) : Dat:=.g [Ints.d x.row,.i x.w]
def Items.enc (xs : List Item) : AVal:=.sl (xs.map Item.enc)
def Items.d (xs : List Item) : Dat:=.s 2 (xs.map Item.d)
def Runs.enc (xs : List (List Item)) : AVal:=.sl (xs.map Items.enc)
def Runs.d (xs : List (List Item)) : Dat:=.s 1 (xs.map Items.d)
inductive Flow where
 | mk (plan : Plan) (left right : List (List Item)) (kids : List Flow)
mutual
def Flow.enc : Flow → AVal
 | .mk (.mk kind n test cells a b keys agg col kids) l r ks=>.agg (pcells kind n test (.sl (cells.map Cell.enc)) a b (.sl (keys.map i64)) agg col (.sl (Plan.encs kids)) [Runs.enc l,Runs.enc r,.sl (Flow.encs ks)])
def Flow.encs : List Flow → List AVal
 | []=>[]
 | f :: fs=>f.enc :: Flow.encs fs
end
mutual
def Flow.d : Flow → Dat
 | .mk p l r ks=>.g [.p p,.g [Runs.d l],.g [Runs.d r],.s 22 (Flow.ds ks)]
def Flow.ds : List Flow → List Dat
 | []=>[]
 | f :: fs=>f.d :: Flow.ds fs
end
structure Past where
 at' : Int
 out : List Item
def Past.enc (x : Past) : AVal:=.agg [i64 x.at',Items.enc x.out]
def Past.d (x : Past) : Dat:=.g [.i x.at',Items.d x.out]
structure View where
 flow : Flow
 since : Int
 base : List Item
 pasts : List Past
def View.enc (x : View) : AVal:=.agg (x.flow.enc.cells ++ [i64 x.since,Items.enc x.base,.sl (x.pasts.map Past.enc)])
def View.d (x : View) : Dat:=.g [x.flow.d,.i x.since,Items.d x.base,.s 2 (x.pasts.map Past.d)]
structure Store where
 wides : List Int
 tables : List (List Item)
 views : List View
 now : Int
 keep : Int
def Store.enc (x : Store) : AVal:=.agg [.sl (x.wides.map i64),Runs.enc x.tables,.sl (x.views.map View.enc),i64 x.now,i64 x.keep]
def Store.d (x : Store) : Dat:=.g [Ints.d x.wides,Runs.d x.tables,.s 25 (x.views.map View.d),.i x.now,.i x.keep]
theorem encs_dat {α : Type} {f : α → Dat} {g : α → AVal} (h : ∀ x,(f x).enc = g x) (xs : List α) : Dat.encs (xs.map f) = xs.map g:=by
 rw [Dat.encs_map,List.map_map]
 exact List.map_congr_left fun x _=>h x
theorem Item.d_enc (x : Item) : x.d.enc = x.enc:=by
 simp only [Item.d,Ints.d,Dat.enc,Dat.encC,Dat.encs_i,AVal.cells]
 rfl
theorem Items.d_enc (xs : List Item) : (Items.d xs).enc = Items.enc xs:=by simp only [Items.d,Items.enc,Dat.enc,encs_dat Item.d_enc]
theorem Runs.d_enc (xs : List (List Item)) : (Runs.d xs).enc = Runs.enc xs:=by simp only [Runs.d,Runs.enc,Dat.enc,encs_dat Items.d_enc]
theorem Runs.cells (xs : List (List Item)) : (Runs.d xs).enc.cells = [Runs.enc xs]:=by rw [Runs.d_enc]; rfl
mutual
theorem Flow.d_enc : ∀ f : Flow,f.d.enc = f.enc
 | .mk (.mk kind n test cells a b keys agg col kids) l r ks=>by
  simp only [Flow.d,Flow.enc,Dat.enc,Dat.encC,Flow.ds_enc ks,Runs.cells,List.append_nil]
  simp only [AVal.cells,Plan.enc]
  rfl
theorem Flow.ds_enc : ∀ fs : List Flow,Dat.encs (Flow.ds fs) = Flow.encs fs
 | []=>by simp [Flow.ds,Dat.encs,Flow.encs]
 | f :: fs=>by simp only [Flow.ds,Dat.encs,Flow.encs,Flow.d_enc f,Flow.ds_enc fs]
end
theorem Past.d_enc (x : Past) : x.d.enc = x.enc:=by
 simp only [Past.d,Past.enc,Dat.enc,Dat.encC,Items.d_enc,AVal.cells]
 rfl
theorem View.d_enc (x : View) : x.d.enc = x.enc:=by
 simp only [View.d,View.enc,Dat.enc,Dat.encC,Items.d_enc,Flow.d_enc,encs_dat Past.d_enc]
 rfl
theorem Store.d_enc (x : Store) : x.d.enc = x.enc:=by
 simp only [Store.d,Store.enc,Ints.d,Dat.enc,Dat.encC,Dat.encs_i,Runs.cells,encs_dat View.d_enc]
 rfl
end Go.Proofs.YtebciagembenjaaDoor
/- The law's copies of items, runs, flows, stores. (Printed by gencp.py.) -/
set_option maxHeartbeats 4000000
namespace Go.Proofs.YtebciagembenjaaDoor
open Go Go.Am
variable {pr : Prims} (hp : Okp pr)
set_option maxRecDepth 100000
theorem take_snoc {α : Type} {xs : List α} {j : Nat} (h : j < xs.length) : xs.take (j + 1) = xs.take j ++ [xs[j]]:=by rw [List.take_add_one]; simp [h]
theorem OwnC_one {h : Heap} {sz : Nat} {xs : List Dat} {v : AVal} {ds : List Dat} {vs : List AVal} {F1 F2 : List Nat} (h1 : Own h (.s sz xs) v F1) (h2 : OwnC h ds vs F2) : OwnC h (.s sz xs :: ds) (v :: vs) (F1 ++ F2):=OwnC_s.2 ⟨v,vs,F1,F2,rfl,rfl,h1,h2⟩
theorem OwnC_int {h : Heap} {x : Int} {ds : List Dat} {vs : List AVal} {F : List Nat} (h2 : OwnC h ds vs F) : OwnC h (.i x :: ds) (i64 x :: vs) F:=OwnC_i.2 ⟨vs,rfl,h2⟩
theorem OwnC_no {h : Heap} : OwnC h [] [] []:=OwnC_nil.2 ⟨rfl,rfl⟩
theorem Own.slice {h : Heap} {sz : Nat} {xs : List Dat} {v : AVal} {F : List Nat} (ho : Own h (.s sz xs) v F) : v = .nil ∨ v = .sl [] ∨ ∃ id n,v = .own id 0 n:=by
 simp only [Own] at ho
 rcases ho with ⟨_,_,rfl | rfl⟩ | ⟨id,vs,Fs,rfl,_⟩
 ·exact .inl rfl
 ·exact .inr (.inl rfl)
 ·exact .inr (.inr ⟨_,_,rfl⟩)
end Go.Proofs.YtebciagembenjaaDoor
/- The law's copies of flows, views, stores. (Printed by gencp.py.) -/
set_option maxHeartbeats 4000000
namespace Go.Proofs.YtebciagembenjaaDoor
open Go Go.Am
variable {pr : Prims} (hp : Okp pr)
set_option maxRecDepth 100000
theorem Own_g {h : Heap} {ds : List Dat} {v : AVal} {F : List Nat} : Own h (.g ds) v F ↔ ∃ vs,v = .agg vs ∧ OwnC h ds vs F:=by simp only [Own]
theorem Flow.encs_map (xs : List Flow) : Flow.encs xs = xs.map Flow.enc:=by induction xs with | nil=>rfl | cons x xs ih=>simp [Flow.encs,ih]
end Go.Proofs.YtebciagembenjaaDoor
/- The law's copies of pasts, views, stores. (Printed by gencp.py.) -/
set_option maxHeartbeats 4000000
namespace Go.Proofs.YtebciagembenjaaDoor
open Go Go.Am
variable {pr : Prims} (hp : Okp pr)
set_option maxRecDepth 100000
end Go.Proofs.YtebciagembenjaaDoor
/- Marks in lists. -/
set_option maxHeartbeats 4000000
namespace Go.Am
open Go
structure Fr (h0 h : Heap) (F : List Nat) : Prop where
 len : h0.length ≤ h.length
 out : ∀ id,id < h0.length → id ∉ F → h[id]? = h0[id]?
theorem Fr.refl (h : Heap) (F : List Nat) : Fr h h F:=⟨Nat.le_refl _,fun _ _ _=>rfl⟩
theorem Fr.set {h0 h h' : Heap} {F : List Nat} {k : Nat} {o : AObj} (f : Fr h0 h F) (e : h' = h.set k o) (hk : k ∈ F ∨ h0.length ≤ k) : Fr h0 h' F:=
 ⟨by subst e; simpa using f.len,fun id h1 h2=>by
  subst e
  rw [List.getElem?_set_ne (fun e => by subst e; rcases hk with h | h; · exact h2 h
                                        ·omega)]
  exact f.out id h1 h2⟩
theorem Fr.alloc {h0 h h' : Heap} {F : List Nat} {o : AObj} (f : Fr h0 h F) (e : h' = h ++ [o]) : Fr h0 h' F:=
 ⟨by subst e; have:=f.len; simp; omega,fun id h1 h2=>by
  subst e
  rw [List.getElem?_append_left (by have:=f.len; omega)]
  exact f.out id h1 h2⟩
theorem Fr.turn {h0 h h' : Heap} {F F2 : List Nat} (f : Fr h0 h F) (g : Fr h h' F2) (hF : ∀ id ∈ F2,id ∈ F ∨ h0.length ≤ id) : Fr h0 h' F:=
 ⟨Nat.le_trans f.len g.len,fun id h1 h2=>by
  rw [g.out id (by have := f.len; omega) (fun hm => by rcases hF id hm with h | h; · exact h2 h
                                                       ·omega)]
  exact f.out id h1 h2⟩
theorem Fr.mono {h0 h : Heap} {F F2 : List Nat} (f : Fr h0 h F) (hF : ∀ id ∈ F,id ∈ F2 ∨ h0.length ≤ id) : Fr h0 h F2:=
 ⟨f.len, fun id h1 h2 => f.out id h1 fun hm => by rcases hF id hm with h | h; · exact h2 h
                                                  ·omega⟩
theorem Sepa.one {h : Heap} {c : Chunk} (hc : c.P h) (hn : c.F.Nodup) : Sepa h [c]:=by
 refine ⟨fun i d hi=>?_,fun i j d e hij hi hj=>?_⟩
 ·cases i with
  | zero=>simp at hi; subst hi; exact ⟨hc,hn⟩
  | succ i=>simp at hi
 ·cases i with
  | zero=>
   cases j with
   | zero=>exact absurd rfl hij
   | succ j=>simp at hj
  | succ i=>simp at hi
theorem Sepa.fr {h h' : Heap} {L : List Chunk} (s : Sepa h L) (i : Nat) {c c' : Chunk} (hi : L[i]? = some c) (g : Fr h h' c.F) (hc : c'.P h') (hF : c'.F = c.F) : Sepa h' (L.set i c'):=
 s.turn i hi g.out hc (by rw [hF]; exact (s.get' i c hi).2) fun id hid=>.inl (by rw [← hF]; exact hid)
theorem rowGet {A B : List AVal} {e : AVal} {i : Nat} (h : i = A.length) : (A ++ e :: B)[i]? = some e:=by
 subst h
 rw [List.getElem?_append_right (Nat.le_refl _),Nat.sub_self]
 rfl
theorem rowSet {A B : List AVal} {e e' : AVal} {i : Nat} (h : i = A.length) : (A ++ e :: B).set i e' = A ++ e' :: B:=by
 subst h
 rw [List.set_append_right _ _ (Nat.le_refl _),Nat.sub_self]
 rfl
theorem Sepa.setRow {h h' : Heap} {L : List Chunk} (s : Sepa h L) (i : Nat) {k sz idx : Nat} {A B : List AVal} {e e' : AVal} (hi : L[i]? = some (.row k (.arr sz (A ++ e :: B)))) (hx : idx = A.length) (hh : h' = h.set k (.arr sz ((A ++ e :: B).set idx e'))) :
  Sepa h' (L.set i (.row k (.arr sz (A ++ e' :: B)))):=by
   rw [rowSet hx] at hh
   exact s.set i hi hh
end Go.Am
namespace Go.Proofs.YtebciagembenjaaDoor
open Go Go.Am
variable {pr : Prims} (hp : Okp pr)
theorem callF {f : FuncId} (hM : modes f = Am.Mode.F) (args : List AVal) (h : Heap) : callM (cfp pr) (call (cfp pr)) f args h = call (cfp pr) f args h:=by
 have hm : (cfp pr).M f = .F:=hM
 unfold callM
 simp only [hm]
set_option maxRecDepth 100000
end Go.Proofs.YtebciagembenjaaDoor
/- Marks in items. -/
set_option maxHeartbeats 4000000
namespace Go.Am
open Go
theorem Sepa.cut {h : Heap} {L : List Chunk} {c c1 c2 : Chunk} (s : Sepa h (c :: L)) (hF : c.F = c1.F ++ c2.F) (h1 : c1.P h) (h2 : c2.P h) : Sepa h (c1 :: c2 :: L):=by
 have hn:=(s.get' 0 c rfl).2
 rw [hF,List.nodup_append] at hn
 obtain ⟨n1,n2,n3⟩:=hn
 have ha : ∀ (j : Nat) (d : Chunk),L[j]? = some d → ∀ id ∈ c.F,id ∉ d.F:=fun j d hd=>s.apart 0 (j + 1) c d (by omega) rfl (by simpa using hd)
 have hb : ∀ (j : Nat) (d : Chunk),L[j]? = some d → ∀ id ∈ d.F,id ∉ c.F:=fun j d hd=>s.apart (j + 1) 0 d c (by omega) (by simpa using hd) rfl
 refine ⟨fun i d hi=>?_,fun i j d e hij hi hj id hid hm=>?_⟩
 ·match i,hi with
  | 0,hi=>simp at hi; subst hi; exact ⟨h1,n1⟩
  | 1,hi=>simp at hi; subst hi; exact ⟨h2,n2⟩
  | i + 2,hi=>exact s.get' (i + 1) d (by simpa using hi)
 ·match i,j,hi,hj with
  | 0,0,_,_=>exact hij rfl
  | 1,1,_,_=>exact hij rfl
  | 0,1,hi,hj=>simp at hi hj; subst hi hj; exact n3 id hid id hm rfl
  | 1,0,hi,hj=>simp at hi hj; subst hi hj; exact n3 id hm id hid rfl
  | 0,j + 2,hi,hj=>simp at hi; subst hi; exact ha j e (by simpa using hj) id (by rw [hF]; simp [hid]) hm
  | 1,j + 2,hi,hj=>simp at hi; subst hi; exact ha j e (by simpa using hj) id (by rw [hF]; simp [hid]) hm
  | i + 2,0,hi,hj=>simp at hj; subst hj; exact hb i d (by simpa using hi) id hid (by rw [hF]; simp [hm])
  | i + 2,1,hi,hj=>simp at hj; subst hj; exact hb i d (by simpa using hi) id hid (by rw [hF]; simp [hm])
  | i + 2,j + 2,hi,hj=>exact s.apart (i + 1) (j + 1) d e (by omega) (by simpa using hi) (by simpa using hj) id hid hm
theorem Sepa.frTo {h h' : Heap} {L : List Chunk} {c c' : Chunk} (s : Sepa h (c :: L)) (g : Fr h h' c.F) (hc : c'.P h') (hF : c'.F = c.F) : Sepa h' (c' :: L):=s.fr 0 rfl g hc hF
theorem Sepa.is {h : Heap} {L : List Chunk} {c c' : Chunk} (s : Sepa h (c :: L)) (hc : c'.P h) (hF : c'.F = c.F) : Sepa h (c' :: L):=s.frTo (Fr.refl h _) hc hF
end Go.Am
namespace Go.Proofs.YtebciagembenjaaDoor
open Go Go.Am
variable {pr : Prims} (hp : Okp pr)
set_option maxRecDepth 100000
theorem Sepa.uncons {h : Heap} {L : List Chunk} {d : Dat} {ds : List Dat} {vs : List AVal} {F : List Nat} (s : Sepa h (.dats (d :: ds) vs F :: L)) : ∃ v vs' F1 F2,vs = v :: vs' ∧ F = F1 ++ F2 ∧ Sepa h (.dat d v F1 :: .dats ds vs' F2 :: L):=by
 have h0 : Owns h (d :: ds) vs F:=s.get 0 rfl
 simp only [Owns] at h0
 obtain ⟨v,vs',F1,F2,rfl,rfl,h1,h2⟩:=h0
 exact ⟨v,vs',F1,F2,rfl,rfl,s.cut rfl h1 h2⟩
theorem Sepa.open {h : Heap} {L : List Chunk} {sz : Nat} {xs : List Dat} {v : AVal} {F : List Nat} (s : Sepa h (.dat (.s sz xs) v F :: L)) : (xs = [] ∧ (v = .nil ∨ v = .sl []) ∧ Sepa h L) ∨ ∃ id vs Fs,v = .own id 0 xs.length ∧ F = id :: Fs ∧ Sepa h (.row id (.arr sz vs) :: .dats xs vs Fs :: L):=by
 have h0 : Own h (.s sz xs) v F:=s.get 0 rfl
 simp only [Own] at h0
 rcases h0 with ⟨h1,h2,h3⟩ | ⟨id,vs,Fs,rfl,h1,h2,rfl⟩
 ·exact .inl ⟨h1,h3,s.drop 0⟩
 ·exact .inr ⟨id,vs,Fs,rfl,rfl,s.cut rfl h1 h2⟩
theorem Sepa.close {h : Heap} {L : List Chunk} {sz n id : Nat} {xs : List Dat} {vs : List AVal} {Fs : List Nat} (s : Sepa h (.row id (.arr sz vs) :: .dats xs vs Fs :: L)) (hn : n = xs.length) : Sepa h (.dat (.s sz xs) (.own id 0 n) (id :: Fs) :: L):=by
 subst hn
 refine s.merge (e:=.dat (.s sz xs) (.own id 0 xs.length) (id :: Fs)) ?_ (fun j hj=>?_) ?_
 ·show Own h _ _ _
  simp only [Own]
  exact .inr ⟨id,vs,Fs,rfl,s.get 0 rfl,s.get 1 rfl,rfl⟩
 ·rcases List.mem_cons.1 hj with rfl | hj
  ·exact .inl (by simp [Chunk.row])
  ·exact .inr hj
 ·exact List.nodup_cons.2 ⟨fun hm=>s.apart 0 1 _ _ (by omega) rfl rfl id (by simp [Chunk.row]) hm,(s.get' 1 _ rfl).2⟩
theorem Sepa.snoc {h : Heap} {L : List Chunk} {ds : List Dat} {d : Dat} {vs : List AVal} {v : AVal} {F F2 : List Nat} (s : Sepa h (.dat d v F2 :: .dats ds vs F :: L)) : Sepa h (.dats (ds ++ [d]) (vs ++ [v]) (F ++ F2) :: L):=
 s.merge (e:=.dats (ds ++ [d]) (vs ++ [v]) (F ++ F2)) (Owns_append (s.get 1 rfl) (Owns_one (s.get 0 rfl))) (fun id hid=>(List.mem_append.1 hid).symm) s.nodup2
theorem tot_ints (ys : List Int) : Dat.tots (ys.map Dat.i) = 0:=by induction ys with | nil=>rfl | cons y ys ih=>simp [Dat.tots,Dat.tot,ih]
theorem Item.tot (x : Item) : x.d.tot = x.row.length:=by simp [Item.d,Ints.d,Dat.tot,Dat.tots,tot_ints]
end Go.Proofs.YtebciagembenjaaDoor
/- Parts in any order, and parts of parts. No Go here. -/
set_option maxHeartbeats 4000000
namespace Go.Am
open Go
def Chunk.off (c d : Chunk) : Prop:=∀ id ∈ c.F,id ∉ d.F
theorem Chunk.off_symm {c d : Chunk} (h : c.off d) : d.off c:=fun id h1 h2=>h id h2 h1
theorem Sepa.iff {h : Heap} {L : List Chunk} : Sepa h L ↔ (∀ c ∈ L,c.P h ∧ c.F.Nodup) ∧ L.Pairwise Chunk.off:=by
 constructor
 ·intro s
  refine ⟨fun c hc=>?_,List.pairwise_iff_getElem.2 fun i j hi hj hij=>?_⟩
  ·obtain ⟨i,hi⟩:=List.getElem?_of_mem hc
   exact s.get' i c hi
  ·exact s.apart i j _ _ (by omega) (List.getElem?_eq_getElem hi) (List.getElem?_eq_getElem hj)
 ·rintro ⟨h1,h2⟩
  rw [List.pairwise_iff_getElem] at h2
  refine ⟨fun i c hi=>h1 c (List.mem_of_getElem? hi),fun i j c d hij hi hj=>?_⟩
  obtain ⟨hi',rfl⟩:=List.getElem?_eq_some_iff.1 hi
  obtain ⟨hj',rfl⟩:=List.getElem?_eq_some_iff.1 hj
  rcases Nat.lt_or_gt_of_ne hij with h | h
  ·exact h2 i j hi' hj' h
  ·exact Chunk.off_symm (h2 j i hj' hi' h)
theorem nodup_flat : ∀ {Cs : List Chunk},(Cs.flatMap Chunk.F).Nodup → (∀ c ∈ Cs,c.F.Nodup) ∧ Cs.Pairwise Chunk.off
 | [],_=>⟨fun c hc=>by simp at hc,.nil⟩
 | c :: Cs,hn=>by
  rw [List.flatMap_cons,List.nodup_append] at hn
  obtain ⟨n1,n2,n3⟩:=hn
  obtain ⟨i1,i2⟩:=nodup_flat n2
  refine ⟨fun d hd=>?_,List.pairwise_cons.2 ⟨fun d hd id h1 h2=>n3 id h1 id (List.mem_flatMap.2 ⟨d,hd,h2⟩) rfl,i2⟩⟩
  rcases List.mem_cons.1 hd with rfl | hd
  ·exact n1
  ·exact i1 d hd
theorem Sepa.cuts {h : Heap} {L : List Chunk} {c : Chunk} (s : Sepa h (c :: L)) (Cs : List Chunk) (hF : c.F = Cs.flatMap Chunk.F) (hP : ∀ d ∈ Cs,d.P h) : Sepa h (Cs ++ L):=by
 obtain ⟨h1,h2⟩:=Sepa.iff.1 s
 obtain ⟨h3,h4⟩:=List.pairwise_cons.1 h2
 have hn:=(h1 c (by simp)).2
 rw [hF] at hn
 obtain ⟨n1,n2⟩:=nodup_flat hn
 refine Sepa.iff.2 ⟨fun d hd=>?_,List.pairwise_append.2 ⟨n2,h4,fun a ha b hb id hi=>h3 b hb id ?_⟩⟩
 ·rcases List.mem_append.1 hd with hd | hd
  ·exact ⟨hP d hd,n1 d hd⟩
  ·exact h1 d (by simp [hd])
 ·rw [hF]
  exact List.mem_flatMap.2 ⟨a,ha,hi⟩
end Go.Am

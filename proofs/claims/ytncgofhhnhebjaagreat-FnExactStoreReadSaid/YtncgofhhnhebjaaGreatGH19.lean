/- The law's copies of items, runs, flows, stores. (Printed by gencp.py.) -/
import Derived.Test.YtncgofhhnhebjaaGreatGH18
import Derived.Test.YtncgofhhnhebjaaGreatGH16
set_option linter.unusedVariables false
set_option linter.unusedSimpArgs false
/- toPlan: the caller's own. -/
set_option maxHeartbeats 4000000
namespace Go.Proofs.YtncgofhhnhebjaaGreat
open Go Go.Am
variable {pr : Prims} (hp : Okp pr)
set_option maxRecDepth 100000
theorem OwnP.of {h : Heap} {kind n : Int} {test : Test} {cells : List Cell} {a b : Int} {keys : List Int} {agg col : Int} {kids : List Plan} {C K D : AVal} {Fc Fk Fd : List Nat}
  (h1 : OwnL Cell.enc 4 h cells C Fc) (h2 : OwnL i64 1 h keys K Fk) (h3 : OwnK h kids D Fd) : OwnP h (.mk kind n test cells a b keys agg col kids) (pval kind n test C a b K agg col D) (Fc ++ (Fk ++ Fd)):=
   OwnP_mk.2 ⟨C,K,D,Fc,Fk,Fd,rfl,h1,h2,h3,rfl⟩
theorem toPlan_n' (hp : Okp pr) : ∀ (N : Nat) (p : Plan),SizeOf.sizeOf p ≤ N → p.small → RetN pr 172 [p.enc] p:=by
 intro N
 induction N with
 | zero=>intro p h; exfalso; cases p; simp at h
 | succ N ih=>
  intro p hs hsm
  obtain ⟨kind,n,test,cells,a,b,keys,agg,c,kids⟩:=p
  obtain ⟨hsc,hsk,hskids,hsks⟩:=small_split hsm
  have h1:=toTest_r hp test
  have h2:=toCellS_n hp cells hsc
  have h3:=toIntS_n hp keys hsk
  have h4:=toPlanS_n hp kids hskids fun q hq=>ih q (by have:=List.sizeOf_lt_of_mem hq; simp at hs; omega) (hsks q hq)
  refine retN_of hp rfl ?_
  have S : Sepa [] []:=Sepa.nil []
  conv=>whnf
  intro k1 a1 hk_k1 hh_a1
  replace S:=S.alloc hk_k1 hh_a1
  conv=>whnf
  intro k2 a2 hk_k2 hh_a2
  replace S:=S.alloc hk_k2 hh_a2
  conv=>whnf
  intro k3 a3 hk_k3 hh_a3
  replace S:=S.alloc hk_k3 hh_a3
  conv=>whnf
  refine .inl ⟨_,S.row 2 rfl,rfl,?_⟩
  conv=>whnf
  refine ⟨_,rfl,rfl,rfl,.inl ⟨_,S.row 0 rfl,rfl,?_⟩⟩
  conv=>whnf
  intro a4 hh_a4
  replace S:=S.set 0 rfl hh_a4
  dsimp only [List.set] at S
  conv=>whnf
  refine .inl ⟨_,S.row 2 rfl,rfl,?_⟩
  conv=>whnf
  refine ⟨_,rfl,rfl,rfl,.inl ⟨_,S.row 0 rfl,rfl,?_⟩⟩
  conv=>whnf
  intro a5 hh_a5
  replace S:=S.set 0 rfl hh_a5
  dsimp only [List.set] at S
  conv=>whnf
  refine .inl ⟨_,S.row 2 rfl,rfl,?_⟩
  conv=>whnf
  refine ⟨_,h1 _,?_⟩
  conv=>whnf
  refine ⟨_,rfl,rfl,rfl,.inl ⟨_,S.row 0 rfl,rfl,?_⟩⟩
  conv=>whnf
  intro a6 hh_a6
  replace S:=S.set 0 rfl hh_a6
  dsimp only [List.set] at S
  conv=>whnf
  refine .inl ⟨_,S.row 2 rfl,rfl,?_⟩
  conv=>whnf
  obtain ⟨C,b1,Fc,hc1,hp1,g1,n1,d1⟩:=h2.at (h:=a6) (args:=[.sl (cells.map Cell.enc)]) rfl rfl (fun _=>rfl) (fun _ _=>rfl)
  replace S:=S.more (c:=.list Cell.enc 4 cells C Fc) hp1 g1 n1 d1
  refine ⟨_,hc1,?_⟩
  refine wpC_intro ?_
  refine forceV_intro ?_
  conv=>whnf
  refine ⟨[C],g1.cell.1,rfl,(all1 g1.cell.2),.inl ⟨_,S.row 1 rfl,rfl,?_⟩⟩
  conv=>whnf
  intro a7 hh_a7
  replace S:=S.set 1 rfl hh_a7
  dsimp only [List.set] at S
  conv=>whnf
  refine .inl ⟨_,S.row 3 rfl,rfl,?_⟩
  conv=>whnf
  refine ⟨_,rfl,rfl,rfl,.inl ⟨_,S.row 1 rfl,rfl,?_⟩⟩
  conv=>whnf
  intro a8 hh_a8
  replace S:=S.set 1 rfl hh_a8
  dsimp only [List.set] at S
  conv=>whnf
  refine .inl ⟨_,S.row 3 rfl,rfl,?_⟩
  conv=>whnf
  refine ⟨_,rfl,rfl,rfl,.inl ⟨_,S.row 1 rfl,rfl,?_⟩⟩
  conv=>whnf
  intro a9 hh_a9
  replace S:=S.set 1 rfl hh_a9
  dsimp only [List.set] at S
  conv=>whnf
  refine .inl ⟨_,S.row 3 rfl,rfl,?_⟩
  conv=>whnf
  obtain ⟨K,b2,Fk,hc2,hp2,g2,n2,d2⟩:=h3.at (h:=a9) (args:=[.sl (keys.map i64)]) rfl rfl (fun _=>rfl) (fun _ _=>rfl)
  replace S:=S.more (c:=.list i64 1 keys K Fk) hp2 g2 n2 d2
  refine ⟨_,hc2,?_⟩
  refine wpC_intro ?_
  refine forceV_intro ?_
  conv=>whnf
  refine ⟨[K],g2.cell.1,rfl,(all1 g2.cell.2),.inl ⟨_,S.row 2 rfl,rfl,?_⟩⟩
  conv=>whnf
  intro a10 hh_a10
  replace S:=S.set 2 rfl hh_a10
  dsimp only [List.set] at S
  conv=>whnf
  refine .inl ⟨_,S.row 4 rfl,rfl,?_⟩
  conv=>whnf
  refine ⟨_,rfl,rfl,rfl,.inl ⟨_,S.row 2 rfl,rfl,?_⟩⟩
  conv=>whnf
  intro a11 hh_a11
  replace S:=S.set 2 rfl hh_a11
  dsimp only [List.set] at S
  conv=>whnf
  refine .inl ⟨_,S.row 4 rfl,rfl,?_⟩
  conv=>whnf
  refine ⟨_,rfl,rfl,rfl,.inl ⟨_,S.row 2 rfl,rfl,?_⟩⟩
  conv=>whnf
  intro a12 hh_a12
  replace S:=S.set 2 rfl hh_a12
  dsimp only [List.set] at S
  conv=>whnf
  refine .inl ⟨_,S.row 4 rfl,rfl,?_⟩
  conv=>whnf
  obtain ⟨D,b3,Fd,hc3,hp3,g3,n3,d3⟩:=h4.at (h:=a12) (args:=[.sl (Plan.encs kids)]) rfl rfl
  replace S:=S.more (c:=.kids kids D Fd) hp3 g3 n3 d3
  refine ⟨_,hc3,?_⟩
  refine wpC_intro ?_
  refine forceV_intro ?_
  conv=>whnf
  refine ⟨[D],g3.cell.1,rfl,(all1 g3.cell.2),.inl ⟨_,S.row 3 rfl,rfl,?_⟩⟩
  conv=>whnf
  intro a13 hh_a13
  replace S:=S.set 3 rfl hh_a13
  dsimp only [List.set] at S
  conv=>whnf
  refine .inl ⟨_,S.row 3 rfl,rfl,?_⟩
  conv=>whnf
  refine ⟨_,rfl,rfl,(pval_all g1.cell.2 g2.cell.2 g3.cell.2),.inl ⟨_,S.row 4 rfl,rfl,?_⟩⟩
  conv=>whnf
  intro a14 hh_a14
  replace S:=S.set 4 rfl hh_a14
  dsimp only [List.set] at S
  conv=>whnf
  refine ⟨_,fin_cell rfl rfl (S.row 4 rfl) rfl,_,_,_,rfl,OwnP.of (S.get 2 rfl) (S.get 1 rfl) (S.get 0 rfl),?_⟩
  exact nodup_join (S.get' 2 _ rfl).2 (nodup_join (S.get' 1 _ rfl).2 (S.get' 0 _ rfl).2 (S.apart 1 0 _ _ (by omega) rfl rfl)) fun id hid hm=>by
   rcases List.mem_append.1 hm with h | h
   ·exact S.apart 2 1 _ _ (by omega) rfl rfl id hid h
   ·exact S.apart 2 0 _ _ (by omega) rfl rfl id hid h
theorem toPlan_n (hp : Okp pr) (p : Plan) (hsm : p.small) : RetN pr 172 [p.enc] p:=toPlan_n' hp _ p (Nat.le_refl _) hsm
end Go.Proofs.YtncgofhhnhebjaaGreat
/- Items, flows, views, stores as data; the law's copies of items. -/
set_option maxHeartbeats 4000000
namespace Go.Am
open Go
theorem Sepa.nodupAll {h : Heap} : ∀ {L : List Chunk},Sepa h L → (L.flatMap Chunk.F).Nodup
 | [],_=>by simp
 | c :: L,s=>by
  rw [List.flatMap_cons,List.nodup_append]
  refine ⟨(s.get' 0 c rfl).2,Sepa.nodupAll (s.drop 0),fun a ha b hb e=>?_⟩
  subst e
  obtain ⟨d,hd,hm⟩:=List.mem_flatMap.1 hb
  obtain ⟨i,hi⟩:=List.getElem?_of_mem hd
  exact s.apart 0 (i + 1) c d (by omega) rfl (by simpa using hi) a ha hm
end Go.Am
namespace Go.Proofs.YtncgofhhnhebjaaGreat
open Go Go.Am
variable {pr : Prims} (hp : Okp pr)
set_option maxRecDepth 100000
theorem Own.cell {h : Heap} {sz : Nat} {xs : List Dat} {v : AVal} {F : List Nat} (ho : Own h (.s sz xs) v F) : v.cells = [v] ∧ v.isCell = true:=by
 simp only [Own] at ho
 rcases ho with ⟨_,_,rfl | rfl⟩ | ⟨id,vs,Fs,rfl,_⟩ <;> exact ⟨rfl,rfl⟩
theorem OwnC_nil {h : Heap} {vs : List AVal} {F : List Nat} : OwnC h [] vs F ↔ vs = [] ∧ F = []:=by simp only [OwnC]
theorem OwnC_i {h : Heap} {x : Int} {ds : List Dat} {vs : List AVal} {F : List Nat} : OwnC h (.i x :: ds) vs F ↔ ∃ vs',vs = i64 x :: vs' ∧ OwnC h ds vs' F:=by
 simp only [OwnC,Own]
 constructor
 ·rintro ⟨v,vs',F1,F2,rfl,rfl,⟨rfl,rfl⟩,h2⟩
  exact ⟨vs',rfl,h2⟩
 ·rintro ⟨vs',rfl,h2⟩
  exact ⟨_,vs',[],F,rfl,rfl,⟨rfl,rfl⟩,h2⟩
theorem OwnC_s {h : Heap} {sz : Nat} {xs ds : List Dat} {vs : List AVal} {F : List Nat} : OwnC h (.s sz xs :: ds) vs F ↔ ∃ v vs' F1 F2,vs = v :: vs' ∧ F = F1 ++ F2 ∧ Own h (.s sz xs) v F1 ∧ OwnC h ds vs' F2:=by
 rw [OwnC]
 constructor
 ·rintro ⟨v,vs',F1,F2,rfl,rfl,h1,h2⟩
  exact ⟨v,vs',F1,F2,by rw [h1.cell.1]; rfl,rfl,h1,h2⟩
 ·rintro ⟨v,vs',F1,F2,rfl,rfl,h1,h2⟩
  exact ⟨v,vs',F1,F2,by rw [h1.cell.1]; rfl,rfl,h1,h2⟩
theorem OwnC_g {h : Heap} {es ds : List Dat} {vs : List AVal} {F : List Nat} : OwnC h (.g es :: ds) vs F ↔ ∃ us vs' F1 F2,vs = us ++ vs' ∧ F = F1 ++ F2 ∧ OwnC h es us F1 ∧ OwnC h ds vs' F2:=by
 rw [OwnC]
 constructor
 ·rintro ⟨v,vs',F1,F2,rfl,rfl,h1,h2⟩
  simp only [Own] at h1
  obtain ⟨us,rfl,h1⟩:=h1
  exact ⟨us,vs',F1,F2,rfl,rfl,h1,h2⟩
 ·rintro ⟨us,vs',F1,F2,rfl,rfl,h1,h2⟩
  exact ⟨.agg us,vs',F1,F2,rfl,rfl,by simp only [Own]; exact ⟨us,rfl,h1⟩,h2⟩
def pcells (kind n : Int) (test : Test) (C : AVal) (a b : Int) (K : AVal) (agg col : Int) (D : AVal) (r : List AVal) : List AVal:=
 i64 kind :: i64 n :: i64 test.kind :: .bool test.no :: i64 test.l.kind :: i64 test.l.a :: i64 test.l.b :: i64 test.l.n :: i64 test.r.kind :: i64 test.r.a :: i64 test.r.b :: i64 test.r.n ::
  C :: i64 a :: i64 b :: K :: i64 agg :: i64 col :: D :: r
theorem OwnC_p {h : Heap} {kind n : Int} {test : Test} {cells : List Cell} {a b : Int} {keys : List Int} {agg col : Int} {kids : List Plan} {ds : List Dat} {vs : List AVal} {F : List Nat} :
  OwnC h (.p (.mk kind n test cells a b keys agg col kids) :: ds) vs F ↔ ∃ C K D Fc Fk Fd vs' F2,vs = pcells kind n test C a b K agg col D vs' ∧ OwnL Cell.enc 4 h cells C Fc ∧ OwnL i64 1 h keys K Fk ∧ OwnK h kids D Fd ∧ F = (Fc ++ (Fk ++ Fd)) ++ F2 ∧ OwnC h ds vs' F2:=by
   rw [OwnC]
   simp only [Own]
   constructor
   ·rintro ⟨v,vs',F1,F2,rfl,rfl,h1,h2⟩
    rw [OwnP_mk] at h1
    obtain ⟨C,K,D,Fc,Fk,Fd,rfl,h3,h4,h5,rfl⟩:=h1
    exact ⟨C,K,D,Fc,Fk,Fd,vs',F2,rfl,h3,h4,h5,rfl,h2⟩
   ·rintro ⟨C,K,D,Fc,Fk,Fd,vs',F2,rfl,h3,h4,h5,rfl,h2⟩
    exact ⟨pval kind n test C a b K agg col D,vs',_,F2,rfl,rfl,OwnP.of h3 h4 h5,h2⟩
theorem callD {h : Heap} {L : List Chunk} {f : FuncId} {args args' : List AVal} {d : Dat} {K : ARes → Prop} (S : Sepa h L) (hr : RetD pr f args' d) (hM : modes f = Am.Mode.N) (hs : snapL h args = some args')
  (hK : ∀ v hh F,Own hh d v F → Sepa hh (.dat d v F :: L) → K (.ret v hh)) : ∃ r,callM (cfp pr) (call (cfp pr)) f args h = some r ∧ K r:=by
   obtain ⟨v,hh,F,hc,hpre,ho,hn,hd⟩:=hr.at (h:=h) hM hs
   exact ⟨_,hc,hK v hh F ho (S.more hpre ho hn hd)⟩
theorem RetL.toD {f : FuncId} {args : List AVal} {xs : List Int} (hr : RetL i64 1 pr f args xs) : RetD pr f args (.s 1 (xs.map Dat.i)):=by
 obtain ⟨v,h1,F,hc,ho,hn⟩:=hr
 exact ⟨v,h1,F,hc,OwnL_i.1 ho,hn⟩
theorem RetN.toD {f : FuncId} {args : List AVal} {p : Plan} (hr : RetN pr f args p) : RetD pr f args (.p p):=by
 obtain ⟨v,h1,F,hc,ho,hn⟩:=hr
 exact ⟨v,h1,F,hc,by simp only [Own]; exact ho,hn⟩
theorem allc {c : AVal} {r : List AVal} (h : c.isCell = true) (h2 : r.all AVal.isCell = true) : (c :: r).all AVal.isCell = true:=by simp [h,h2]
theorem fin_dat {P : Program} {fn : Func} {st : St} {dd t k : Nat} {x : AVal} {vs : List AVal} {ds : List Dat} {F : List Nat} (hr : fn.results.toList = [.cell dd t]) (ht : st.tm dd = .ptr k 0 0) (hk : st.hp[k]? = some (.box x)) (hv : partA P t x 0 = some (.agg vs))
  (ho : OwnC st.hp ds vs F) (hn : F.Nodup) : ∃ r,finA P fn (some (.ret st)) = some r ∧ ∃ v h F,r = .ret v h ∧ Own h (.g ds) v F ∧ F.Nodup:=
   ⟨_,fin_cell hr ht hk hv,_,_,F,rfl,by simp only [Own]; exact ⟨vs,rfl,ho⟩,hn⟩
def Ints.d (xs : List Int) : Dat:=.s 1 (xs.map Dat.i)
def Item.d (x : Item) : Dat:=.g [Ints.d x.row,.i x.w]
def Items.enc (xs : List Item) : AVal:=.sl (xs.map Item.enc)
def Items.d (xs : List Item) : Dat:=.s 2 (xs.map Item.d)
def Runs.enc (xs : List (List Item)) : AVal:=.sl (xs.map Items.enc)
def Runs.d (xs : List (List Item)) : Dat:=.s 1 (xs.map Items.d)
inductive Flow where
 | mk (plan : Plan) (left right : List (List Item)) (kids : List Flow)
mutual
def Flow.enc : Flow → AVal
 | .mk (.mk kind n test cells a b keys agg col kids) l r ks=>.agg (pcells kind n test (.sl (cells.map Cell.enc)) a b (.sl (keys.map i64)) agg col (.sl (Plan.encs kids)) [Runs.enc l,Runs.enc r,.sl (Flow.encs ks)])
def Flow.encs : List Flow → List AVal
 | []=>[]
 | f :: fs=>f.enc :: Flow.encs fs
end
mutual
def Flow.d : Flow → Dat
 | .mk p l r ks=>.g [.p p,.g [Runs.d l],.g [Runs.d r],.s 22 (Flow.ds ks)]
def Flow.ds : List Flow → List Dat
 | []=>[]
 | f :: fs=>f.d :: Flow.ds fs
end
structure Past where
 at' : Int
 out : List Item
def Past.enc (x : Past) : AVal:=.agg [i64 x.at',Items.enc x.out]
def Past.d (x : Past) : Dat:=.g [.i x.at',Items.d x.out]
structure View where
 flow : Flow
 since : Int
 base : List Item
 pasts : List Past
def View.enc (x : View) : AVal:=.agg (x.flow.enc.cells ++ [i64 x.since,Items.enc x.base,.sl (x.pasts.map Past.enc)])
def View.d (x : View) : Dat:=.g [x.flow.d,.i x.since,Items.d x.base,.s 2 (x.pasts.map Past.d)]
structure Store where
 wides : List Int
 tables : List (List Item)
 views : List View
 now : Int
 keep : Int
def Store.enc (x : Store) : AVal:=.agg [.sl (x.wides.map i64),Runs.enc x.tables,.sl (x.views.map View.enc),i64 x.now,i64 x.keep]
def Store.d (x : Store) : Dat:=.g [Ints.d x.wides,Runs.d x.tables,.s 25 (x.views.map View.d),.i x.now,.i x.keep]
theorem encs_dat {α : Type} {f : α → Dat} {g : α → AVal} (h : ∀ x,(f x).enc = g x) (xs : List α) : Dat.encs (xs.map f) = xs.map g:=by
 rw [Dat.encs_map,List.map_map]
 exact List.map_congr_left fun x _=>h x
theorem Item.d_enc (x : Item) : x.d.enc = x.enc:=by
 simp only [Item.d,Ints.d,Dat.enc,Dat.encC,Dat.encs_i,AVal.cells]
 rfl
theorem Items.d_enc (xs : List Item) : (Items.d xs).enc = Items.enc xs:=by simp only [Items.d,Items.enc,Dat.enc,encs_dat Item.d_enc]
theorem Runs.d_enc (xs : List (List Item)) : (Runs.d xs).enc = Runs.enc xs:=by simp only [Runs.d,Runs.enc,Dat.enc,encs_dat Items.d_enc]
theorem Runs.cells (xs : List (List Item)) : (Runs.d xs).enc.cells = [Runs.enc xs]:=by rw [Runs.d_enc]; rfl
mutual
theorem Flow.d_enc : ∀ f : Flow,f.d.enc = f.enc
 | .mk (.mk kind n test cells a b keys agg col kids) l r ks=>by
  simp only [Flow.d,Flow.enc,Dat.enc,Dat.encC,Flow.ds_enc ks,Runs.cells,List.append_nil]
  simp only [AVal.cells,Plan.enc]
  rfl
theorem Flow.ds_enc : ∀ fs : List Flow,Dat.encs (Flow.ds fs) = Flow.encs fs
 | []=>by simp [Flow.ds,Dat.encs,Flow.encs]
 | f :: fs=>by simp only [Flow.ds,Dat.encs,Flow.encs,Flow.d_enc f,Flow.ds_enc fs]
end
theorem Past.d_enc (x : Past) : x.d.enc = x.enc:=by
 simp only [Past.d,Past.enc,Dat.enc,Dat.encC,Items.d_enc,AVal.cells]
 rfl
theorem View.d_enc (x : View) : x.d.enc = x.enc:=by
 simp only [View.d,View.enc,Dat.enc,Dat.encC,Items.d_enc,Flow.d_enc,encs_dat Past.d_enc]
 rfl
theorem Store.d_enc (x : Store) : x.d.enc = x.enc:=by
 simp only [Store.d,Store.enc,Ints.d,Dat.enc,Dat.encC,Dat.encs_i,Runs.cells,encs_dat View.d_enc]
 rfl
end Go.Proofs.YtncgofhhnhebjaaGreat
/- The law's copies of items, runs, flows, stores. (Printed by gencp.py.) -/
set_option maxHeartbeats 4000000
namespace Go.Proofs.YtncgofhhnhebjaaGreat
open Go Go.Am
variable {pr : Prims} (hp : Okp pr)
set_option maxRecDepth 100000
theorem take_snoc {α : Type} {xs : List α} {j : Nat} (h : j < xs.length) : xs.take (j + 1) = xs.take j ++ [xs[j]]:=by rw [List.take_add_one]; simp [h]
theorem tots_map {α : Type} {f : α → Dat} {x : α} {xs : List α} (h : x ∈ xs) : (f x).tot ≤ Dat.tots (xs.map f):=Dat.tots_mem (List.mem_map.2 ⟨x,h,rfl⟩)
theorem OwnC_cons {h : Heap} {d : Dat} {v : AVal} {ds : List Dat} {vs : List AVal} {F1 F2 : List Nat} (h1 : Own h d v F1) (h2 : OwnC h ds vs F2) : OwnC h (d :: ds) (v.cells ++ vs) (F1 ++ F2):=by
 simp only [OwnC]
 exact ⟨v,vs,F1,F2,rfl,rfl,h1,h2⟩
theorem OwnC_one {h : Heap} {sz : Nat} {xs : List Dat} {v : AVal} {ds : List Dat} {vs : List AVal} {F1 F2 : List Nat} (h1 : Own h (.s sz xs) v F1) (h2 : OwnC h ds vs F2) : OwnC h (.s sz xs :: ds) (v :: vs) (F1 ++ F2):=OwnC_s.2 ⟨v,vs,F1,F2,rfl,rfl,h1,h2⟩
theorem OwnC_int {h : Heap} {x : Int} {ds : List Dat} {vs : List AVal} {F : List Nat} (h2 : OwnC h ds vs F) : OwnC h (.i x :: ds) (i64 x :: vs) F:=OwnC_i.2 ⟨vs,rfl,h2⟩
theorem OwnC_no {h : Heap} : OwnC h [] [] []:=OwnC_nil.2 ⟨rfl,rfl⟩
theorem Own.slice {h : Heap} {sz : Nat} {xs : List Dat} {v : AVal} {F : List Nat} (ho : Own h (.s sz xs) v F) : v = .nil ∨ v = .sl [] ∨ ∃ id n,v = .own id 0 n:=by
 simp only [Own] at ho
 rcases ho with ⟨_,_,rfl | rfl⟩ | ⟨id,vs,Fs,rfl,_⟩
 ·exact .inl rfl
 ·exact .inr (.inl rfl)
 ·exact .inr (.inr ⟨_,_,rfl⟩)
theorem toItem_n (hp : Okp pr) (x : Item) (hl : x.d.tot ≤ 1048576) : RetD pr 137 [x.enc] x.d:=by
 obtain ⟨row,w⟩:=x
 have h1:=RetL.toD (toIntS_n hp row (by simp [Item.d,Ints.d,Dat.tot,Dat.tots] at hl; omega))
 refine retD_of hp rfl ?_
 have S : Sepa [] []:=Sepa.nil []
 iterate 3
  all_goals (try (conv=>whnf))
  all_goals (first | (intro ka_ ha_ hk_ hh_; replace S:=S.alloc hk_ hh_) | (refine .inl ⟨_,S.row 0 rfl,rfl,?_⟩) | (refine .inl ⟨_,S.row 1 rfl,rfl,?_⟩) | (refine .inl ⟨_,S.row 2 rfl,rfl,?_⟩) | (refine .inl ⟨_,S.row 3 rfl,rfl,?_⟩) | (refine .inl ⟨_,S.row 4 rfl,rfl,?_⟩) | (refine ⟨_,rfl,rfl,rfl,.inl ⟨_,S.row 0 rfl,rfl,?_⟩⟩; (conv=>whnf); intro ha_ hh_; replace S:=S.set 0 rfl hh_; dsimp only [List.set] at S) | (refine ⟨_,rfl,rfl,rfl,.inl ⟨_,S.row 1 rfl,rfl,?_⟩⟩; (conv=>whnf); intro ha_ hh_; replace S:=S.set 1 rfl hh_; dsimp only [List.set] at S) | (refine ⟨_,rfl,rfl,rfl,.inl ⟨_,S.row 2 rfl,rfl,?_⟩⟩; (conv=>whnf); intro ha_ hh_; replace S:=S.set 2 rfl hh_; dsimp only [List.set] at S) | (refine ⟨_,rfl,rfl,rfl,.inl ⟨_,S.row 3 rfl,rfl,?_⟩⟩; (conv=>whnf); intro ha_ hh_; replace S:=S.set 3 rfl hh_; dsimp only [List.set] at S) | (refine ⟨_,rfl,rfl,rfl,.inl ⟨_,S.row 4 rfl,rfl,?_⟩⟩; (conv=>whnf); intro ha_ hh_; replace S:=S.set 4 rfl hh_; dsimp only [List.set] at S) | (refine bsel_intro (fun hb=>?_) (fun hb=>?_)) | skip)
 iterate 1
  all_goals (try (conv=>whnf))
  all_goals (first | (intro ka_ ha_ hk_ hh_; replace S:=S.alloc hk_ hh_) | (refine .inl ⟨_,S.row 0 rfl,rfl,?_⟩) | (refine .inl ⟨_,S.row 1 rfl,rfl,?_⟩) | (refine .inl ⟨_,S.row 2 rfl,rfl,?_⟩) | (refine .inl ⟨_,S.row 3 rfl,rfl,?_⟩) | (refine .inl ⟨_,S.row 4 rfl,rfl,?_⟩) | (refine ⟨_,rfl,rfl,rfl,.inl ⟨_,S.row 0 rfl,rfl,?_⟩⟩; (conv=>whnf); intro ha_ hh_; replace S:=S.set 0 rfl hh_; dsimp only [List.set] at S) | (refine ⟨_,rfl,rfl,rfl,.inl ⟨_,S.row 1 rfl,rfl,?_⟩⟩; (conv=>whnf); intro ha_ hh_; replace S:=S.set 1 rfl hh_; dsimp only [List.set] at S) | (refine ⟨_,rfl,rfl,rfl,.inl ⟨_,S.row 2 rfl,rfl,?_⟩⟩; (conv=>whnf); intro ha_ hh_; replace S:=S.set 2 rfl hh_; dsimp only [List.set] at S) | (refine ⟨_,rfl,rfl,rfl,.inl ⟨_,S.row 3 rfl,rfl,?_⟩⟩; (conv=>whnf); intro ha_ hh_; replace S:=S.set 3 rfl hh_; dsimp only [List.set] at S) | (refine ⟨_,rfl,rfl,rfl,.inl ⟨_,S.row 4 rfl,rfl,?_⟩⟩; (conv=>whnf); intro ha_ hh_; replace S:=S.set 4 rfl hh_; dsimp only [List.set] at S) | (refine bsel_intro (fun hb=>?_) (fun hb=>?_)) | skip)
 conv=>whnf
 refine callD S h1 rfl rfl fun A q1 F1 o1 S1=>?_
 replace S:=S1
 clear S1
 conv=>whnf
 refine ⟨[A],o1.cell.1,rfl,(all1 o1.cell.2),.inl ⟨_,S.row 1 rfl,rfl,?_⟩⟩
 conv=>whnf
 intro a1 hh_a1
 replace S:=S.set 1 rfl hh_a1
 dsimp only [List.set] at S
 conv=>whnf
 iterate 2
  all_goals (try (conv=>whnf))
  all_goals (first | (intro ka_ ha_ hk_ hh_; replace S:=S.alloc hk_ hh_) | (refine .inl ⟨_,S.row 0 rfl,rfl,?_⟩) | (refine .inl ⟨_,S.row 1 rfl,rfl,?_⟩) | (refine .inl ⟨_,S.row 2 rfl,rfl,?_⟩) | (refine .inl ⟨_,S.row 3 rfl,rfl,?_⟩) | (refine .inl ⟨_,S.row 4 rfl,rfl,?_⟩) | (refine ⟨_,rfl,rfl,rfl,.inl ⟨_,S.row 0 rfl,rfl,?_⟩⟩; (conv=>whnf); intro ha_ hh_; replace S:=S.set 0 rfl hh_; dsimp only [List.set] at S) | (refine ⟨_,rfl,rfl,rfl,.inl ⟨_,S.row 1 rfl,rfl,?_⟩⟩; (conv=>whnf); intro ha_ hh_; replace S:=S.set 1 rfl hh_; dsimp only [List.set] at S) | (refine ⟨_,rfl,rfl,rfl,.inl ⟨_,S.row 2 rfl,rfl,?_⟩⟩; (conv=>whnf); intro ha_ hh_; replace S:=S.set 2 rfl hh_; dsimp only [List.set] at S) | (refine ⟨_,rfl,rfl,rfl,.inl ⟨_,S.row 3 rfl,rfl,?_⟩⟩; (conv=>whnf); intro ha_ hh_; replace S:=S.set 3 rfl hh_; dsimp only [List.set] at S) | (refine ⟨_,rfl,rfl,rfl,.inl ⟨_,S.row 4 rfl,rfl,?_⟩⟩; (conv=>whnf); intro ha_ hh_; replace S:=S.set 4 rfl hh_; dsimp only [List.set] at S) | (refine bsel_intro (fun hb=>?_) (fun hb=>?_)) | skip)
 iterate 1
  all_goals (try (conv=>whnf))
  all_goals (first | (intro ka_ ha_ hk_ hh_; replace S:=S.alloc hk_ hh_) | (refine .inl ⟨_,S.row 0 rfl,rfl,?_⟩) | (refine .inl ⟨_,S.row 1 rfl,rfl,?_⟩) | (refine .inl ⟨_,S.row 2 rfl,rfl,?_⟩) | (refine .inl ⟨_,S.row 3 rfl,rfl,?_⟩) | (refine .inl ⟨_,S.row 4 rfl,rfl,?_⟩) | (refine ⟨_,rfl,rfl,rfl,.inl ⟨_,S.row 0 rfl,rfl,?_⟩⟩; (conv=>whnf); intro ha_ hh_; replace S:=S.set 0 rfl hh_; dsimp only [List.set] at S) | (refine ⟨_,rfl,rfl,rfl,.inl ⟨_,S.row 1 rfl,rfl,?_⟩⟩; (conv=>whnf); intro ha_ hh_; replace S:=S.set 1 rfl hh_; dsimp only [List.set] at S) | (refine ⟨_,rfl,rfl,rfl,.inl ⟨_,S.row 2 rfl,rfl,?_⟩⟩; (conv=>whnf); intro ha_ hh_; replace S:=S.set 2 rfl hh_; dsimp only [List.set] at S) | (refine ⟨_,rfl,rfl,rfl,.inl ⟨_,S.row 3 rfl,rfl,?_⟩⟩; (conv=>whnf); intro ha_ hh_; replace S:=S.set 3 rfl hh_; dsimp only [List.set] at S) | (refine ⟨_,rfl,rfl,rfl,.inl ⟨_,S.row 4 rfl,rfl,?_⟩⟩; (conv=>whnf); intro ha_ hh_; replace S:=S.set 4 rfl hh_; dsimp only [List.set] at S) | (refine bsel_intro (fun hb=>?_) (fun hb=>?_)) | skip)
 conv=>whnf
 refine ⟨[A,i64 w],(by kernel_rfl),rfl,(allc o1.cell.2 rfl),.inl ⟨_,S.row 2 rfl,rfl,?_⟩⟩
 conv=>whnf
 intro aa hh_aa
 replace S:=S.set 2 rfl hh_aa
 dsimp only [List.set] at S
 conv=>whnf
 replace S:=S.pick [2,0] (by decide)
 simp only [pickL,List.getElem?_cons_zero,List.getElem?_cons_succ] at S
 refine fin_dat (vs:=[A,i64 w]) rfl rfl (S.row 0 rfl) (by kernel_rfl) (OwnC_one (S.get 1 rfl) (OwnC_int OwnC_no)) (S.drop 0).nodupAll
def zItem : AVal:=.agg [.nil,i64 0]
theorem toItemS_n1 (hp : Okp pr) (xs : List Item) (hl : xs.length ≤ 1048576) (ih : ∀ x ∈ xs,RetD pr 137 [Item.enc x] (Item.d x)) : RetD pr 94 [.sl (xs.map Item.enc)] (.s 2 (xs.map Item.d)):=by
 have hlen : (((xs.map Item.enc).length : Nat) : Int).toNat = xs.length:=by simp
 refine retD_of hp rfl ?_
 have S : Sepa [] []:=Sepa.nil []
 conv=>whnf
 refine ⟨?_,?_⟩
 ·simp [sizeLim]; omega
 conv=>whnf
 intro k1 a1 hk1 hh1
 replace S:=S.alloc hk1 hh1
 rw [hlen] at S
 conv=>whnf
 refine loopG (fun m tm hp=>∃ (j : Nat) (vs : List AVal) (F : List Nat),j + m = xs.length ∧ tm 4 = i64 (j : Nat) ∧ Sepa hp [.dats ((xs.take j).map Item.d) vs F,.row k1 (.arr 2 (vs ++ List.replicate (xs.length - j) zItem))]) (fun m tm hq hfr hI=>?_) xs.length ⟨0,[],[],by simp,rfl,?_⟩
 rotate_left
 ·exact S.more (c:=.dats [] [] []) (List.prefix_refl _) (by show Owns _ _ _ _; simp [Owns]) (by simp [Chunk.dats]) (by simp [Chunk.dats])
 obtain ⟨j,vs,F,hj,e4,S2⟩:=hI
 clear S
 have S:=S2
 clear S2
 have k0:=hfr 0 (by kernel_rfl)
 conv at k0=>rhs; whnf
 rw [← upd_id k0]
 have k3:=hfr 3 (by kernel_rfl)
 conv at k3=>rhs; whnf
 rw [← upd_id k3,← upd_id e4]
 clear hfr k0 k3 e4
 have hvl : vs.length = j:=by
  have : Owns hq ((xs.take j).map Item.d) vs F:=S.get 0 rfl
  rw [Owns_len this]; simp; omega
 conv=>whnf
 refine bsel_intro (fun h1=>?_) (fun h1=>?_)
 ·have hjl : j < xs.length:=by simpa using h1
  have hge : (xs.map Item.enc)[((j : Nat) : Int).toNat]? = some (Item.enc xs[j]):=by rw [Int.toNat_natCast]; simp [hjl]
  have hih:=ih xs[j] (List.getElem_mem hjl)
  have htk:=congrArg (List.map Item.d) (take_snoc hjl)
  rw [List.map_append] at htk
  generalize xs[j] = q at hge hih htk
  conv=>whnf
  refine ⟨_,hge,by omega,rfl,?_⟩
  conv=>whnf
  refine callD S hih rfl rfl fun v q1 F2 ho S1=>?_
  replace S:=S1
  clear S1
  have ho0:=ho
  simp only [Item.d,Ints.d,Own] at ho
  obtain ⟨vv,rfl,ho⟩:=ho
  obtain ⟨A,w1,G1,G2,rfl,rfl,ho1,ho2⟩:=OwnC_s.1 ho
  obtain ⟨w2,rfl,ho3⟩:=OwnC_i.1 ho2
  obtain ⟨rfl,rfl⟩:=OwnC_nil.1 ho3
  conv=>whnf
  refine ⟨_,S.row 2 rfl,⟨by omega,by rw [hlen]; omega⟩,?_⟩
  conv=>whnf
  refine ⟨_,rfl,rfl,allc ho1.cell.2 rfl,.inr ⟨_,_,zItem,S.row 2 rfl,?_,?_⟩⟩
  ·rw [Int.toNat_natCast,Nat.zero_add]; exact plans_at hvl hjl
  conv=>whnf
  intro h5 hh5
  replace S:=S.set 2 rfl hh5
  dsimp only [List.set] at S
  conv=>whnf
  have hfill:=plans_fill (v:=.agg [A,i64 q.w]) (z:=zItem) hvl hjl
  rw [Int.toNat_natCast,Nat.zero_add] at S
  have hS:=S.merge (e:=.dats (_ ++ _) (_ ++ _) (_ ++ _)) (Owns_append (S.get 1 rfl) (Owns_one (S.get 0 rfl))) (fun id hid=>(List.mem_append.1 hid).symm) S.nodup2
  exact ⟨m - 1,by omega,j + 1,vs ++ [.agg [A,i64 q.w]],_,by omega,nat_step j (by omega),by rw [← hfill,htk]; exact hS⟩
 ·have hje : j = xs.length:=by
   have : ¬ j < xs.length:=by simpa using h1
   omega
  subst hje
  conv=>whnf
  have e:=S.row 1 rfl
  rw [Nat.sub_self,List.replicate_zero,List.append_nil] at e
  have hps : Owns hq ((xs.take xs.length).map Item.d) vs F:=S.get 0 rfl
  rw [List.take_length] at hps
  refine ⟨_,rfl,_,_,k1 :: F,rfl,?_,List.nodup_cons.2 ⟨fun hm=>S.apart 0 1 _ _ (by omega) rfl rfl k1 hm (by simp [Chunk.row]),(S.get' 0 _ rfl).2⟩⟩
  simp only [Own]
  refine .inr ⟨k1,vs,F,?_,e,hps,rfl⟩
  refine Eq.trans (b:=AVal.own k1 0 (((xs.map Item.enc).length : Nat) : Int).toNat) (by kernel_rfl) (by rw [hlen,List.length_map])
theorem toItemS_n (hp : Okp pr) (xs : List Item) (h : (Items.d xs).tot ≤ 1048576) : RetD pr 94 [Items.enc xs] (Items.d xs):=by
 simp only [Items.d,Dat.tot,List.length_map] at h
 exact toItemS_n1 hp xs (by omega) fun x hx=>toItem_n hp x (by have:=tots_map (f:=Item.d) hx; omega)
theorem toItemSS_n1 (hp : Okp pr) (xs : List (List Item)) (hl : xs.length ≤ 1048576) (ih : ∀ x ∈ xs,RetD pr 94 [Items.enc x] (Items.d x)) : RetD pr 47 [.sl (xs.map Items.enc)] (.s 1 (xs.map Items.d)):=by
 have hlen : (((xs.map Items.enc).length : Nat) : Int).toNat = xs.length:=by simp
 refine retD_of hp rfl ?_
 have S : Sepa [] []:=Sepa.nil []
 conv=>whnf
 refine ⟨?_,?_⟩
 ·simp [sizeLim]; omega
 conv=>whnf
 intro k1 a1 hk1 hh1
 replace S:=S.alloc hk1 hh1
 rw [hlen] at S
 conv=>whnf
 refine loopG (fun m tm hp=>∃ (j : Nat) (vs : List AVal) (F : List Nat),j + m = xs.length ∧ tm 4 = i64 (j : Nat) ∧ Sepa hp [.dats ((xs.take j).map Items.d) vs F,.row k1 (.arr 1 (vs ++ List.replicate (xs.length - j) AVal.nil))]) (fun m tm hq hfr hI=>?_) xs.length ⟨0,[],[],by simp,rfl,?_⟩
 rotate_left
 ·exact S.more (c:=.dats [] [] []) (List.prefix_refl _) (by show Owns _ _ _ _; simp [Owns]) (by simp [Chunk.dats]) (by simp [Chunk.dats])
 obtain ⟨j,vs,F,hj,e4,S2⟩:=hI
 clear S
 have S:=S2
 clear S2
 have k0:=hfr 0 (by kernel_rfl)
 conv at k0=>rhs; whnf
 rw [← upd_id k0]
 have k3:=hfr 3 (by kernel_rfl)
 conv at k3=>rhs; whnf
 rw [← upd_id k3,← upd_id e4]
 clear hfr k0 k3 e4
 have hvl : vs.length = j:=by
  have : Owns hq ((xs.take j).map Items.d) vs F:=S.get 0 rfl
  rw [Owns_len this]; simp; omega
 conv=>whnf
 refine bsel_intro (fun h1=>?_) (fun h1=>?_)
 ·have hjl : j < xs.length:=by simpa using h1
  have hge : (xs.map Items.enc)[((j : Nat) : Int).toNat]? = some (Items.enc xs[j]):=by rw [Int.toNat_natCast]; simp [hjl]
  have hih:=ih xs[j] (List.getElem_mem hjl)
  have htk:=congrArg (List.map Items.d) (take_snoc hjl)
  rw [List.map_append] at htk
  generalize xs[j] = q at hge hih htk
  conv=>whnf
  refine ⟨_,hge,by omega,rfl,?_⟩
  conv=>whnf
  refine callD S hih rfl rfl fun v q1 F2 ho S1=>?_
  replace S:=S1
  clear S1
  have ho0:=ho
  have ho : Own q1 (.s 2 (q.map Item.d)) v F2:=ho
  rcases Own.slice ho with rfl | rfl | ⟨vi,vn,rfl⟩
  ·conv=>whnf
   refine ⟨_,S.row 2 rfl,⟨by omega,by rw [hlen]; omega⟩,?_⟩
   conv=>whnf
   refine ⟨_,rfl,rfl,rfl,.inr ⟨_,_,AVal.nil,S.row 2 rfl,?_,?_⟩⟩
   ·rw [Int.toNat_natCast,Nat.zero_add]; exact plans_at hvl hjl
   conv=>whnf
   intro h5 hh5
   replace S:=S.set 2 rfl hh5
   dsimp only [List.set] at S
   conv=>whnf
   have hfill:=plans_fill (v:=AVal.nil) (z:=AVal.nil) hvl hjl
   rw [Int.toNat_natCast,Nat.zero_add] at S
   have hS:=S.merge (e:=.dats (_ ++ _) (_ ++ _) (_ ++ _)) (Owns_append (S.get 1 rfl) (Owns_one (S.get 0 rfl))) (fun id hid=>(List.mem_append.1 hid).symm) S.nodup2
   exact ⟨m - 1,by omega,j + 1,vs ++ [AVal.nil],_,by omega,nat_step j (by omega),by rw [← hfill,htk]; exact hS⟩
  ·conv=>whnf
   refine ⟨_,S.row 2 rfl,⟨by omega,by rw [hlen]; omega⟩,?_⟩
   conv=>whnf
   refine ⟨_,rfl,rfl,rfl,.inr ⟨_,_,AVal.nil,S.row 2 rfl,?_,?_⟩⟩
   ·rw [Int.toNat_natCast,Nat.zero_add]; exact plans_at hvl hjl
   conv=>whnf
   intro h5 hh5
   replace S:=S.set 2 rfl hh5
   dsimp only [List.set] at S
   conv=>whnf
   have hfill:=plans_fill (v:=AVal.sl []) (z:=AVal.nil) hvl hjl
   rw [Int.toNat_natCast,Nat.zero_add] at S
   have hS:=S.merge (e:=.dats (_ ++ _) (_ ++ _) (_ ++ _)) (Owns_append (S.get 1 rfl) (Owns_one (S.get 0 rfl))) (fun id hid=>(List.mem_append.1 hid).symm) S.nodup2
   exact ⟨m - 1,by omega,j + 1,vs ++ [AVal.sl []],_,by omega,nat_step j (by omega),by rw [← hfill,htk]; exact hS⟩
  ·conv=>whnf
   refine ⟨_,S.row 2 rfl,⟨by omega,by rw [hlen]; omega⟩,?_⟩
   conv=>whnf
   refine ⟨_,rfl,rfl,rfl,.inr ⟨_,_,AVal.nil,S.row 2 rfl,?_,?_⟩⟩
   ·rw [Int.toNat_natCast,Nat.zero_add]; exact plans_at hvl hjl
   conv=>whnf
   intro h5 hh5
   replace S:=S.set 2 rfl hh5
   dsimp only [List.set] at S
   conv=>whnf
   have hfill:=plans_fill (v:=AVal.own vi 0 vn) (z:=AVal.nil) hvl hjl
   rw [Int.toNat_natCast,Nat.zero_add] at S
   have hS:=S.merge (e:=.dats (_ ++ _) (_ ++ _) (_ ++ _)) (Owns_append (S.get 1 rfl) (Owns_one (S.get 0 rfl))) (fun id hid=>(List.mem_append.1 hid).symm) S.nodup2
   exact ⟨m - 1,by omega,j + 1,vs ++ [AVal.own vi 0 vn],_,by omega,nat_step j (by omega),by rw [← hfill,htk]; exact hS⟩
 ·have hje : j = xs.length:=by
   have : ¬ j < xs.length:=by simpa using h1
   omega
  subst hje
  conv=>whnf
  have e:=S.row 1 rfl
  rw [Nat.sub_self,List.replicate_zero,List.append_nil] at e
  have hps : Owns hq ((xs.take xs.length).map Items.d) vs F:=S.get 0 rfl
  rw [List.take_length] at hps
  refine ⟨_,rfl,_,_,k1 :: F,rfl,?_,List.nodup_cons.2 ⟨fun hm=>S.apart 0 1 _ _ (by omega) rfl rfl k1 hm (by simp [Chunk.row]),(S.get' 0 _ rfl).2⟩⟩
  simp only [Own]
  refine .inr ⟨k1,vs,F,?_,e,hps,rfl⟩
  refine Eq.trans (b:=AVal.own k1 0 (((xs.map Items.enc).length : Nat) : Int).toNat) (by kernel_rfl) (by rw [hlen,List.length_map])
theorem toItemSS_n (hp : Okp pr) (xs : List (List Item)) (h : (Runs.d xs).tot ≤ 1048576) : RetD pr 47 [Runs.enc xs] (Runs.d xs):=by
 simp only [Runs.d,Dat.tot,List.length_map] at h
 exact toItemSS_n1 hp xs (by omega) fun x hx=>toItemS_n hp x (by have:=tots_map (f:=Items.d) hx; omega)
end Go.Proofs.YtncgofhhnhebjaaGreat

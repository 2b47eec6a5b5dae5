/- Plans in rows of one's own. -/
import Derived.Test.YtebciagembenjaaDoorGH15
import Derived.Test.YtebciagembenjaaDoorGSBmW
import Derived.Test.YtebciagembenjaaDoorGSBmU
import Derived.Test.YtebciagembenjaaDoorRows
set_option linter.unusedVariables false
set_option linter.unusedSimpArgs false
/- Am's calls on encoded values: the frame of the pure lemmas. -/
set_option maxHeartbeats 4000000
namespace Go.Am
open Go
theorem pcall_of {cf : Cfg} {f : FuncId} {args : List AVal} {res : AVal} (hm : cf.M f = .P) (hp : cf.pr f = none) (ha : snapL [] args = some args) (hw : wpF cf f args [] (fun r=>∃ v h,r = .ret v h ∧ snap h v = some res)) :
  ∀ h,callM cf (call cf) f args h = some (.ret res h):=by
   intro h
   obtain ⟨r,hr,v,h1,rfl,hs⟩:=wpF_sound hp hw
   unfold callM
   simp only [hm,ha,hr,hs,Option.map_some]
theorem fin_bool {h : Heap} {b c : Bool} (hb : b = c) : ∃ v h1,ARes.ret (.bool b) h = .ret v h1 ∧ snap h1 v = some (.bool c):=⟨_,_,rfl,by subst hb; rfl⟩
theorem fin_int {h : Heap} {k : IntKind} {b c : Int} (hb : b = c) : ∃ v h1,ARes.ret (.int k b) h = .ret v h1 ∧ snap h1 v = some (.int k c):=⟨_,_,rfl,by subst hb; rfl⟩
theorem upd_id {tm : Nat → AVal} {k : Nat} {v : AVal} (h : tm k = v) : upd tm k v = tm:=by
 funext j
 unfold upd
 split
 ·rename_i e; subst e; exact h.symm
 ·rfl
theorem mapO_id {f : AVal → Option AVal} : ∀ (l : List AVal),(∀ x ∈ l,f x = some x) → mapO f l = some l
 | [],_=>rfl
 | x :: l,h=>by simp only [mapO,h x (by simp),mapO_id l fun y hy=>h y (by simp [hy])]
theorem snap_ownk {h : Heap} {k sz : Nat} {es : List AVal} (hk : h[k]? = some (.arr sz es)) (he : ∀ x ∈ es,snapF h 4194303 x = some x) : snap h (.own k 0 es.length) = some (.sl es):=by
 show (match h[k]? with
  | some (.arr _ es')=>if 0 + es.length ≤ es'.length then (mapO (snapF h 4194303) ((es'.drop 0).take es.length)).map AVal.sl else none
  | _=>none) = _
 rw [hk]
 simp only [Nat.zero_add,Nat.le_refl,if_true,List.drop_zero,List.take_length]
 rw [mapO_id es he]
 rfl
theorem get_new {h h' : Heap} {k : Nat} {o : AObj} (hk : k = h.length) (e : h' = h ++ [o]) : h'[k]? = some o:=by subst hk; subst e; simp
theorem get_same {h h' : Heap} {i : Nat} {o x : AObj} (e : h' = h.set i o) (hi : h[i]? = some x) : h'[i]? = some o:=by
 subst e
 simp [(List.getElem?_eq_some_iff.1 hi).1]
theorem get_lt {h : Heap} {i : Nat} {x : AObj} (hi : h[i]? = some x) : i < h.length:=(List.getElem?_eq_some_iff.1 hi).1
end Go.Am
namespace Go.Proofs.YtebciagembenjaaDoor
open Go Go.Am
def isN (f : FuncId) : Bool:=Nat.testBit 17729629225312 f
def isF (f : FuncId) : Bool:=Nat.testBit 2417851666250889936779264 f
def isK (f : FuncId) : Bool:=Nat.testBit 0 f
def bad (f : FuncId) : Bool:=Nat.testBit 0 f
def modes (f : FuncId) : Am.Mode:=bif isN f then .N else bif isF f then .F else bif isK f then .K else .P
def plain (f : FuncId) : Bool:=!Nat.testBit 2251937252638720 f && !bad f
def pms (id size d : Nat) : Option (List Nat):=match id,size,d with
 | 9,10,52=>some [0,1,2,3,4,6,7,5,8,9]
 | 11,10,63=>some [0,1,2,3,4,6,7,5,8,9]
 | 3,25,11=>some [0,1,2,4,5,6,7,8,9,10,11,12,13,14,15,16,17,18,19,20,3,21,22,23,24]
 | 9,11,41=>some [0,1,3,4,2,5,6,7,8,9,10]
 | 8,13,30=>some [0,1,2,3,9,4,5,6,7,8,10,11,12]
 | 1,11,9=>some [0,1,2,4,5,6,7,9,3,8,10]
 | 7,9,37=>some [0,1,3,4,6,2,5,7,8]
 | 20,15,85=>some [0,1,3,4,6,7,8,10,11,12,2,5,9,13,14]
 | 28,10,127=>some [0,2,3,5,6,8,1,4,7,9]
 | 4,12,26=>some [0,1,2,3,4,9,5,6,7,8,10,11]
 | 8,12,41=>some [0,1,2,3,4,9,5,6,7,8,10,11]
 | _,_,_=>none
def errV : AVal:=.gv 0 112
def gV (g : Nat) : Option AVal:=if g = 0 then some errV else none
abbrev Prims:=FuncId → Option (List AVal → Heap → Option ARes)
set_option maxRecDepth 100000 in
noncomputable def cfp (pr : Prims) : Cfg:={ P:=Tryd.prog,M:=modes,pr:=pr,G:=gV,pm:=pms }
def noY (f : FuncId) : Bool:=plain f && (!isN f && !isF f && !isK f)
theorem modes_P {f : FuncId} (h : noY f = true) : modes f = Am.Mode.P:=by
 unfold noY at h
 simp only [Bool.and_eq_true,Bool.not_eq_true'] at h
 unfold modes
 simp_all
structure Okp (pr : Prims) : Prop where
 out : ∀ f,plain f = true → pr f = none
noncomputable def pr0 : Prims:=fun f=>bif bad f then some (fun _ _=>none) else none
def Ret (pr : Prims) (f : FuncId) (args : List AVal) (res : AVal) : Prop:=∀ h,callM (cfp pr) (call (cfp pr)) f args h = some (.ret res h)
set_option maxRecDepth 100000 in
theorem ret_of {pr : Prims} (hp : Okp pr) {f : FuncId} {args : List AVal} {res : AVal} (hn : noY f = true) (ha : snapL [] args = some args) (hw : wpF (cfp pr) f args [] (fun r=>∃ v h,r = .ret v h ∧ snap h v = some res)) : Ret pr f args res:=
 pcall_of (modes_P hn) (hp.out f (by unfold noY at hn; simp only [Bool.and_eq_true] at hn; exact hn.1)) ha hw
set_option maxRecDepth 100000 in
theorem ret_prim {pr : Prims} {f : FuncId} {p : List AVal → Heap → Option ARes} {args : List AVal} {res : AVal} {h1 : Heap} (hM : modes f = Am.Mode.P) (hp : pr f = some p) (ha : snapL [] args = some args) (hr : p args [] = some (.ret res h1)) (hs : snap h1 res = some res) : Ret pr f args res:=by
 intro h
 have hc : call (cfp pr) f args [] = some (.ret res h1):=by
  rw [call_eq]
  unfold callB
  have : (cfp pr).pr f = some p:=hp
  simp only [this,hr]
 have hm : (cfp pr).M f = .P:=hM
 unfold callM
 simp only [hm,ha,hc,hs,Option.map_some]
def i64 (n : Int) : AVal:=.int .i64 n
theorem nat_step (j : Nat) (h : j < 4611686018427387904) : AVal.int .i64 (IntKind.i64.wrap ((j : Int) + 1)) = i64 ((j + 1 : Nat) : Int):=by
 have : IntKind.i64.wrap ((j : Int) + 1) = ((j + 1 : Nat) : Int):=by
  rw [IntKind.wrap_i64]
  omega
 rw [this]; rfl
structure Cell where
 kind : Int
 a : Int
 b : Int
 n : Int
def Cell.enc (c : Cell) : AVal:=.agg [i64 c.kind,i64 c.a,i64 c.b,i64 c.n]
structure Test where
 kind : Int
 no : Bool
 l : Cell
 r : Cell
def Test.enc (t : Test) : AVal:=.agg [i64 t.kind,.bool t.no,i64 t.l.kind,i64 t.l.a,i64 t.l.b,i64 t.l.n,i64 t.r.kind,i64 t.r.a,i64 t.r.b,i64 t.r.n]
inductive Plan where
 | mk (kind n : Int) (test : Test) (cells : List Cell) (a b : Int) (keys : List Int) (agg col : Int) (kids : List Plan)
def Plan.kind : Plan → Int | .mk k ..=>k
def Plan.n : Plan → Int | .mk _ n ..=>n
def Plan.test : Plan → Test | .mk _ _ t ..=>t
def Plan.cells : Plan → List Cell | .mk _ _ _ c ..=>c
def Plan.a : Plan → Int | .mk _ _ _ _ a ..=>a
def Plan.b : Plan → Int | .mk _ _ _ _ _ b ..=>b
def Plan.keys : Plan → List Int | .mk _ _ _ _ _ _ ks ..=>ks
def Plan.agg : Plan → Int | .mk _ _ _ _ _ _ _ g ..=>g
def Plan.col : Plan → Int | .mk _ _ _ _ _ _ _ _ c _=>c
def Plan.kids : Plan → List Plan | .mk _ _ _ _ _ _ _ _ _ k=>k
mutual
def Plan.enc : Plan → AVal
 | .mk kind n test cells a b keys agg col kids=>
  .agg [i64 kind,i64 n,i64 test.kind,.bool test.no,i64 test.l.kind,i64 test.l.a,i64 test.l.b,i64 test.l.n,i64 test.r.kind,i64 test.r.a,i64 test.r.b,i64 test.r.n,
   .sl (cells.map Cell.enc),i64 a,i64 b,.sl (keys.map i64),i64 agg,i64 col,.sl (Plan.encs kids)]
def Plan.encs : List Plan → List AVal
 | []=>[]
 | p :: ps=>p.enc :: Plan.encs ps
end
mutual
def Plan.sz : Plan → Nat
 | .mk kind n test cells a b keys agg col kids=>cells.length + keys.length + kids.length + Plan.szs kids
def Plan.szs : List Plan → Nat
 | []=>0
 | p :: ps=>p.sz + Plan.szs ps
end
def Plan.small (p : Plan) : Prop:=p.sz ≤ 1048576
end Go.Proofs.YtebciagembenjaaDoor
/- The reference's tests of cells and of places. -/
set_option maxHeartbeats 4000000
namespace Go.Proofs.YtebciagembenjaaDoor
open Go Go.Am
set_option maxRecDepth 100000 in
theorem eqS_cell : eqS Tryd.prog 25 = some [.i,.i,.i,.i]:=by kernel_rfl
theorem kind3_cases (k : Int) : k = 1 ∨ k = 2 ∨ k = 3 ∨ ((k == 1) = false ∧ (k == 2) = false ∧ (k == 3) = false):=by
 simp only [beq_eq_false_iff_ne,ne_eq]
 omega
variable {pr : Prims} (hp : Okp pr)
def col (n wide : Int) : Bool:=decide (0 ≤ n) && (decide (n < wide) && decide (n < 6))
set_option maxRecDepth 100000
theorem l3Col_r (hp : Okp pr) (n wide : Int) : Ret pr 65 [i64 n,i64 wide] (.bool (col n wide)):=by
 refine ret_of hp rfl rfl ?_
 iterate 4
  all_goals (try (conv=>whnf))
  all_goals (first | (refine bsel_intro (fun hb=>?_) (fun hb=>?_)) | skip)
 all_goals exact fin_bool (by first | (simp_all [col]; done) | (simp_all [col]; omega) | (simp_all [col]; intros; omega))
def isCell (n : Int) : Bool:=decide (-1000000000 ≤ n) && decide (n ≤ 1000000000)
theorem l1Cell_r (hp : Okp pr) (n : Int) : Ret pr 58 [i64 n] (.bool (isCell n)):=by
 refine ret_of hp rfl rfl ?_
 iterate 3
  all_goals (try (conv=>whnf))
  all_goals (first | (refine bsel_intro (fun hb=>?_) (fun hb=>?_)) | skip)
 all_goals exact fin_bool (by first | (simp_all [isCell]; done) | (simp_all [isCell]; omega) | (simp_all [isCell]; intros; omega))
def cellOk (c : Cell) (wide : Int) : Bool:=
 if c.kind = 1 then col c.a wide && (c.b == 0 && c.n == 0)
 else if c.kind = 2 then c.a == 0 && (c.b == 0 && isCell c.n)
 else if c.kind = 3 then col c.a wide && (col c.b wide && c.n == 0)
 else false
theorem sCellOk_r (hp : Okp pr) (c : Cell) (wide : Int) : Ret pr 60 [c.enc,i64 wide] (.bool (cellOk c wide)):=by
 obtain ⟨k,a,b,n⟩:=c
 refine ret_of hp rfl rfl ?_
 iterate 10
  all_goals (try (conv=>whnf))
  all_goals (first | (refine bsel_intro (fun hb=>?_) (fun hb=>?_)) | (refine ⟨_,l3Col_r hp _ _ _,?_⟩) | (refine ⟨_,l1Cell_r hp _ _,?_⟩) | skip)
 all_goals exact fin_bool (by first | (simp_all [cellOk]; done) | (simp_all [cellOk]; omega) | (simp_all [cellOk]; intros; omega))
def testOk (t : Test) (wide : Int) : Bool:=(t.kind == 1 || t.kind == 2) && (cellOk t.l wide && cellOk t.r wide)
theorem sTestOk_r (hp : Okp pr) (t : Test) (wide : Int) : Ret pr 41 [t.enc,i64 wide] (.bool (testOk t wide)):=by
 obtain ⟨k,no,l,r⟩:=t
 refine ret_of hp rfl rfl ?_
 iterate 10
  all_goals (try (conv=>whnf))
  all_goals (first | (refine bsel_intro (fun hb=>?_) (fun hb=>?_)) | (refine ⟨_,sCellOk_r hp l _ _,?_⟩) | (refine ⟨_,sCellOk_r hp r _ _,?_⟩) | skip)
 all_goals exact fin_bool (by first | (simp_all [testOk]; done) | (simp_all [testOk]; omega) | (simp_all [testOk]; intros; omega))
end Go.Proofs.YtebciagembenjaaDoor
/- Plans in rows of one's own. -/
set_option maxHeartbeats 4000000
namespace Go.Proofs.YtebciagembenjaaDoor
open Go Go.Am
def OwnL {α : Type} (f : α → AVal) (sz : Nat) (h : Heap) (xs : List α) (v : AVal) (F : List Nat) : Prop:=
 (xs = [] ∧ F = [] ∧ (v = .nil ∨ v = .sl [])) ∨ ∃ id,v = .own id 0 xs.length ∧ h[id]? = some (.arr sz (xs.map f)) ∧ F = [id]
def pval (kind n : Int) (test : Test) (C : AVal) (a b : Int) (K : AVal) (agg col : Int) (D : AVal) : AVal:=
 .agg [i64 kind,i64 n,i64 test.kind,.bool test.no,i64 test.l.kind,i64 test.l.a,i64 test.l.b,i64 test.l.n,i64 test.r.kind,i64 test.r.a,i64 test.r.b,i64 test.r.n,
  C,i64 a,i64 b,K,i64 agg,i64 col,D]
mutual
def OwnP (h : Heap) : Plan → AVal → List Nat → Prop
 | .mk kind n test cells a b keys agg col kids,v,F=>∃ C K D Fc Fk Fd,v = pval kind n test C a b K agg col D ∧ OwnL Cell.enc 4 h cells C Fc ∧ OwnL i64 1 h keys K Fk ∧
   ((kids = [] ∧ D = .nil ∧ Fd = []) ∨ ∃ id vs Fs,D = .own id 0 kids.length ∧ h[id]? = some (.arr 19 vs) ∧ OwnPs h kids vs Fs ∧ Fd = id :: Fs) ∧ F = Fc ++ (Fk ++ Fd)
def OwnPs (h : Heap) : List Plan → List AVal → List Nat → Prop
 | [],vs,F=>vs = [] ∧ F = []
 | p :: ps,vs,F=>∃ v vs' F1 F2,vs = v :: vs' ∧ F = F1 ++ F2 ∧ OwnP h p v F1 ∧ OwnPs h ps vs' F2
end
def OwnK (h : Heap) (kids : List Plan) (D : AVal) (Fd : List Nat) : Prop:=
 (kids = [] ∧ D = .nil ∧ Fd = []) ∨ ∃ id vs Fs,D = .own id 0 kids.length ∧ h[id]? = some (.arr 19 vs) ∧ OwnPs h kids vs Fs ∧ Fd = id :: Fs
theorem OwnP_mk {h : Heap} {kind n : Int} {test : Test} {cells : List Cell} {a b : Int} {keys : List Int} {agg col : Int} {kids : List Plan} {v : AVal} {F : List Nat} :
  OwnP h (.mk kind n test cells a b keys agg col kids) v F ↔ ∃ C K D Fc Fk Fd,v = pval kind n test C a b K agg col D ∧ OwnL Cell.enc 4 h cells C Fc ∧ OwnL i64 1 h keys K Fk ∧ OwnK h kids D Fd ∧ F = Fc ++ (Fk ++ Fd):=by
   simp only [OwnP,OwnK]
theorem OwnPs_len {h : Heap} : ∀ {ps : List Plan} {vs : List AVal} {F : List Nat},OwnPs h ps vs F → vs.length = ps.length
 | [],vs,F,hp=>by simp only [OwnPs] at hp; rw [hp.1]; rfl
 | p :: ps,vs,F,hp=>by
  simp only [OwnPs] at hp
  obtain ⟨v,vs',F1,F2,rfl,rfl,_,h2⟩:=hp
  simp [OwnPs_len h2]
theorem OwnL.frame {α : Type} {f : α → AVal} {sz : Nat} {h h' : Heap} {xs : List α} {v : AVal} {F : List Nat} (ho : OwnL f sz h xs v F) (hf : ∀ id ∈ F,h'[id]? = h[id]?) : OwnL f sz h' xs v F:=by
 rcases ho with ho | ⟨id,h1,h2,rfl⟩
 ·exact .inl ho
 ·exact .inr ⟨id,h1,by rw [hf id (by simp)]; exact h2,rfl⟩
theorem own_frame {h h' : Heap} : ∀ (N : Nat),(∀ (p : Plan) (v : AVal) (F : List Nat),SizeOf.sizeOf p ≤ N → OwnP h p v F → (∀ id ∈ F,h'[id]? = h[id]?) → OwnP h' p v F) ∧
  ∀ (ps : List Plan) (vs : List AVal) (F : List Nat),SizeOf.sizeOf ps ≤ N → OwnPs h ps vs F → (∀ id ∈ F,h'[id]? = h[id]?) → OwnPs h' ps vs F:=by
   intro N
   induction N with
   | zero=>
    refine ⟨fun p v F hs=>?_,fun ps vs F hs hp _=>?_⟩
    ·cases p; simp at hs
    ·cases ps <;> simp at hs
   | succ N ih=>
    refine ⟨fun p v F hs hp hf=>?_,fun ps vs F hs hp hf=>?_⟩
    ·obtain ⟨kind,n,test,cells,a,b,keys,agg,col,kids⟩:=p
     rw [OwnP_mk] at hp ⊢
     obtain ⟨C,K,D,Fc,Fk,Fd,rfl,h1,h2,h3,rfl⟩:=hp
     refine ⟨C,K,D,Fc,Fk,Fd,rfl,h1.frame fun id hid=>hf id (by simp [hid]),h2.frame fun id hid=>hf id (by simp [hid]),?_,rfl⟩
     rcases h3 with h3 | ⟨id,vs,Fs,h4,h5,h6,rfl⟩
     ·exact .inl h3
     ·exact .inr ⟨id,vs,Fs,h4,by rw [hf id (by simp)]; exact h5,ih.2 kids vs Fs (by simp at hs; omega) h6 fun id hid=>hf id (by simp [hid]),rfl⟩
    ·cases ps with
     | nil=>simp only [OwnPs] at hp ⊢; exact hp
     | cons p ps=>
      simp only [OwnPs] at hp ⊢
      obtain ⟨v,vs',F1,F2,rfl,rfl,h1,h2⟩:=hp
      simp at hs
      exact ⟨v,vs',F1,F2,rfl,rfl,ih.1 p v F1 (by omega) h1 fun id hid=>hf id (by simp [hid]),ih.2 ps vs' F2 (by omega) h2 fun id hid=>hf id (by simp [hid])⟩
theorem OwnP.frame {h h' : Heap} {p : Plan} {v : AVal} {F : List Nat} (ho : OwnP h p v F) (hf : ∀ id ∈ F,h'[id]? = h[id]?) : OwnP h' p v F:=(own_frame _).1 p v F (Nat.le_refl _) ho hf
theorem OwnPs.frame {h h' : Heap} {ps : List Plan} {vs : List AVal} {F : List Nat} (ho : OwnPs h ps vs F) (hf : ∀ id ∈ F,h'[id]? = h[id]?) : OwnPs h' ps vs F:=(own_frame _).2 ps vs F (Nat.le_refl _) ho hf
theorem OwnK.frame {h h' : Heap} {ps : List Plan} {D : AVal} {F : List Nat} (ho : OwnK h ps D F) (hf : ∀ id ∈ F,h'[id]? = h[id]?) : OwnK h' ps D F:=by
 rcases ho with h3 | ⟨id,vs,Fs,h4,h5,h6,rfl⟩
 ·exact .inl h3
 ·exact .inr ⟨id,vs,Fs,h4,by rw [hf id (by simp)]; exact h5,h6.frame fun id hid=>hf id (by simp [hid]),rfl⟩
theorem OwnL.lt {α : Type} {f : α → AVal} {sz : Nat} {h : Heap} {xs : List α} {v : AVal} {F : List Nat} (ho : OwnL f sz h xs v F) : ∀ id ∈ F,id < h.length:=by
 rcases ho with ⟨_,rfl,_⟩ | ⟨id,h1,h2,rfl⟩
 ·simp
 ·intro i hi; simp at hi; subst hi; exact get_lt h2
theorem own_lt {h : Heap} : ∀ (N : Nat),(∀ (p : Plan) (v : AVal) (F : List Nat),SizeOf.sizeOf p ≤ N → OwnP h p v F → ∀ id ∈ F,id < h.length) ∧
  ∀ (ps : List Plan) (vs : List AVal) (F : List Nat),SizeOf.sizeOf ps ≤ N → OwnPs h ps vs F → ∀ id ∈ F,id < h.length:=by
   intro N
   induction N with
   | zero=>
    refine ⟨fun p v F hs=>?_,fun ps vs F hs hp=>?_⟩
    ·cases p; simp at hs
    ·cases ps <;> simp at hs
   | succ N ih=>
    refine ⟨fun p v F hs hp=>?_,fun ps vs F hs hp=>?_⟩
    ·obtain ⟨kind,n,test,cells,a,b,keys,agg,col,kids⟩:=p
     rw [OwnP_mk] at hp
     obtain ⟨C,K,D,Fc,Fk,Fd,rfl,h1,h2,h3,rfl⟩:=hp
     intro id hid
     simp only [List.mem_append] at hid
     rcases hid with hid | hid | hid
     ·exact h1.lt id hid
     ·exact h2.lt id hid
     ·rcases h3 with ⟨_,_,rfl⟩ | ⟨id',vs,Fs,h4,h5,h6,rfl⟩
      ·simp at hid
      ·rcases List.mem_cons.1 hid with rfl | hid
       ·exact get_lt h5
       ·exact ih.2 kids vs Fs (by simp at hs; omega) h6 id hid
    ·cases ps with
     | nil=>simp only [OwnPs] at hp; obtain ⟨rfl,rfl⟩:=hp; simp
     | cons p ps=>
      simp only [OwnPs] at hp
      obtain ⟨v,vs',F1,F2,rfl,rfl,h1,h2⟩:=hp
      simp at hs
      intro id hid
      rcases List.mem_append.1 hid with hid | hid
      ·exact ih.1 p v F1 (by omega) h1 id hid
      ·exact ih.2 ps vs' F2 (by omega) h2 id hid
theorem OwnP.lt {h : Heap} {p : Plan} {v : AVal} {F : List Nat} (ho : OwnP h p v F) : ∀ id ∈ F,id < h.length:=(own_lt _).1 p v F (Nat.le_refl _) ho
theorem OwnPs.lt {h : Heap} {ps : List Plan} {vs : List AVal} {F : List Nat} (ho : OwnPs h ps vs F) : ∀ id ∈ F,id < h.length:=(own_lt _).2 ps vs F (Nat.le_refl _) ho
theorem OwnK.lt {h : Heap} {ps : List Plan} {D : AVal} {F : List Nat} (ho : OwnK h ps D F) : ∀ id ∈ F,id < h.length:=by
 rcases ho with ⟨_,_,rfl⟩ | ⟨id,vs,Fs,h4,h5,h6,rfl⟩
 ·simp
 ·intro i hi
  rcases List.mem_cons.1 hi with rfl | hi
  ·exact get_lt h5
  ·exact h6.lt i hi
theorem snapF_int (h : Heap) (n : Nat) (x : Int) : snapF h (n + 1) (i64 x) = some (i64 x):=rfl
theorem snapF_bool (h : Heap) (n : Nat) (x : Bool) : snapF h (n + 1) (.bool x) = some (.bool x):=rfl
theorem snapF_own {h : Heap} {n id len sz : Nat} {es xs : List AVal} (hi : h[id]? = some (.arr sz es)) (hl : len = es.length) (hm : mapO (snapF h n) es = some xs) : snapF h (n + 1) (.own id 0 len) = some (.sl xs):=by
 subst hl
 simp only [snapF,hi,Nat.zero_add,Nat.le_refl,if_true,List.drop_zero,List.take_length,hm,Option.map_some]
theorem OwnL.snapF {α : Type} {f : α → AVal} {sz : Nat} {h : Heap} {xs : List α} {v : AVal} {F : List Nat} {n : Nat} (hf : ∀ x,Am.snapF h (n + 1) (f x) = some (f x)) (ho : OwnL f sz h xs v F) : Am.snapF h (n + 2) v = some (.sl (xs.map f)):=by
 rcases ho with ⟨rfl,_,rfl | rfl⟩ | ⟨id,rfl,h2,_⟩
 ·rfl
 ·rfl
 ·exact snapF_own h2 (by simp) (mapO_id _ fun x hx=>by obtain ⟨y,_,rfl⟩:=List.mem_map.1 hx; exact hf y)
theorem own_snap {h : Heap} : ∀ (N : Nat),(∀ (p : Plan) (v : AVal) (F : List Nat) (n : Nat),SizeOf.sizeOf p ≤ N → OwnP h p v F → 2 * p.sz + 5 ≤ n → Am.snapF h n v = some p.enc) ∧
  ∀ (ps : List Plan) (vs : List AVal) (F : List Nat) (n : Nat),SizeOf.sizeOf ps ≤ N → OwnPs h ps vs F → 2 * Plan.szs ps + 5 ≤ n → mapO (Am.snapF h n) vs = some (Plan.encs ps):=by
   intro N
   induction N with
   | zero=>
    refine ⟨fun p v F n hs=>?_,fun ps vs F n hs hp=>?_⟩
    ·cases p; simp at hs
    ·cases ps <;> simp at hs
   | succ N ih=>
    refine ⟨fun p v F n hs hp hn=>?_,fun ps vs F n hs hp hn=>?_⟩
    ·obtain ⟨kind,m,test,cells,a,b,keys,agg,col,kids⟩:=p
     rw [OwnP_mk] at hp
     obtain ⟨C,K,D,Fc,Fk,Fd,rfl,h1,h2,h3,rfl⟩:=hp
     simp only [Plan.sz] at hn
     obtain ⟨n,rfl⟩ : ∃ k,n = k + 5:=⟨n - 5,by omega⟩
     have e1 : Am.snapF h (n + 4) C = some (.sl (cells.map Cell.enc)):=OwnL.snapF (n:=n + 2) (fun x=>rfl) h1
     have e2 : Am.snapF h (n + 4) K = some (.sl (keys.map i64)):=OwnL.snapF (n:=n + 2) (fun x=>rfl) h2
     have e3 : Am.snapF h (n + 4) D = some (.sl (Plan.encs kids)):=by
      rcases h3 with ⟨rfl,rfl,_⟩ | ⟨id,vs,Fs,rfl,h5,h6,_⟩
      ·rfl
      ·refine snapF_own h5 (by rw [OwnPs_len h6]) ?_
       cases kids with
       | nil=>simp only [OwnPs] at h6; rw [h6.1]; rfl
       | cons q qs=>
        refine ih.2 _ vs Fs (n + 3) (by simp at hs ⊢; omega) h6 ?_
        simp at hn
        omega
     show (mapO (Am.snapF h (n + 4)) _).map AVal.agg = _
     simp only [mapO,e1,e2,e3,snapF_int,snapF_bool,Option.map_some,Plan.enc]
    ·cases ps with
     | nil=>simp only [OwnPs] at hp; rw [hp.1]; rfl
     | cons p ps=>
      simp only [OwnPs] at hp
      obtain ⟨v,vs',F1,F2,rfl,rfl,h1,h2⟩:=hp
      simp at hs
      simp only [Plan.szs] at hn
      simp only [mapO,ih.1 p v F1 n (by omega) h1 (by omega),ih.2 ps vs' F2 n (by omega) h2 (by omega),Plan.encs]
theorem OwnP.snap {h : Heap} {p : Plan} {v : AVal} {F : List Nat} (ho : OwnP h p v F) (hsm : p.small) : Am.snap h v = some p.enc:=(own_snap _).1 p v F _ (Nat.le_refl _) ho (by unfold Plan.small at hsm; omega)
end Go.Proofs.YtebciagembenjaaDoor

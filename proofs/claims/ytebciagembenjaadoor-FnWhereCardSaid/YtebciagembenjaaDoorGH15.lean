/- From Am's 'true' to the row's conclusion. -/
import Derived.Test.YtebciagembenjaaDoorGSBmQ
import Derived.WideKeyArgs
import Derived.ChangeSame
import Derived.RowKit3
set_option linter.unusedVariables false
set_option linter.unusedSimpArgs false
/- From a row's reading of its arguments to Am's values; from Am's 'true' to the row's conclusion. -/
set_option maxHeartbeats 4000000
namespace Go.Am
open Go
def ofCells (P : Program) (e : TypeId) (ys : List AVal) : AVal:=
 match P.underlying e with
 | some (.struct _)=>.agg ys
 | some (.array _ _)=>.agg ys
 | _=>match ys with
  | [y]=>y
  | _=>.agg ys
def TyA (P : Program) : Nat → TypeId → List AVal → Prop
 | 0,_,_=>False
 | n + 1,t,xs=>match P.underlying t with
  | some .bool=>∃ b,xs = [.bool b]
  | some (.int k)=>∃ i,xs = [.int k i] ∧ (Lit.int k i).wf = true
  | some .string=>∃ s : ByteArray,xs = [.str s] ∧ s.size ≤ maxLen
  | some (.slice e)=>∃ yss : List (List AVal),xs = [.sl (yss.map (ofCells P e))] ∧ yss.length ≤ maxLen ∧ ∀ ys ∈ yss,TyA P n e ys
  | some (.struct fs)=>xs.length = P.cellsOf t ∧ ∀ f ∈ fs.toList,TyA P n f.type ((xs.drop f.offset).take (P.cellsOf f.type))
  | _=>False
def tiled (P : Program) : List Field → Nat → Nat → Bool
 | [],off,n=>decide (off = n)
 | f :: fs,off,n=>decide (f.offset = off) && tiled P fs (off + P.cellsOf f.type) n
def plainL (P : Program) (ts : List TypeId) : Bool:=
 ts.all fun t=>match P.underlying t with
  | some .bool=>decide (P.cellsOf t = 1)
  | some (.int _)=>decide (P.cellsOf t = 1)
  | some .string=>decide (P.cellsOf t = 1)
  | some (.slice e)=>decide (P.cellsOf t = 1) && (decide (0 < P.cellsOf e) && ts.contains e)
  | some (.struct fs)=>tiled P fs.toList 0 (P.cellsOf t) && fs.toList.all fun f=>ts.contains f.type
  | _=>false
def RepsC (w : World) (xs : List AVal) (cs : List Value) : Prop:=xs.length = cs.length ∧ ∀ (i : Nat) (x : AVal) (v : Value),xs[i]? = some x → cs[i]? = some v → RepC (fun b=>b < w.heap.size) w x v
theorem RepsC.one {w : World} {x : AVal} {v : Value} (h : RepC (fun b=>b < w.heap.size) w x v) : RepsC w [x] [v]:=⟨rfl,fun i y u hy hu=>by
 cases i with
 | zero=>simp at hy hu; subst hy hu; exact h
 | succ i=>simp at hy⟩
theorem RepsC.append {w : World} {xs ys : List AVal} {cs ds : List Value} (h : RepsC w xs cs) (h' : RepsC w ys ds) : RepsC w (xs ++ ys) (cs ++ ds):=by
 refine ⟨by simp [h.1,h'.1],fun i x v hx hv=>?_⟩
 by_cases hi : i < xs.length
 ·rw [List.getElem?_append_left hi] at hx
  rw [List.getElem?_append_left (by rw [← h.1]; exact hi)] at hv
  exact h.2 i x v hx hv
 ·rw [List.getElem?_append_right (by omega)] at hx
  rw [List.getElem?_append_right (by rw [← h.1]; omega),← h.1] at hv
  exact h'.2 _ x v hx hv
theorem TyA.mono {P : Program} : ∀ {n m : Nat},n ≤ m → ∀ {t : TypeId} {xs : List AVal},TyA P n t xs → TyA P m t xs:=by
 intro n
 induction n with
 | zero=>intro m _ t xs h; exact h.elim
 | succ n ih=>
  intro m hm t xs h
  cases m with
  | zero=>omega
  | succ m=>
   unfold TyA at h ⊢
   split at h
   ·rename_i hu; first | exact h | (simp only [hu]; exact h)
   ·rename_i k hu; first | exact h | (simp only [hu]; exact h)
   ·rename_i hu; first | exact h | (simp only [hu]; exact h)
   ·rename_i e hu
    try simp only [hu]
    obtain ⟨yss,h1,h2,h3⟩:=h
    exact ⟨yss,h1,h2,fun ys hy=>ih (by omega) (h3 ys hy)⟩
   ·rename_i fs hu
    try simp only [hu]
    exact ⟨h.1,fun f hf=>ih (by omega) (h.2 f hf)⟩
   ·exact h.elim
theorem ofCells_cells {P : Program} {n : Nat} {e : TypeId} {ys : List AVal} (h : TyA P n e ys) : (ofCells P e ys).cells = ys:=by
 cases n with
 | zero=>exact h.elim
 | succ n=>
  unfold TyA at h
  unfold ofCells
  split at h
  ·rename_i hu; try simp only [hu]; obtain ⟨b,rfl⟩:=h; rfl
  ·rename_i k hu; try simp only [hu]; obtain ⟨i,rfl,_⟩:=h; rfl
  ·rename_i hu; try simp only [hu]; obtain ⟨s,rfl,_⟩:=h; rfl
  ·rename_i e' hu; try simp only [hu]; obtain ⟨yss,rfl,_⟩:=h; rfl
  ·rename_i fs hu; try simp only [hu]; rfl
  ·exact h.elim
theorem tiled_sum {P : Program} : ∀ (fs : List Field) (off n : Nat),tiled P fs off n = true → off ≤ n ∧ ∀ f ∈ fs,off ≤ f.offset ∧ f.offset + P.cellsOf f.type ≤ n:=by
 intro fs
 induction fs with
 | nil=>intro off n h; simp [tiled] at h; exact ⟨by omega,fun f hf=>by cases hf⟩
 | cons f fs ih=>
  intro off n h
  simp only [tiled,Bool.and_eq_true,decide_eq_true_eq] at h
  obtain ⟨h1,h2⟩:=ih _ _ h.2
  refine ⟨by omega,fun g hg=>?_⟩
  rcases List.mem_cons.1 hg with rfl | hg
  ·exact ⟨by omega,by omega⟩
  ·obtain ⟨h3,h4⟩:=h2 g hg; exact ⟨by omega,h4⟩
theorem tile_asm {P : Program} {w : World} {m n : Nat} {cs : List Value} (hcs : cs.length = n) : ∀ (fs : List Field) (off : Nat),tiled P fs off n = true → (∀ f ∈ fs,∃ ys,RepsC w ys ((cs.drop f.offset).take (P.cellsOf f.type)) ∧ TyA P m f.type ys) →
  ∃ xs,RepsC w xs (cs.drop off) ∧ ∀ f ∈ fs,TyA P m f.type ((xs.drop (f.offset - off)).take (P.cellsOf f.type)):=by
   intro fs
   induction fs with
   | nil=>
    intro off h _
    simp [tiled] at h
    exact ⟨[],⟨by simp; omega,fun i x v hx=>by simp at hx⟩,fun f hf=>by cases hf⟩
   | cons f fs ih=>
    intro off h hk
    have hs:=tiled_sum _ _ _ h
    simp only [tiled,Bool.and_eq_true,decide_eq_true_eq] at h
    obtain ⟨ho,ht⟩:=h
    obtain ⟨ys,hy1,hy2⟩:=hk f (by simp)
    obtain ⟨xs,hx1,hx2⟩:=ih _ ht fun g hg=>hk g (by simp [hg])
    have hle:=(hs.2 f (by simp)).2
    have hyl : ys.length = P.cellsOf f.type:=by rw [hy1.1]; simp; omega
    refine ⟨ys ++ xs,?_,fun g hg=>?_⟩
    ·have : cs.drop off = (cs.drop f.offset).take (P.cellsOf f.type) ++ cs.drop (off + P.cellsOf f.type):=by
      rw [ho,← List.drop_drop,List.take_append_drop]
     rw [this]
     exact hy1.append hx1
    ·rcases List.mem_cons.1 hg with rfl | hg
     ·rw [show g.offset - off = 0 by omega,List.drop_zero,List.take_append_of_le_length (by omega),List.take_of_length_le (by omega)]
      exact hy2
     ·have hge:=((tiled_sum _ _ _ ht).2 g hg).1
      rw [List.drop_append,List.drop_eq_nil_of_le (by omega),List.nil_append,hyl,show g.offset - off - P.cellsOf f.type = g.offset - (off + P.cellsOf f.type) by omega]
      exact hx2 g hg
theorem trod_rep {H : Type} {enc : TypeId × Value → H} {P : Program} {w : World} {base : Nat} {ts : List TypeId} (hp : plainL P ts = true) :
  ∀ (n : Nat) (t : TypeId) (cs : List Value) (z : DataW H × List MemPlace),t ∈ ts → DataW.trod enc P w base (fun _=>true) true n t cs = some z → cs.length = P.cellsOf t ∧ ∃ xs,RepsC w xs cs ∧ TyA P n t xs:=by
   intro n
   induction n with
   | zero=>intro t cs z _ h; simp [DataW.trod] at h
   | succ n ih=>
    intro t cs z ht h
    have hpt:=List.all_eq_true.1 hp t ht
    cases hu : P.underlying t with
    | none=>simp only [hu] at hpt; cases hpt
    | some d=>
     simp only [hu] at hpt
     cases d <;> simp only at hpt <;> (try (cases hpt; done))
     case bool=>
      simp only [decide_eq_true_eq] at hpt
      obtain ⟨b,rfl,_⟩:=DataW.trod_bool hu h
      exact ⟨by simp [hpt],[.bool b],.one (.bool b),by unfold TyA; simp only [hu]; exact ⟨b,rfl⟩⟩
     case int k=>
      simp only [decide_eq_true_eq] at hpt
      obtain ⟨i,rfl,_,hwf⟩:=DataW.trod_int hu h
      exact ⟨by simp [hpt],[.int k i],.one (.int k i),by unfold TyA; simp only [hu]; exact ⟨i,rfl,hwf⟩⟩
     case string=>
      simp only [decide_eq_true_eq] at hpt
      obtain ⟨s,rfl,_,hs⟩:=DataW.trod_string hu h
      exact ⟨by simp [hpt],[.str s],.one (.str s),by unfold TyA; simp only [hu]; exact ⟨s,rfl,hs⟩⟩
     case slice e=>
      simp only [Bool.and_eq_true,decide_eq_true_eq,List.contains_iff_mem] at hpt
      obtain ⟨h1,hpos,hmem⟩:=hpt
      rcases DataW.trod_slice hu h with ⟨rfl,_⟩ | ⟨a,len,cap,elems,rest,m,hm,rfl,hz,hb,hlc,hcap,hel,hel2,_,_⟩
      ·refine ⟨by simp [h1],[.sl []],.one (.sl [] none 0 0 0 0 (fun _ _=>undef) (fun h=>absurd rfl h) (Nat.le_refl _) (fun x hx=>by simp at hx) (fun i j x c hx=>by simp at hx) (fun i j x c hx=>by simp at hx)),?_⟩
       unfold TyA; simp only [hu]
       exact ⟨[],rfl,Nat.zero_le _,fun ys hy=>by cases hy⟩
      ·have hm' : m = n:=by omega
       subst hm'
       have key : ∀ i,i < len → ∃ (cs : List Value) (ys : List AVal),w.cells? base (a.add (i * P.cellsOf e)) (P.cellsOf e) = some cs ∧ RepsC w ys cs ∧ TyA P m e ys:=by
        intro i hi
        obtain ⟨z',hz'⟩:=getElem?_some_of_lt (l:=elems) (i:=i) (by omega)
        have:=hel2 i hi
        rw [hz',Option.bind_eq_some_iff] at this
        obtain ⟨cs,hcs,ht'⟩:=this
        obtain ⟨_,ys,hys,hty⟩:=ih e cs z' hmem ht'
        exact ⟨cs,ys,hcs,hys,hty⟩
       -- the elements,chosen
       have chosen : ∃ F : Nat → List AVal,∀ i,i < len → ∃ cs,w.cells? base (a.add (i * P.cellsOf e)) (P.cellsOf e) = some cs ∧ RepsC w (F i) cs ∧ TyA P m e (F i):=by
        refine ⟨fun i=>if hi : i < len then (key i hi).choose_spec.choose else [],fun i hi=>?_⟩
        simp only [dif_pos hi]
        obtain ⟨g1,g2,g3⟩:=(key i hi).choose_spec.choose_spec
        exact ⟨_,g1,g2,g3⟩
       obtain ⟨F,hF⟩:=chosen
       let yss:=(List.range len).map F
       have hget : ∀ (i : Nat) (x : AVal),(yss.map (ofCells P e))[i]? = some x → i < len ∧ x = ofCells P e (F i):=by
        intro i x hx
        have hi : i < len:=by have:=(List.getElem?_eq_some_iff.1 hx).1; simpa [yss] using this
        simp [yss,hi] at hx
        exact ⟨hi,hx.symm⟩
       have hlen : ∀ i,i < len → (F i).length = P.cellsOf e:=by
        intro i hi
        obtain ⟨cs,g1,g2,g3⟩:=hF i hi
        rw [g2.1]
        exact (World.cells?_some g1).2.1
       have hspot : 0 < len → a = ⟨a.block,a.off,none⟩:=by
        intro h0
        obtain ⟨cs,g1,g2,g3⟩:=hF 0 h0
        obtain ⟨_,g5,g6⟩:=World.cells?_some g1
        have:=g6 0 hpos
        have hc : (w.cell? a).isSome = true:=by
         have e1 : ((a.add (0 * P.cellsOf e)).add 0) = a:=by simp [Addr.add]
         rw [e1] at this
         rw [this]
         simp [g5,hpos]
        unfold World.cell? at hc
        obtain ⟨b,o,sp⟩:=a
        cases sp with
        | none=>rfl
        | some sp=>
         exfalso
         simp at hc
         split at hc <;> simp at hc
       have hcell : ∀ i j x c,(yss.map (ofCells P e))[i]? = some x → x.cells[j]? = some c → ∃ v,w.cell? ⟨a.block,a.off + (i * P.cellsOf e + j),none⟩ = some v ∧ RepC (fun b=>b < w.heap.size) w c v:=by
        intro i j x c hx hj
        obtain ⟨hi,rfl⟩:=hget i x hx
        obtain ⟨cs,g1,g2,g3⟩:=hF i hi
        rw [ofCells_cells g3] at hj
        obtain ⟨_,g5,g6⟩:=World.cells?_some g1
        have hjl : j < cs.length:=by rw [← g2.1]; exact (List.getElem?_eq_some_iff.1 hj).1
        obtain ⟨v,hv⟩:=getElem?_some_of_lt hjl
        refine ⟨v,?_,g2.2 j c v hj hv⟩
        have:=g6 j (by omega)
        rw [hspot (by omega),Addr.add_mid,Addr.add_mid,hv] at this
        rw [← this,Nat.add_assoc]
       refine ⟨by simp [h1],[.sl (yss.map (ofCells P e))],.one ?_,?_⟩
       ·have hll : (yss.map (ofCells P e)).length = len:=by simp [yss]
        have:=RepC.sl (S:=fun b=>b < w.heap.size) (w:=w) (yss.map (ofCells P e)) (some a) cap (P.cellsOf e) a.block a.off (fun i j=>(w.cell? ⟨a.block,a.off + (i * P.cellsOf e + j),none⟩).getD undef) (fun hne=>?_) (by omega) (fun x hx=>?_) (fun i j x c hx hj=>?_) (fun i j x c hx hj=>?_)
        ·rw [hll] at this; exact this
        ·have h0 : 0 < len:=by rw [← hll]; exact List.length_pos_iff.2 hne
         exact congrArg some (hspot h0)
        ·obtain ⟨i,hi⟩:=List.mem_iff_getElem?.1 hx
         obtain ⟨hil,rfl⟩:=hget i x hi
         obtain ⟨cs,g1,g2,g3⟩:=hF i hil
         rw [ofCells_cells g3]
         exact hlen i hil
        ·obtain ⟨v,hv,_⟩:=hcell i j x c hx hj
         refine ⟨?_,by rw [hv]; rfl⟩
         unfold World.cell? at hv
         cases hq : w.heap[a.block]? with
         | none=>simp [hq] at hv
         | some o=>exact (Array.getElem?_eq_some_iff.1 hq).1
        ·obtain ⟨v,hv,hr⟩:=hcell i j x c hx hj
         simp only [hv,Option.getD_some]
         exact hr
       ·unfold TyA; simp only [hu]
        refine ⟨yss,rfl,by simp [yss]; omega,fun ys hy=>?_⟩
        obtain ⟨i,hi,rfl⟩:=List.mem_map.1 hy
        obtain ⟨cs,g1,g2,g3⟩:=hF i (by simpa using hi)
        exact g3
     case struct fs=>
      simp only [Bool.and_eq_true] at hpt
      obtain ⟨htile,hmem⟩:=hpt
      obtain ⟨zs,m,hm,_,hcl,hzl,hfs⟩:=DataW.trod_struct hu h
      have hm' : m = n:=by omega
      subst hm'
      have key : ∀ f ∈ fs.toList,∃ ys,RepsC w ys ((cs.drop f.offset).take (P.cellsOf f.type)) ∧ TyA P m f.type ys:=by
       intro f hf
       obtain ⟨i,hi⟩:=List.mem_iff_getElem?.1 hf
       have hi' : fs[i]? = some f:=by simpa using hi
       have hz:=hfs i f hi'
       have hlt : i < zs.length:=by rw [hzl]; exact (Array.getElem?_eq_some_iff.1 hi').1
       obtain ⟨z',hz'⟩:=getElem?_some_of_lt hlt
       rw [hz'] at hz
       have hmf : f.type ∈ ts:=by
        have:=List.all_eq_true.1 hmem f hf
        simpa using this
       obtain ⟨_,ys,h1,h2⟩:=ih f.type _ z' hmf hz
       exact ⟨ys,h1,h2⟩
      obtain ⟨xs,hx1,hx2⟩:=tile_asm hcl fs.toList 0 htile key
      rw [List.drop_zero] at hx1
      refine ⟨hcl,xs,hx1,?_⟩
      unfold TyA; simp only [hu]
      exact ⟨by rw [hx1.1]; exact hcl,fun f hf=>by have:=hx2 f hf; simpa using this⟩
end Go.Am
/- From Am's 'true' to the row's conclusion. -/
set_option maxHeartbeats 4000000
namespace Go.Am
open Go Go.ChangeShapes Go.RowKit
inductive Args (P : Program) : List TypeId → List AVal → Prop
 | nil : Args P [] []
 | cons {t : TypeId} {ts : List TypeId} {n : Nat} {xs : List AVal} {as : List AVal} (h : TyA P n t xs) (hr : Args P ts as) : Args P (t :: ts) (ofCells P t xs :: as)
theorem arg_rep {P : Program} {W : World} {base n : Nat} {t : TypeId} {v : Value} {xs : List AVal} (hx : TyA P n t xs) (hr : RepsC W xs v.cells.toList) (hok : Value.okWide P W .any base t v) : RepC (fun b=>b < W.heap.size) W (ofCells P t xs) v:=by
 cases n with
 | zero=>exact hx.elim
 | succ n=>
  have cell : ∀ (x : AVal),xs = [x] → (∀ cs,v ≠ .agg cs) → RepC (fun b=>b < W.heap.size) W x v:=by
   intro x he hv
   subst he
   refine hr.2 0 x v rfl ?_
   cases v <;> first | rfl | exact absurd rfl (hv _)
  unfold TyA at hx
  unfold ofCells
  unfold Value.okWide at hok
  cases hu : P.underlying t with
  | none=>simp only [hu] at hx
  | some d=>
   simp only [hu] at hx hok ⊢
   cases d <;> simp only at hx hok ⊢
   case struct fs=>
    obtain ⟨cs,rfl,_,_⟩:=hok
    exact .agg xs cs (by simpa [Value.cells] using hr.1) fun i c v hc hv=>hr.2 i c v hc (by simpa [Value.cells] using hv)
   case bool=>
    obtain ⟨b,rfl⟩:=hx
    exact cell _ rfl fun cs e=>by subst e; simp [Cell.okWide,Cell.ok,hu] at hok
   case int k=>
    obtain ⟨b,rfl,_⟩:=hx
    exact cell _ rfl fun cs e=>by subst e; simp [Cell.okWide,Cell.ok,hu] at hok
   case string=>
    obtain ⟨b,rfl,_⟩:=hx
    exact cell _ rfl fun cs e=>by subst e; simp [Cell.okWide,Cell.ok,hu] at hok
   case slice e=>
    obtain ⟨b,rfl,_⟩:=hx
    exact cell _ rfl fun cs e=>by subst e; simp [Cell.okWide,Cell.ok,hu] at hok
theorem args_rep {H : Type} {enc : TypeId × Value → H} {P : Program} {W : World} {base : Nat} {ts : List TypeId} (hp : plainL P ts = true) : ∀ (ps : List TypeId) (vs : List Value) (ds : List (DataW H)) (p : List MemPlace),(∀ t ∈ ps,t ∈ ts) →
  (∀ (j : Nat) t v,ps[j]? = some t → vs[j]? = some v → Value.okWide P W .any base t v) → DataW.TrodAll enc P W 0 (fun _=>true) true ps vs ds p → ∃ as,Args P ps as ∧ RepsC W as vs:=by
   intro ps
   induction ps with
   | nil=>
    intro vs ds p _ _ h
    cases vs with
    | nil=>exact ⟨[],.nil,rfl,fun i x v hx=>by simp at hx⟩
    | cons v vs=>exact h.elim
   | cons t ps ih=>
    intro vs ds p hm hok h
    cases vs with
    | nil=>exact h.elim
    | cons v vs=>
     cases ds with
     | nil=>exact h.elim
     | cons d ds=>
      obtain ⟨q,q',⟨n,hn⟩,hrest,_⟩:=h
      obtain ⟨_,xs,hx1,hx2⟩:=trod_rep hp n t _ _ (hm t (by simp)) hn
      obtain ⟨as,ha,hr⟩:=ih vs ds q' (fun t ht=>hm t (by simp [ht])) (fun j t v h1 h2=>hok (j + 1) t v (by simpa using h1) (by simpa using h2)) hrest
      exact ⟨_,.cons hx2 ha,(RepsC.one (arg_rep hx2 hx1 (hok 0 t v rfl rfl))).append hr⟩
theorem trodAll_stays {H : Type} {enc : TypeId × Value → H} {P : Program} {W W' : World} (hl : laidOutB P = true) {sp' : Nat → Bool} : ∀ (ps : List TypeId) (vs : List Value) (ds : List (DataW H)) (p : List MemPlace),(∀ t ∈ ps,P.readableRec t = true ∧ t < P.types.size) →
  DataW.TrodAll enc P W 0 (fun _=>true) true ps vs ds p → (∀ x ∈ p,W.sameAt W' x) → (∀ x ∈ p,sp' x.block = true) → DataW.TrodAll enc P W' 0 sp' true ps vs ds p:=by
   intro ps
   induction ps with
   | nil=>intro vs ds p _ h _ _; cases vs <;> cases ds <;> exact h
   | cons t ps ih=>
    intro vs ds p hr h hs hsp
    cases vs with
    | nil=>exact h.elim
    | cons v vs=>
     cases ds with
     | nil=>exact h.elim
     | cons d ds=>
      obtain ⟨q,q',h1,h2,rfl⟩:=h
      exact ⟨q,q',WideElems.Trod_stays hl (hr t (by simp)).1 (hr t (by simp)).2 h1 (fun x hx=>hs x (by simp [hx])) (fun x hx=>hsp x (by simp [hx])),ih vs ds q' (fun t ht=>hr t (by simp [ht])) h2 (fun x hx=>hs x (by simp [hx])) (fun x hx=>hsp x (by simp [hx])),rfl⟩
theorem kept_of_ext {S : Nat → Prop} {W W' : World} {E' : Env} {h' : Heap} {may : MemPlace → Prop} (x : Ext (Env.bare S) [] W E' h' W') : W.keptBut W' may:=by
 have hm : ∀ b,b < W.heap.size → W'.heap[b]? = W.heap[b]?:=fun b hb=>x.mem b hb Env.bare_im
 refine ⟨x.os,x.output,fun i hi=>?_⟩
 rw [hm i hi]
 cases hq : W.heap[i]? with
 | none=>rfl
 | some o=>cases o <;> simp
end Go.Am

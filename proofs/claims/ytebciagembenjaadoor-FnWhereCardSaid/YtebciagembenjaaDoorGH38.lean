/- SELECTION PARTITIONS EXACTLY, for all inputs. Conditions: none beyond the row's own (the package's error reads as the program's text lays it: the card ties it). -/
import Derived.Test.YtebciagembenjaaDoorGH15
import Derived.Stop.LaidErr
import Derived.Test.YtebciagembenjaaDoorGH22
import Derived.Test.YtebciagembenjaaDoorGH37
import Derived.Test.YtebciagembenjaaDoorTie
import Derived.Test.YtebciagembenjaaDoorCards
import Derived.ProofKit
import Derived.SevenTiedAt
set_option linter.unusedVariables false
set_option linter.unusedSimpArgs false
/- From Am's 'true' to the conclusion of a row that lists one sentinel. -/
set_option maxHeartbeats 4000000
namespace Go.Am
open Go Go.ChangeShapes Go.RowKit
theorem row_true1 {cf : Cfg} (ok : CfgOk cf) {f : FuncId} {fn : Func} (hb : bodied cf.P f = true) {s : ChangeSpec} {n : String} {g : Nat} {ti tp : TypeId} {ms : Array (String × TypeId)} (hv : s.vars = [n]) (hl : laidOutB cf.P = true) (hread : ∀ t ∈ fn.params.toList,cf.P.readableRec t = true ∧ t < cf.P.types.size)
  {ts : List TypeId} (hp : plainL cf.P ts = true) (hts : ∀ t ∈ fn.params.toList,t ∈ ts) {tb : TypeId} (hres : fn.resultTypes = #[tb]) (htb : cf.P.underlying tb = some .bool)
  (hG : ∀ g' v,cf.G g' = some v → g' = g ∧ v = .gv g tp) (hg : cf.P.globalNamed n = some g) (ht : (cf.P.globals[g]?).map (·.type) = some ti) (hi : cf.P.underlying ti = some (.interface ms))
  (hfn : ∀ (H : Type) (ds : List (DataW H)) (d : DataW H),ds.length = fn.params.size → s.fn H (ds ++ [d]) = { results:=[.lit (.bool true)],args:=ds,vars:=[d] })
  (hcall : ∀ av,Args cf.P fn.params.toList av → ∃ h,call cf f av [] = some (.ret (.bool true) h))
  {H : Type} {enc : TypeId × Value → H} {W : World} {base : Nat} {args : Array Value} {ds gs : List (DataW H)} {before : List MemPlace}
  (hval : ∀ (j : Nat) t v,fn.params[j]? = some t → args[j]? = some v → Value.okWide cf.P W .any base t v)
  (hW : DataW.Whole enc cf.P fn.params.toList s.vars false W args.toList ds gs before) {a : Addr} (hvar : W.var? cf.P n = some #[.iface tp (.pointer (some a))]) :
  Calls cf.P f args W fun e W'=>∃ v,e = .returned v ∧ s.post enc cf.P fn false true false false W args v W':=by
   have hW':=hW
   obtain ⟨p,q,hA,hV,hpq,hz,hnd⟩:=hW
   rw [hv] at hV
   obtain ⟨rfl,rfl⟩:=hV.unique (vars_read1 enc hg ht hi hvar trivial _)
   subst hpq
   obtain ⟨av,ha,hr⟩:=args_rep hp _ _ _ _ hts (fun j t v h1 h2=>hval j t v (by simpa using h1) (by simpa using h2)) hA
   obtain ⟨h,hc⟩:=hcall av ha
   have len : ∀ (ps : List TypeId) (vs : List Value) (ds : List (DataW H)) (p : List MemPlace),DataW.TrodAll enc cf.P W 0 (fun _=>true) true ps vs ds p → ds.length = ps.length:=by
    intro ps
    induction ps with
    | nil=>intro vs ds p h; cases vs <;> cases ds <;> first | rfl | exact h.elim
    | cons t ps ih=>
     intro vs ds p h
     cases vs with
     | nil=>exact h.elim
     | cons v vs=>
      cases ds with
      | nil=>exact h.elim
      | cons d ds=>obtain ⟨_,_,_,h2,_⟩:=h; simp [ih vs ds _ h2]
   have hfn':=fun d=>hfn H ds d (by rw [len _ _ _ _ hA]; simp)
   have hlt : ∀ x ∈ p ++ [MemPlace.cell g 0],x.block < W.heap.size:=fun x hx=>hW'.lt x hx
   have hcell : W.cell? ⟨g,0,none⟩ = some (.iface tp (.pointer (some a))):=by simpa using World.var?_cell hg hvar 0
   have hgl : g < W.heap.size:=World.block_lt_of_cell? _ _ hcell
   have hgok : GOk cf.G (fun b=>b < W.heap.size) W:=fun g' v hg'=>by
    obtain ⟨rfl,rfl⟩:=hG g' v hg'
    have h1 : RepC (fun b=>b < W.heap.size) W (.gv g' tp) (.iface tp (.pointer (some a))):=.gv g' tp a hgl hcell
    have h2:=RepC.iptr (S:=fun b=>b < W.heap.size) (w:=W) [.gv g' tp] 0 0 1 g' 0 (fun _ _=>.iface tp (.pointer (some a))) (fun x hx=>by simp at hx; subst hx; rfl) (fun i j x c hx hc=>by
     cases i with
     | zero=>
      simp at hx
      subst hx
      cases j with
      | zero=>exact ⟨hgl,hcell⟩
      | succ j=>simp [AVal.cells] at hc
     | succ i=>simp at hx) (fun i j x c hx hc=>by
     cases i with
     | zero=>
      simp at hx
      subst hx
      cases j with
      | zero=>simp [AVal.cells] at hc; subst hc; exact h1
      | succ j=>simp [AVal.cells] at hc
     | succ i=>simp at hx)
    simpa using h2
   refine Calls.mono (call_sound ok f av [] _ hc (Env.bare fun b=>b < W.heap.size) W args hb (Sim.bare fun _ h=>h) (fun _ _=>rfl) hgok ⟨by have:=hr.1; simpa using this,fun i c v h1 h2=>.clo (hr.2 i c v h1 (by simpa using h2))⟩) fun e W' he=>?_
   cases e with
   | outgrown=>exact he.elim
   | panicked ch=>obtain ⟨v,h',E',u,hq,_⟩:=he; cases hq
   | returned u=>
    obtain ⟨v,h',E',hq,s',f',x',r'⟩:=he
    cases hq
    obtain rfl:=r'.bool
    have hvar' : W'.var? cf.P n = some #[.iface tp (.pointer (some a))]:=by
     unfold World.var? at hvar ⊢
     rw [hg] at hvar ⊢
     simp only [Option.bind_some] at hvar ⊢
     rw [x'.mem _ hgl Env.bare_im]
     exact hvar
    refine ⟨_,rfl,ds,_,_,[],p,[.cell g 0],hW',?_,?_,?_,kept_of_ext x',fun h=>by cases h⟩
    ·rw [hfn',hres]
     exact trodAll_mk1 ⟨1,by simp [DataW.trod,Value.cells,htb]⟩
    ·rw [hfn']
     refine trodAll_stays hl _ _ _ _ hread hA (fun x hx=>?_) fun x hx=>by simpa using hlt x (by simp [hx])
     have hm : W'.heap[x.block]? = W.heap[x.block]?:=x'.mem _ (hlt x (by simp [hx])) Env.bare_im
     cases x with
     | cell b off=>exact World.cell?_of_block (w:=W) hm
     | map b=>exact hm
    ·rw [hfn',hv]
     exact vars_read1 enc hg ht hi hvar' trivial _
end Go.Am
/- The law's own functions: copies of plans, comparisons, sizes. -/
set_option maxHeartbeats 4000000
namespace Go.Proofs.YtebciagembenjaaDoor
open Go Go.Am
variable {pr : Prims} (hp : Okp pr)
set_option maxRecDepth 100000
mutual
def Plan.fits : Plan → Prop
 | .mk kind n test cells a b keys agg c kids=>cells.length ≤ 9223372036854775807 ∧ keys.length ≤ 9223372036854775807 ∧ kids.length ≤ 9223372036854775807 ∧ Plan.fitss kids
def Plan.fitss : List Plan → Prop
 | []=>True
 | p :: ps=>p.fits ∧ Plan.fitss ps
end
end Go.Proofs.YtebciagembenjaaDoor
/- What the laws' arguments are. -/
set_option maxHeartbeats 4000000
namespace Go.Am
open Go
theorem slice_of {P : Program} {n : Nat} {t e : TypeId} {xs : List AVal} {α : Type} (f : α → AVal) (Q : α → Prop) (hu : P.underlying t = some (.slice e)) (he : ∀ ys,TyA P n e ys → ∃ c,ofCells P e ys = f c ∧ Q c) (h : TyA P (n + 1) t xs) :
  ∃ cs : List α,xs = [.sl (cs.map f)] ∧ cs.length ≤ maxLen ∧ ∀ c ∈ cs,Q c:=by
   unfold TyA at h
   rw [hu] at h
   obtain ⟨yss,rfl,hl,hy⟩:=h
   have key : ∀ yss : List (List AVal),(∀ ys ∈ yss,TyA P n e ys) → ∃ cs : List α,yss.map (ofCells P e) = cs.map f ∧ ∀ c ∈ cs,Q c:=by
    intro yss
    induction yss with
    | nil=>intro _; exact ⟨[],rfl,fun c hc=>by simp at hc⟩
    | cons ys yss ih=>
     intro hy
     obtain ⟨c,hc,hq⟩:=he ys (hy ys (by simp))
     obtain ⟨cs,hcs,hqs⟩:=ih fun zs hz=>hy zs (by simp [hz])
     exact ⟨c :: cs,by simp [hc,hcs],fun d hd=>by
      rcases List.mem_cons.1 hd with rfl | hd
      ·exact hq
      ·exact hqs d hd⟩
   obtain ⟨cs,hcs,hqs⟩:=key yss hy
   have hlen : cs.length = yss.length:=by have:=congrArg List.length hcs; simpa using this.symm
   exact ⟨cs,by rw [hcs],by omega,hqs⟩
theorem int_of {P : Program} {n : Nat} {t : TypeId} {k : IntKind} {xs : List AVal} (hu : P.underlying t = some (.int k)) (h : TyA P (n + 1) t xs) : ∃ i,xs = [.int k i] ∧ (Lit.int k i).wf = true:=by
 unfold TyA at h
 rw [hu] at h
 exact h
theorem tya_pos {P : Program} {n : Nat} {t : TypeId} {xs : List AVal} (h : TyA P n t xs) : ∃ m,n = m + 1:=by
 cases n with
 | zero=>exact h.elim
 | succ n=>exact ⟨n,rfl⟩
end Go.Am
namespace Go.Proofs.YtebciagembenjaaDoor
open Go Go.Am
set_option maxRecDepth 100000
end Go.Proofs.YtebciagembenjaaDoor
/- SELECTION PARTITIONS EXACTLY, for all inputs. Conditions: none beyond the row's own (the package's error reads as the program's text lays it: the card ties it). -/
set_option maxHeartbeats 4000000
namespace Go.Proofs.YtebciagembenjaaDoor
open Go Go.Am Go.ChangeShapes Go.WideShapes Go.ChangeAt Go.RowKit
set_option maxRecDepth 100000
theorem knobs : ownKnob Tryd.prog.godebug = none:=by kernel_rfl
theorem laidOut : laidOutB Tryd.prog = true:=by kernel_rfl
def tBytes : TypeId:=22
def tU8 : TypeId:=5
theorem byte_of {k : Int} (h : (Lit.int .u8 k).wf = true) : 0 ≤ k ∧ k < 256:=by
 simp [Lit.wf,IntKind.min,IntKind.max,IntKind.signed,IntKind.bits] at h
 omega
theorem bytes_a {n : Nat} {xs : List AVal} (h : TyA Tryd.prog n tBytes xs) : ∃ bs : List Int,ofCells Tryd.prog tBytes xs = .sl (bs.map u8) ∧ ∀ b ∈ bs,0 ≤ b ∧ b < 256:=by
 obtain ⟨m,rfl⟩:=tya_pos h
 obtain ⟨cs,rfl,_,h2⟩:=slice_of (e:=tU8) u8 (fun b=>0 ≤ b ∧ b < 256) rfl (fun ys hy=>by
  obtain ⟨m2,rfl⟩:=tya_pos hy
  obtain ⟨i,rfl,hi⟩:=int_of (k:=.u8) rfl hy
  exact ⟨i,rfl,byte_of hi⟩) h
 exact ⟨cs,rfl,h2⟩
theorem gE : Tryd.prog.globalNamed "loop.example/milldam/impl.errReckon" = some 0 := by kernel_rfl
theorem gEType : (Tryd.prog.globals[0]?).map (·.type) = some 75:=by kernel_rfl
theorem cellsE : Tryd.prog.cellsOf 139 = 1:=by kernel_rfl
theorem cellsS : Tryd.prog.cellsOf 9 = 1:=by kernel_rfl
theorem starE : "*" ++ "errors.errorString" = "*errors.errorString" := by decide
theorem rowE (u : TypeId) (h : Tryd.prog.typeName? 3 u = some "*errors.errorString") : u = 112 :=
 typeName_ptr_named (nm := "errors.errorString") (by rw [starE]; kernel_rfl) (by kernel_rfl) (by decide) u (by rw [starE]; exact h)
abbrev errS : ByteArray:={ data:=#[99,97,110,32,110,111,116,32,98,101,32,114,101,99,107,111,110,101,100] }
noncomputable def low : Nat:=(World.holding Tryd.prog default ⟨#[],#[],[]⟩).heap.size
noncomputable def laidWorld (os : Os) : World:=
 let w0:=World.holding Tryd.prog os ⟨#[.cells #[.string errS] 139],#[],[]⟩
 { w0 with heap:=w0.heap.modify 0 fun
   | .cells _ t frozen=>.cells #[.iface 112 (.pointer (some ⟨low,0,none⟩))] t frozen
   | o=>o }
theorem laidWorld_met (os : Os) (args : Array Value) : laidMet Tryd.prog Rows.fnWhereRow.laid ((laidWorld os).forCall (fun _ _=>0) ⟨#[],args,[]⟩).memory:=
 laidMet_of_run (ps:=[.cell 0 0,.cell low 0]) 8 (by kernel_rfl) (by kernel_rfl) (by kernel_rfl)
theorem where_lifted (os : Os) (started : os.Started) (H : Type) (enc : TypeId × Value → H) :
  ReturnsInHanded {} Tryd.checked os 3 .any (fun w args=>(Rows.fnWhereSpec.pre enc Tryd.prog Tryd.f3 [] false w args ∧ laidMet Tryd.prog Rows.fnWhereRow.laid w) ∧ sizedMet enc Tryd.prog Tryd.f3 (OpenSpec.ofChange Rows.fnWhereSpec) false w args)
   (Rows.fnWhereSpec.post enc Tryd.prog Tryd.f3 false true false false):=by
    refine returnsInHanded_of_change_and (C:=Tryd.checked) (X:=fun w _=>laidMet Tryd.prog Rows.fnWhereRow.laid w) (fun _ _ _ hh h=>h.of_heap hh) knobs started (by kernel_rfl) Tryd.func3
     (ChangeSpec.witness_at (enc:=enc) (C:=Tryd.checked) (os:=os) (X:=fun w _=>laidMet Tryd.prog Rows.fnWhereRow.laid w) false (laidWorld os) #[.slice none 0 0] 8 rfl (by kernel_rfl) (by kernel_rfl) (by kernel_rfl) (by kernel_rfl) (by kernel_rfl) (laidWorld_met os _)) ?_
    intro W base args ds gs before hval hW _ _ hL _
    obtain ⟨a0,s0,hv0,hc0,hs0,hz0⟩:=laid_sentinel hL gE gEType Tryd.underlying75 rowE Tryd.underlying112 Tryd.underlying139 rfl rfl Tryd.underlying9 cellsE cellsS
    refine row_true1 (cf:=cfp prE) cfOkE (f:=3) (fn:=Tryd.f3) rfl rfl laidOut (by decide +kernel) (ts:=[tBytes,tU8]) (by kernel_rfl) (by decide +kernel) (tb:=4) rfl rfl
     (g:=0) (tp:=112) (fun g' v hg=>?_) gE gEType Tryd.underlying75 (fun H ds d hl=>?_) (fun args ha=>?_) hval hW hv0
    ·have hg' : gV g' = some v:=hg
     unfold gV at hg'
     split at hg'
     ·rename_i e; cases hg'; exact ⟨e,rfl⟩
     ·cases hg'
    ·match ds,hl with
     | [x],_=>rfl
    ·have ha' : Args Tryd.prog [tBytes] args:=ha
     cases ha' with
     | cons hx hr=>
      cases hr with
      | nil=>
       obtain ⟨bs,hb,hq⟩:=bytes_a hx
       rw [hb]
       exact law_Where okgE bs hq
theorem where_holds : Rows.FnWhereSaid:=
 OpenClaim.holds_of_wide 3 Tryd.f3 rfl rfl rfl rfl rfl rfl rfl ⟨rfl,rfl,rfl,rfl,rfl⟩ rfl rfl rfl rfl rfl (by kernel_rfl) Tryd.func3 (by kernel_rfl)
  (of_decide_eq_true (by kernel_rfl)) (by unfold Func.isWrapper; first | (rw [if_pos (by decide +kernel)]; kernel_rfl) | (rw [if_neg (by decide +kernel)]; exact ⟨rfl,rfl⟩))
  (fun os started H enc _=>where_lifted os started H enc)
theorem fnWhere : Rows.FnWhereCardSaid:=
 Claim7.holds_tied_plain_at .later [] [.sentinel] true (true, "615a9edb6a7de502990429203124747660979a47c13faed3c20f5708b9a6419f") true
  where_holds (fun _ h=>by cases h) (by kernel_rfl) (fun _ h=>by cases h) fnWhere_row_tie rfl ⟨rfl,rfl⟩ (by kernel_rfl) rfl
  (fun f fn hf hfn=>by
   obtain rfl : f = 3 := Option.some.inj ((show Tryd.prog.funcNamed "loop.example/milldam/laws.FnWhere" = some 3 by kernel_rfl).symm.trans hf) |>.symm
   obtain rfl : fn = Tryd.f3:=(Option.some.inj (Tryd.func3.symm.trans hfn)).symm
   exact ⟨by kernel_rfl,fun j t ht=>by
    rw [Tryd.params3] at ht
    have hm : t ∈ [22]:=by simpa using Array.mem_of_getElem? ht
    have hall : ([22].all fun u=>!Tryd.prog.wantsStandIn u) = true:=by kernel_rfl
    exact (show Tryd.prog.wantsStandIn t = false by simpa using List.all_eq_true.1 hall t hm)⟩)
  (by kernel_rfl)
#print axioms fnWhere
end Go.Proofs.YtebciagembenjaaDoor

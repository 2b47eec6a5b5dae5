/- Marks are held. -/
import Derived.Test.YtncgofhhnhebjaaGreatGH40
import Derived.Test.YtncgofhhnhebjaaGreatGH25
set_option linter.unusedVariables false
set_option linter.unusedSimpArgs false
/- Stores that are ok, what is read of them: the program's. -/
set_option maxHeartbeats 4000000
namespace Go.Am
open Go
theorem snap_clo1 {h : Heap} {k : Nat} {fn : Fn} {x : AVal} (hk : h[k]? = some (.box x)) (hx : snapF h 4194302 x = some x) : snap h (.func fn [] [.ptr k 0 0]) = some (.func fn [] [.iptr [x] 0 0]):=by
 show (match mapO (snapF h 4194303) [],mapO (snapF h 4194303) [AVal.ptr k 0 0] with
  | some a,some b=>some (AVal.func fn a b)
  | _,_=>none) = _
 have : snapF h 4194303 (.ptr k 0 0) = some (.iptr [x] 0 0):=by
  show (match h[k]? with
   | some (.box x)=>if 0 = 0 then (snapF h 4194302 x).map (fun x=>AVal.iptr [x] 0 0) else none
   | some (.arr _ es)=>(mapO (snapF h 4194302) es).map fun xs=>.iptr xs 0 0
   | _=>none) = _
  rw [hk]
  simp only [hx,if_true,Option.map_some]
 simp only [mapO,this]
end Go.Am
namespace Go.Proofs.YtncgofhhnhebjaaGreat
open Go Go.Am
variable {pr : Prims} (hp : Okp pr) (hs : Okc pr)
set_option maxRecDepth 100000
theorem asWide_r (hp : Okp pr) (z : List Item) (wide : Int) (hl : z.length ≤ big) : Ret pr 107 [Items.enc z,i64 wide] (.bool (wideZ z wide)):=by
 have h:=asWideCon_r hp wide z hl
 have he : wideZ z wide = !(z.any fun x : Item=>decide ((x.row.length : Int) ≠ wide)):=by
  unfold wideZ
  rw [List.not_any_eq_all_not]
  congr 1
  funext x
  simp
 rw [he]
 refine retg hp rfl rfl ?_
 have S : Sepa [] []:=Sepa.nil []
 conv=>whnf
 intro k1 a1 hk1 hh1
 replace S:=S.alloc hk1 hh1
 conv=>whnf
 refine ⟨_,h.here (snapL2 rfl (snap_clo1 (S.row 0 rfl) rfl)) rfl rfl,?_⟩
 conv=>whnf
 refine bsel_intro (fun g1=>?_) (fun g1=>?_)
 ·conv=>whnf
  exact g_bool (by rw [g1]; rfl)
 ·conv=>whnf
  exact g_bool (by rw [g1]; rfl)
theorem lacks_r (hp : Okp pr) (z : List Item) (hl : z.length ≤ big) : Ret pr 108 [Items.enc z] (.bool (z.any fun x=>decide (x.w < 0))):=by
 have h:=lacksCon_r hp 0 z hl
 refine retg hp rfl rfl ?_
 have S : Sepa [] []:=Sepa.nil []
 iterate 4
  all_goals (try (conv=>whnf))
  all_goals (first | (intro ka_ ha_ hk_ hh_; replace S:=S.alloc hk_ hh_) | (refine .inl ⟨_,S.row 0 rfl,rfl,?_⟩) | (refine ⟨_,rfl,rfl,rfl,.inl ⟨_,S.row 0 rfl,rfl,?_⟩⟩; (conv=>whnf); intro ha_ hh_; replace S:=S.set 0 rfl hh_; dsimp only [List.set] at S) | (refine bsel_intro (fun hb=>?_) (fun hb=>?_)) | (refine ⟨_,h _,?_⟩) | skip)
 all_goals (try (conv=>whnf))
 all_goals exact g_bool hb.symm
def tabOk (w : Int) (z : List Item) : Bool:=decide (1 ≤ w) && (decide (w ≤ 6) && (zOk z && (wideZ z w && !(z.any fun x=>decide (x.w < 0)))))
theorem tableOk_r (hp : Okp pr) (z : List Item) (wide : Int) (hz : zsm z) : Ret pr 67 [Items.enc z,i64 wide] (.bool (tabOk wide z)):=by
 have h1:=iZOk_r hp z hz
 have h2:=asWide_r hp z wide hz.1
 have h3:=lacks_r hp z hz.1
 unfold tabOk
 generalize (z.any fun x=>decide (x.w < 0)) = b3 at h3 ⊢
 generalize wideZ z wide = b2 at h2 ⊢
 generalize zOk z = b1 at h1 ⊢
 refine retg hp rfl rfl ?_
 have S : Sepa [] []:=Sepa.nil []
 iterate 10
  all_goals (try (conv=>whnf))
  all_goals (first | (intro ka_ ha_ hk_ hh_; replace S:=S.alloc hk_ hh_) | (refine .inl ⟨_,S.row 0 rfl,rfl,?_⟩) | (refine ⟨_,rfl,rfl,rfl,.inl ⟨_,S.row 0 rfl,rfl,?_⟩⟩; (conv=>whnf); intro ha_ hh_; replace S:=S.set 0 rfl hh_; dsimp only [List.set] at S) | (refine bsel_intro (fun hb=>?_) (fun hb=>?_)) | (refine ⟨_,h1 _,?_⟩) | (refine ⟨_,h2 _,?_⟩) | (refine ⟨_,h3 _,?_⟩) | skip)
 all_goals (try (conv=>whnf))
 all_goals exact g_bool (by clear h1 h2 h3 S; first | (simp_all; done) | (simp_all; omega))
def ipastGo (now wide : Int) : Int → List Past → Bool
 | _,[]=>true
 | lo,p :: ps=>(decide (lo < p.at') && (decide (p.at' ≤ now) && (zOk p.out && wideZ p.out wide))) && ipastGo now wide p.at' ps
def iviewC (fo : Bool) (wide lo now since : Int) (base : List Item) (pasts : List Past) : Bool:=
 fo && (!(wide == -1) && (decide (0 ≤ since) && (decide (since ≤ now) && (zOk base && (wideZ base wide && (decide (pasts.length ≤ 40) && ipastGo now wide lo pasts))))))
def iviewOk (ws : List Int) (now keep : Int) (v : View) : Bool:=
 iviewC (fit v.flow.plan && flowOkP irunOk v.flow) (planWide v.flow.plan ws) (if keep > v.since then keep else v.since) now v.since v.base v.pasts
theorem viewOk_r (hs : Okc pr) (v : View) (s : Store) (ht : v.d.tot ≤ 1048576) (hw : s.wides.length ≤ 1048576) : Ret pr 70 [s.enc,v.enc] (.bool (iviewOk s.wides s.now s.keep v)):=by
 have hp:=hs.toOkp
 rw [view_tot] at ht
 obtain ⟨f,since,base,pasts⟩:=v
 obtain ⟨wides,tables,views,now,keep⟩:=s
 simp only at ht hw
 have hf:=iFlowOk_r hs f (by omega)
 obtain ⟨⟨kind,n,test,cells,a,b,keys,agg,c,kids⟩,l,r,ks⟩:=f
 have hw:=iPlanWide_r hs (.mk kind n test cells a b keys agg c kids) wides (by rw [flow_tot] at ht; unfold Plan.small; omega) hw
 have hbz:=items_small (z:=base) (by omega)
 have hba:=iZOk_r hp base hbz
 have hbw:=fun w=>asWide_r hp base w hbz.1
 have hpa:=fun (x : Past) (hx : x ∈ pasts)=>iZOk_r hp x.out (past_small (by omega) x hx)
 have hpw:=fun (x : Past) (hx : x ∈ pasts) w=>asWide_r hp x.out w (past_small (by omega) x hx).1
 have hpl : pasts.length ≤ 1048576:=by omega
 clear ht hbz
 unfold iviewOk
 simp only [Flow.plan] at hf ⊢
 generalize planWide (Plan.mk kind n test cells a b keys agg c kids) wides = wide at hw ⊢
 generalize hfo : (fit (Plan.mk kind n test cells a b keys agg c kids) && flowOkP irunOk (Flow.mk (Plan.mk kind n test cells a b keys agg c kids) l r ks)) = fo at hf ⊢
 clear hfo
 generalize hR : iviewC fo wide (if keep > since then keep else since) now since base pasts = R
 unfold iviewC at hR
 refine retg hp rfl rfl ?_
 have S : Sepa [] []:=Sepa.nil []
 conv=>whnf
 intro k1 a1 hk1 hh1
 replace S:=S.alloc hk1 hh1
 clear hk1 hh1
 conv=>whnf
 intro k2 a2 hk2 hh2
 replace S:=S.alloc hk2 hh2
 clear hk2 hh2
 have S0 : Sepa a2 [.row k2 (.box (View.mk (.mk (.mk kind n test cells a b keys agg c kids) l r ks) since base pasts).enc),.row k1 (.box (Store.mk wides tables views now keep).enc)]:=S
 clear S
 have S:=S0
 clear S0
 iterate 24
  all_goals (try (conv=>whnf))
  all_goals (first | (intro ka_ ha_ hk_ hh_; replace S:=S.alloc hk_ hh_) | (refine .inl ⟨_,S.row 0 rfl,rfl,?_⟩) | (refine .inl ⟨_,S.row 1 rfl,rfl,?_⟩) | (refine ⟨_,rfl,rfl,rfl,.inl ⟨_,S.row 0 rfl,rfl,?_⟩⟩; (conv=>whnf); intro ha_ hh_; replace S:=S.set 0 rfl hh_; dsimp only [List.set] at S) | (refine ⟨_,rfl,rfl,rfl,.inl ⟨_,S.row 1 rfl,rfl,?_⟩⟩; (conv=>whnf); intro ha_ hh_; replace S:=S.set 1 rfl hh_; dsimp only [List.set] at S) | (refine bsel_intro (fun hb=>?_) (fun hb=>?_)) | (refine ⟨_,hw _,?_⟩) | (refine ⟨_,hf _,?_⟩) | (refine ⟨_,hba _,?_⟩) | (refine ⟨_,hbw _ _,?_⟩) | skip)
 all_goals (try (conv=>whnf))
 all_goals first
  | exact g_bool (by rw [← hR]; clear hR hf hw hba hbw hpa hpw S; first | (simp_all; done) | (simp_all; omega) | (simp_all; intros; omega))
  | skip
 all_goals
  have f1 : fo = true:=by assumption
  have f2 : (wide == -1) = false:=by assumption
  have f3 : pasts.length ≤ 40:=by simp at hb; omega
  have f4 : zOk base = true:=by assumption
  have f5 : wideZ base wide = true:=by assumption
  have f6 : 0 ≤ since := by have : decide (since < 0) = false := by assumption
                            simpa using this
  have f7 : since ≤ now := by have : decide (since > now) = false := by assumption
                              simpa using this
  have hall : ipastGo now wide (if keep > since then keep else since) pasts = R:=by
   rw [← hR,f1,f2,f4,f5,decide_eq_true f3,decide_eq_true f6,decide_eq_true f7]
   rfl
  clear hR hf hw hba hbw
  conv=>whnf
  refine loopG (fun m tm hp=>∃ (j : Nat) (L : Int),j + m = pasts.length ∧ tm 6 = i64 L ∧ tm 62 = i64 (j : Nat) ∧ Sepa hp [.row k2 (.box (View.mk (.mk (.mk kind n test cells a b keys agg c kids) l r ks) since base pasts).enc),.row k1 (.box (Store.mk wides tables views now keep).enc)] ∧ (ipastGo now wide L (pasts.drop j) = R)) (fun m tm hq hfr hI=>?_) (pasts.length) ⟨0,(if keep > since then keep else since),by simp,(by first | rfl | kernel_rfl | simp),(by first | rfl | kernel_rfl | simp),S,(hall)⟩
  obtain ⟨j,L,hj,e6,e62,S2,hall⟩:=hI
  have k2:=hfr 2 (by kernel_rfl)
  conv at k2=>rhs; whnf
  rw [← upd_id k2]
  have k5:=hfr 5 (by kernel_rfl)
  conv at k5=>rhs; whnf
  rw [← upd_id k5]
  have k60:=hfr 60 (by kernel_rfl)
  conv at k60=>rhs; whnf
  rw [← upd_id k60]
  have k61:=hfr 61 (by kernel_rfl)
  conv at k61=>rhs; whnf
  rw [← upd_id k61]
  rw [← upd_id e6]
  rw [← upd_id e62]
  clear hfr k2 k5 k60 k61 e6 e62
  clear S
  have S:=S2
  clear S2
  conv=>whnf
  have hjb : j < 4611686018427387904:=by omega
  refine bsel_intro (fun h1=>?_) (fun h1=>?_)
  ·have hjl : j < pasts.length:=by simpa using h1
   have hge : (pasts.map Past.enc)[((j : Nat) : Int).toNat]? = some (Past.enc pasts[j]):=by rw [Int.toNat_natCast]; simp [hjl]
   rw [List.drop_eq_getElem_cons hjl] at hall
   simp only [ipastGo] at hall
   have h2:=hpa _ (List.getElem_mem hjl)
   have h3:=hpw _ (List.getElem_mem hjl) wide
   generalize pasts[j] = x at hge hall h2 h3
   obtain ⟨t,out⟩:=x
   simp only at hall h2 h3
   conv=>whnf
   refine ⟨_,hge,by omega,rfl,?_⟩
   iterate 18
    all_goals (try (conv=>whnf))
    all_goals (first | (intro ka_ ha_ hk_ hh_; replace S:=S.alloc hk_ hh_) | (refine .inl ⟨_,S.row 0 rfl,rfl,?_⟩) | (refine .inl ⟨_,S.row 1 rfl,rfl,?_⟩) | (refine .inl ⟨_,S.row 2 rfl,rfl,?_⟩) | (refine ⟨_,rfl,rfl,rfl,.inl ⟨_,S.row 0 rfl,rfl,?_⟩⟩; (conv=>whnf); intro ha_ hh_; replace S:=S.set 0 rfl hh_; dsimp only [List.set] at S) | (refine ⟨_,rfl,rfl,rfl,.inl ⟨_,S.row 1 rfl,rfl,?_⟩⟩; (conv=>whnf); intro ha_ hh_; replace S:=S.set 1 rfl hh_; dsimp only [List.set] at S) | (refine ⟨_,rfl,rfl,rfl,.inl ⟨_,S.row 2 rfl,rfl,?_⟩⟩; (conv=>whnf); intro ha_ hh_; replace S:=S.set 2 rfl hh_; dsimp only [List.set] at S) | (refine bsel_intro (fun hb=>?_) (fun hb=>?_)) | (refine ⟨_,h2 _,?_⟩) | (refine ⟨_,h3 _,?_⟩) | skip)
   all_goals (try (conv=>whnf))
   all_goals first
    | exact g_bool (by rw [← hall]; clear hge h2 h3 hpa hpw S hall; first | (simp_all; done) | (simp_all; omega) | (simp_all; intros; omega))
    | exact ⟨m - 1,by omega,j + 1,t,by omega,rfl,nat_step j hjb,S.drop 0,by rw [← hall]; clear hge h2 h3 hpa hpw S hall; first | (simp_all; done) | (simp_all; omega) | (simp_all; intros; omega)⟩
  ·have hjl : j = pasts.length:=by
    have : ¬ j < pasts.length:=by simpa using h1
    omega
   subst hjl
   rw [List.drop_length] at hall
   conv=>whnf
   exact g_bool (by rw [← hall]; simp [ipastGo])
def viewF (s : Store) : AVal:=.func (.func 69) [] [.iptr [s.enc] 0 0]
theorem viewF_r (hs : Okc pr) (v : View) (s : Store) (ht : v.d.tot ≤ 1048576) (hw : s.wides.length ≤ 1048576) : Ret pr 69 [v.enc,.iptr [s.enc] 0 0] (.bool (!iviewOk s.wides s.now s.keep v)):=by
 have h:=viewOk_r hs v s ht hw
 obtain ⟨⟨⟨kind,n,test,cells,a,b,keys,agg,c,kids⟩,l,r,ks⟩,since,base,pasts⟩:=v
 obtain ⟨wides,tables,views,now,keep⟩:=s
 simp only at h ⊢
 generalize iviewOk wides now keep _ = ok at h ⊢
 refine retg hs.toOkp rfl rfl ?_
 have S : Sepa [] []:=Sepa.nil []
 conv=>whnf
 intro k1 a1 hk1 hh1
 replace S:=S.alloc hk1 hh1
 conv=>whnf
 refine .inl ⟨_,S.row 0 rfl,rfl,?_⟩
 conv=>whnf
 refine ⟨_,h _,?_⟩
 conv=>whnf
 refine bsel_intro (fun g1=>?_) (fun g1=>?_)
 ·conv=>whnf
  exact g_bool (by rw [g1]; rfl)
 ·conv=>whnf
  exact g_bool (by rw [g1]; rfl)
theorem viewIdx_r (hs : Okc pr) (xs : List View) (s : Store) (hl : xs.length ≤ big) (ht : ∀ v ∈ xs,v.d.tot ≤ 1048576) (hw : s.wides.length ≤ 1048576) :
  Ret pr 109 [.sl (xs.map View.enc),viewF s] (i64 (idxP (fun v=>!iviewOk s.wides s.now s.keep v) 0 xs)):=by
   generalize hR : idxP (fun v=>!iviewOk s.wides s.now s.keep v) 0 xs = R
   have hv : ∀ v ∈ xs,_:=fun v hm=>viewF_r hs v s (ht v hm) hw
   have hlb:=hl
   unfold big at hlb
   refine retg hs.toOkp rfl rfl ?_
   have S : Sepa [] []:=Sepa.nil []
   conv=>whnf
   refine loopG (fun m tm hp=>∃ (j : Nat),j + m = xs.length ∧ tm 8 = i64 (j : Nat) ∧ (idxP (fun v=>!iviewOk s.wides s.now s.keep v) (j : Nat) (xs.drop j) = R)) (fun m tm hq hfr hI=>?_) (xs.length) ⟨0,by simp,(by first | rfl | kernel_rfl | simp),(hR)⟩
   obtain ⟨j,hj,e8,hall⟩:=hI
   have k0:=hfr 0 (by kernel_rfl)
   conv at k0=>rhs; whnf
   rw [← upd_id k0]
   have k1:=hfr 1 (by kernel_rfl)
   conv at k1=>rhs; whnf
   rw [← upd_id k1]
   have k7:=hfr 7 (by kernel_rfl)
   conv at k7=>rhs; whnf
   rw [← upd_id k7]
   rw [← upd_id e8]
   clear hfr k0 k1 k7 e8
   have S : Sepa hq []:=Sepa.nil hq
   conv=>whnf
   refine bsel_intro (fun h1=>?_) (fun h1=>?_)
   ·have hjl : j < xs.length:=by simpa using h1
    have hge : (xs.map View.enc)[((j : Nat) : Int).toNat]? = some (View.enc xs[j]):=by rw [Int.toNat_natCast]; simp [hjl]
    have h2:=hv _ (List.getElem_mem hjl)
    rw [List.drop_eq_getElem_cons hjl] at hall
    simp only [idxP] at hall
    generalize xs[j] = v at hge h2 hall
    generalize (!iviewOk s.wides s.now s.keep v) = b at h2 hall
    obtain ⟨⟨⟨kind,n,test,cells,a,b',keys,agg,c,kids⟩,l,r,ks⟩,since,base,pasts⟩:=v
    conv=>whnf
    refine ⟨_,hge,by omega,rfl,?_⟩
    conv=>whnf
    refine ⟨_,h2 _,?_⟩
    conv=>whnf
    refine bsel_intro (fun h3=>?_) (fun h3=>?_)
    ·conv=>whnf
     exact g_int (by rw [← hall,h3]; rfl)
    ·conv=>whnf
     exact ⟨m - 1,by omega,j + 1,by omega,nat_step j (by omega),by rw [← hall,h3]; rfl⟩
   ·have hjl : j = xs.length:=by
     have : ¬ j < xs.length:=by simpa using h1
     omega
    subst hjl
    rw [List.drop_length] at hall
    conv=>whnf
    exact g_int (by rw [← hall]; rfl)
theorem viewCon_r (hs : Okc pr) (xs : List View) (s : Store) (hl : xs.length ≤ big) (ht : ∀ v ∈ xs,v.d.tot ≤ 1048576) (hw : s.wides.length ≤ 1048576) :
  Ret pr 68 [.sl (xs.map View.enc),viewF s] (.bool (xs.any fun v=>!iviewOk s.wides s.now s.keep v)):=by
   have h:=viewIdx_r hs xs s hl ht hw
   rw [← idxP_ge _ xs 0 (Int.le_refl 0)]
   refine retg hs.toOkp rfl rfl ?_
   have S : Sepa [] []:=Sepa.nil []
   iterate 3
    all_goals (try (conv=>whnf))
    all_goals (first | (intro ka_ ha_ hk_ hh_; replace S:=S.alloc hk_ hh_) | (refine .inl ⟨_,S.row 0 rfl,rfl,?_⟩) | (refine ⟨_,rfl,rfl,rfl,.inl ⟨_,S.row 0 rfl,rfl,?_⟩⟩; (conv=>whnf); intro ha_ hh_; replace S:=S.set 0 rfl hh_; dsimp only [List.set] at S) | (refine bsel_intro (fun hb=>?_) (fun hb=>?_)) | (refine ⟨_,h _,?_⟩) | skip)
   all_goals exact g_bool hb.symm
def itabsGo : List (List Item) → List Int → Bool
 | t :: ts,w :: ws=>tabOk w t && itabsGo ts ws
 | _,_=>true
theorem itabsGo_at {ws : List Int} {ts : List (List Item)} {j : Nat} (h1 : j < ws.length) (h2 : j < ts.length) : itabsGo (ts.drop j) (ws.drop j) = (tabOk ws[j] ts[j] && itabsGo (ts.drop (j + 1)) (ws.drop (j + 1))):=by
 rw [List.drop_eq_getElem_cons h1,List.drop_eq_getElem_cons h2,itabsGo]
def istoreOk (s : Store) : Bool:=
 decide (s.tables.length ≤ 3) && (decide (s.wides.length = s.tables.length) && (decide (s.views.length ≤ 3) && (decide (0 ≤ s.keep) && (decide (s.keep ≤ s.now) && (decide (s.now ≤ 40) && (itabsGo s.tables s.wides && !s.views.any fun v=>!iviewOk s.wides s.now s.keep v))))))
theorem iStoreOk_r (hs : Okc pr) (s : Store) (ht : s.d.tot ≤ 1048576) : Ret pr 23 [s.enc] (.bool (istoreOk s)):=by
 have hp:=hs.toOkp
 rw [store_tot] at ht
 have hvc:=viewCon_r hs s.views s (by simp [big]; omega) (fun v hv=>by have:=tots_map (f:=View.d) hv; omega) (by omega)
 obtain ⟨wides,tables,views,now,keep⟩:=s
 simp only at ht hvc
 have hta:=fun (z : List Item) (hz : z ∈ tables) w=>tableOk_r hp z w (runs_mem_small (by omega) z hz)
 clear ht
 generalize hR : istoreOk ⟨wides,tables,views,now,keep⟩ = R
 simp only [istoreOk] at hR
 generalize (views.any fun v=>!iviewOk wides now keep v) = av at hvc hR
 refine retg hp rfl rfl ?_
 have S : Sepa [] []:=Sepa.nil []
 conv=>whnf
 intro k1 a1 hk1 hh1
 replace S:=S.alloc hk1 hh1
 clear hk1 hh1
 have S0 : Sepa a1 [.row k1 (.box (Store.mk wides tables views now keep).enc)]:=S
 clear S
 have S:=S0
 clear S0
 iterate 20
  all_goals (try (conv=>whnf))
  all_goals (first | (intro ka_ ha_ hk_ hh_; replace S:=S.alloc hk_ hh_) | (refine .inl ⟨_,S.row 0 rfl,rfl,?_⟩) | (refine ⟨_,rfl,rfl,rfl,.inl ⟨_,S.row 0 rfl,rfl,?_⟩⟩; (conv=>whnf); intro ha_ hh_; replace S:=S.set 0 rfl hh_; dsimp only [List.set] at S) | (refine bsel_intro (fun hb=>?_) (fun hb=>?_)) | skip)
 all_goals (try (conv=>whnf))
 all_goals first
  | exact g_bool (by rw [← hR]; clear hR hta hvc S; first | (simp_all; done) | (simp_all; omega) | (simp_all; intros; omega))
  | skip
 all_goals
  have hlen : wides.length = tables.length:=by clear hR hta hvc S; simp_all; omega
  have hw3 : tables.length ≤ 3:=by clear hR hta hvc S; simp_all; omega
  have hall : (itabsGo tables wides && !av) = R:=by rw [← hR]; clear hR hta hvc S; first | (simp_all; done) | (simp_all; omega) | (simp_all; intros; omega)
  clear hR
  conv=>whnf
  refine loopG (fun m tm hp=>∃ (j : Nat),j + m = tables.length ∧ tm 44 = i64 (j : Nat) ∧ Sepa hp [.row k1 (.box (Store.mk wides tables views now keep).enc)] ∧ ((itabsGo (tables.drop j) (wides.drop j) && !av) = R)) (fun m tm hq hfr hI=>?_) (tables.length) ⟨0,by simp,(by first | rfl | kernel_rfl | simp),S,(hall)⟩
  obtain ⟨j,hj,e44,S2,hall⟩:=hI
  have k1:=hfr 1 (by kernel_rfl)
  conv at k1=>rhs; whnf
  rw [← upd_id k1]
  have k42:=hfr 42 (by kernel_rfl)
  conv at k42=>rhs; whnf
  rw [← upd_id k42]
  have k43:=hfr 43 (by kernel_rfl)
  conv at k43=>rhs; whnf
  rw [← upd_id k43]
  rw [← upd_id e44]
  clear hfr k1 k42 k43 e44
  clear S
  have S:=S2
  clear S2
  conv=>whnf
  refine bsel_intro (fun h1=>?_) (fun h1=>?_)
  ·have hjl : j < tables.length:=by simpa using h1
   have hge : (tables.map Items.enc)[((j : Nat) : Int).toNat]? = some (Items.enc tables[j]):=by rw [Int.toNat_natCast]; simp [hjl]
   have hjt : j < wides.length:=by omega
   have hgt : (wides.map i64)[((j : Nat) : Int).toNat]? = some (i64 wides[j]):=by rw [Int.toNat_natCast]; simp [hjt]
   rw [itabsGo_at hjt hjl] at hall
   have h2:=hta _ (List.getElem_mem hjl) wides[j]
   generalize wides[j] = w at hgt hall h2
   generalize tables[j] = z at hge hall h2
   generalize tabOk w z = tk at hall h2
   conv=>whnf
   refine ⟨_,hge,by omega,rfl,?_⟩
   conv=>whnf
   refine .inl ⟨_,S.row 0 rfl,rfl,?_⟩
   conv=>whnf
   refine ⟨_,hgt,by omega,rfl,?_⟩
   conv=>whnf
   refine ⟨_,h2 _,?_⟩
   conv=>whnf
   refine bsel_intro (fun g1=>?_) (fun g1=>?_)
   ·rw [g1,Bool.true_and] at hall
    conv=>whnf
    exact ⟨m - 1,by omega,j + 1,by omega,nat_step j (by omega),S,hall⟩
   ·conv=>whnf
    exact g_bool (by rw [← hall,g1]; rfl)
  ·have hjl : j = tables.length:=by
    have : ¬ j < tables.length:=by simpa using h1
    omega
   subst hjl
   rw [List.drop_length] at hall
   have hall : (!av) = R:=by rw [← hall]; simp [itabsGo]
   conv=>whnf
   refine .inl ⟨_,S.row 0 rfl,rfl,?_⟩
   conv=>whnf
   refine ⟨_,hvc.here (snapL2 rfl (snap_clo1 (S.row 0 rfl) rfl)) rfl rfl,?_⟩
   conv=>whnf
   refine bsel_intro (fun g1=>?_) (fun g1=>?_)
   ·conv=>whnf
    exact g_bool (by rw [← hall,g1]; rfl)
   ·conv=>whnf
    exact g_bool (by rw [← hall,g1]; rfl)
theorem callT {h : Heap} {L : List Chunk} {f : FuncId} {args args' : List AVal} {ds : List Dat} {K : ARes → Prop} (S : Sepa h L) (hr : RetT pr f args' ds) (hM : modes f = Am.Mode.N) (hs : snapL h args = some args')
  (hK : ∀ vs hh F,Sepa hh (.dats ds vs F :: L) → K (.ret (.tup vs) hh)) : ∃ r,callM (cfp pr) (call (cfp pr)) f args h = some r ∧ K r:=by
   obtain ⟨vs,hh,F,hc,hpre,ho,hn,hd⟩:=hr.at (h:=h) hM hs
   exact ⟨_,hc,hK vs hh F (S.more (c:=.dats ds vs F) hpre ho hn hd)⟩
theorem Sepa.two {h : Heap} {L : List Chunk} {d1 d2 : Dat} {vs : List AVal} {F : List Nat} (S : Sepa h (.dats [d1,d2] vs F :: L)) : ∃ v1 v2 F1 F2,vs = [v1,v2] ∧ Sepa h (.dat d1 v1 F1 :: .dat d2 v2 F2 :: L):=by
 obtain ⟨v1,vs1,F1,G1,rfl,rfl,S1⟩:=Sepa.uncons S
 obtain ⟨v2,vs2,F2,G2,rfl,rfl,S2⟩:=Sepa.uncons S1.swap
 have h0 : Owns h [] vs2 G2:=S2.get 1 rfl
 simp only [Owns] at h0
 obtain ⟨rfl,rfl⟩:=h0
 exact ⟨v1,v2,F1,F2,rfl,(S2.drop 1).swap⟩
theorem Sepa.two_b {h : Heap} {L : List Chunk} {d1 : Dat} {b : Bool} {vs : List AVal} {F : List Nat} (S : Sepa h (.dats [d1,.b b] vs F :: L)) : ∃ v1 F1,vs = [v1,.bool b] ∧ Sepa h (.dat d1 v1 F1 :: L):=by
 obtain ⟨v1,v2,F1,F2,rfl,S1⟩:=Sepa.two S
 have h0 : Own h (.b b) v2 F2:=S1.get 1 rfl
 unfold Own at h0
 obtain ⟨rfl,rfl⟩:=h0
 exact ⟨v1,F1,rfl,S1.drop 1⟩
theorem atZ_zsm (at' : Int) : ∀ (ps : List Past) (z : List Item),(∀ p ∈ ps,zOk p.out = true) → (∀ x ∈ z,x.row.length ≤ big) → (atZ at' z ps).length ≤ z.length + 100 * ps.length ∧ ∀ x ∈ atZ at' z ps,x.row.length ≤ big
 | [],z,_,hz=>⟨by simp [atZ],hz⟩
 | p :: ps,z,hp,hz=>by
  have h1:=(zOk_row (hp p (by simp))).1
  have h2 : (mergeZ z p.out).length ≤ z.length + p.out.length ∧ ∀ x ∈ mergeZ z p.out,x.row.length ≤ big:=⟨mergeZ_len _ _ _ (Nat.le_refl _),fun x hx=>by
   obtain ⟨y,hy,e⟩:=mergeZ_mem _ z p.out (Nat.le_refl _) x hx
   rw [e]
   rcases hy with hy | hy
   ·exact hz y hy
   ·exact (zOk_zsm (hp p (by simp))).2 y hy⟩
  simp only [atZ,List.length_cons]
  split
  ·obtain ⟨g1,g2⟩:=atZ_zsm at' ps _ (fun q hq=>hp q (by simp [hq])) h2.2
   exact ⟨by omega,g2⟩
  ·obtain ⟨g1,g2⟩:=atZ_zsm at' ps _ (fun q hq=>hp q (by simp [hq])) hz
   exact ⟨by omega,g2⟩
theorem ipastGo_all {now wide : Int} : ∀ {ps : List Past} {q : Int},ipastGo now wide q ps = true → ∀ p ∈ ps,zOk p.out = true
 | [],_,_,p,hp=>by simp at hp
 | x :: xs,q,h,p,hp=>by
  simp only [ipastGo,Bool.and_eq_true] at h
  rcases List.mem_cons.1 hp with rfl | hp
  ·exact h.1.2.2.1
  ·exact ipastGo_all h.2 p hp
theorem iviewOk_z {ws : List Int} {now keep : Int} {v : View} (h : iviewOk ws now keep v = true) : zOk v.base = true ∧ (∀ p ∈ v.pasts,zOk p.out = true) ∧ v.pasts.length ≤ 40:=by
 simp only [iviewOk,iviewC,Bool.and_eq_true,decide_eq_true_iff] at h
 exact ⟨h.2.2.2.2.1,ipastGo_all h.2.2.2.2.2.2.2,h.2.2.2.2.2.2.1⟩
theorem istoreOk_v {s : Store} (h : istoreOk s = true) : ∀ v ∈ s.views,iviewOk s.wides s.now s.keep v = true:=by
 simp only [istoreOk,Bool.and_eq_true,Bool.not_eq_true'] at h
 intro v hv
 have:=List.any_eq_false.1 h.2.2.2.2.2.2.2 v hv
 simpa using this
def iread (s : Store) (view at' : Int) : List Item × Int:=
 if !istoreOk s then ([],6)
 else if decide (view < 0) || (decide (view ≥ s.views.length) || decide (at' > s.now)) then ([],1)
 else match s.views[view.toNat]? with
  | none=>([],1)
  | some v=>if decide (at' < s.keep) || decide (at' < v.since) then ([],4)
   else if (toldZ (atZ at' v.base v.pasts)).2 then ((toldZ (atZ at' v.base v.pasts)).1,0) else ([],5)
theorem iStoreRead_n (hs : Okc pr) (s : Store) (view at' : Int) (ht : s.d.tot ≤ 1048576) : RetT pr 7 [s.enc,i64 view,i64 at'] [Items.d (iread s view at').1,.i (iread s view at').2]:=by
 have hp:=hs.toOkp
 have hok:=iStoreOk_r hs s ht
 have hvo:=@istoreOk_v s
 generalize hR : iread s view at' = R
 obtain ⟨R1,R2⟩:=R
 simp only
 unfold iread at hR
 generalize istoreOk s = ok at hok hvo hR
 obtain ⟨wides,tables,views,now,keep⟩:=s
 simp only at hR hvo
 have fin : ∀ (h : Heap) (n : Int),Owns h [Items.d [],.i n] [.nil,i64 n] ([] ++ []):=fun h n=>Owns2 (OwnNil 2) (OwnI n)
 refine retT_of hp rfl ?_
 have S : Sepa [] []:=Sepa.nil []
 conv=>whnf
 intro k1 a1 hk1 hh1
 replace S:=S.alloc hk1 hh1
 clear hk1 hh1
 have S0 : Sepa a1 [.row k1 (.box (Store.mk wides tables views now keep).enc)]:=S
 clear S
 have S:=S0
 clear S0
 conv=>whnf
 refine .inl ⟨_,S.row 0 rfl,rfl,?_⟩
 conv=>whnf
 refine ⟨_,hok _,?_⟩
 conv=>whnf
 refine bsel_intro (fun g0=>?_) (fun g0=>?_)
 ·subst g0
  simp only [Bool.not_true,Bool.false_eq_true,if_false] at hR
  conv=>whnf
  refine bsel_intro (fun g1=>?_) (fun g1=>?_)
  ·have e : (([] : List Item),(1 : Int)) = (R1,R2):=by rw [← hR]; rw [g1]; rfl
   cases e
   conv=>whnf
   exact ⟨_,rfl,_,_,_,rfl,fin _ _,by simp⟩
  ·rw [g1,Bool.false_or] at hR
   conv=>whnf
   refine .inl ⟨_,S.row 0 rfl,rfl,?_⟩
   conv=>whnf
   refine bsel_intro (fun g2=>?_) (fun g2=>?_)
   ·have g2' : decide (view ≥ views.length) = true:=by simpa using g2
    have e : (([] : List Item),(1 : Int)) = (R1,R2):=by rw [← hR]; rw [g2']; rfl
    cases e
    conv=>whnf
    exact ⟨_,rfl,_,_,_,rfl,fin _ _,by simp⟩
   ·have g2' : decide (view ≥ views.length) = false:=by simpa using g2
    rw [g2',Bool.false_or] at hR
    conv=>whnf
    refine .inl ⟨_,S.row 0 rfl,rfl,?_⟩
    conv=>whnf
    refine bsel_intro (fun g3=>?_) (fun g3=>?_)
    ·have e : (([] : List Item),(1 : Int)) = (R1,R2):=by rw [← hR]; rw [g3]; rfl
     cases e
     conv=>whnf
     exact ⟨_,rfl,_,_,_,rfl,fin _ _,by simp⟩
    ·rw [g3] at hR
     simp only [Bool.false_eq_true,if_false] at hR
     have hv0 : 0 ≤ view:=by simpa using g1
     have hvl : view.toNat < views.length:=by simp at g2; omega
     have hvo:=hvo rfl _ (List.getElem_mem hvl)
     have hge : (views.map View.enc)[view.toNat]? = some (View.enc views[view.toNat]):=by simp [hvl]
     rw [List.getElem?_eq_getElem hvl] at hR
     simp only at hR
     obtain ⟨z1,z2,z3⟩:=iviewOk_z hvo
     have h4:=viewAt_r hp views[view.toNat] at' z1 z2 (by omega)
     have h6:=atZ_zsm at' views[view.toNat].pasts views[view.toNat].base z2 (zOk_zsm z1).2
     have h7:=told_n hs (atZ at' views[view.toNat].base views[view.toNat].pasts) ⟨by have:=h6.1; have:=(zOk_row z1).1; simp [big]; omega,h6.2⟩
     clear h6 hvo z1 z2 z3
     generalize views[view.toNat] = v at hge hR h4 h7
     generalize hz : atZ at' v.base v.pasts = z at hR h4 h7
     generalize toldZ z = tz at hR h7
     obtain ⟨z',ok⟩:=tz
     simp only at hR h7
     obtain ⟨⟨⟨kind,n,test,cells,a,b',keys,agg,c,kids⟩,l,r,ks⟩,since,base,pasts⟩:=v
     simp only at hR
     have main : decide (at' < keep) = false → decide (at' < since) = false → (if ok = true then (z',(0 : Int)) else ([],5)) = (R1,R2):=fun e1 e2=>by
      rw [← hR,e1,e2]
      rfl
     conv=>whnf
     refine .inl ⟨_,S.row 0 rfl,rfl,?_⟩
     conv=>whnf
     refine bsel_intro (fun g4=>?_) (fun g4=>?_)
     ·have e : (([] : List Item),(4 : Int)) = (R1,R2):=by rw [← hR]; rw [g4]; rfl
      cases e
      conv=>whnf
      exact ⟨_,rfl,_,_,_,rfl,fin _ _,by simp⟩
     ·conv=>whnf
      refine .inl ⟨_,S.row 0 rfl,rfl,?_⟩
      conv=>whnf
      refine ⟨_,hge,hv0,rfl,?_⟩
      conv=>whnf
      refine bsel_intro (fun g5=>?_) (fun g5=>?_)
      ·have g5' : decide (at' < since) = true:=g5
       have e : (([] : List Item),(4 : Int)) = (R1,R2):=by rw [← hR]; rw [g4,g5']; rfl
       cases e
       conv=>whnf
       exact ⟨_,rfl,_,_,_,rfl,fin _ _,by simp⟩
      ·have hm:=main g4 g5
       clear main hR
       conv=>whnf
       refine .inl ⟨_,S.row 0 rfl,rfl,?_⟩
       conv=>whnf
       refine ⟨_,hge,hv0,rfl,?_⟩
       conv=>whnf
       refine ⟨_,h4 _,?_⟩
       conv=>whnf
       refine callT S h7 rfl rfl fun vs q1 F1 S1=>?_
       obtain ⟨v1,G1,rfl,S2⟩:=Sepa.two_b S1
       cases ok with
       | true=>
        cases hm
        conv=>whnf
        exact ⟨_,rfl,_,_,_,rfl,Owns2 (S2.get 0 rfl) (OwnI 0),by rw [List.append_nil]; exact (S2.get' 0 _ rfl).2⟩
       | false=>
        cases hm
        conv=>whnf
        exact ⟨_,rfl,_,_,_,rfl,fin _ _,by simp⟩
 ·subst g0
  simp only [Bool.not_false,if_true,Prod.mk.injEq] at hR
  obtain ⟨rfl,rfl⟩:=hR
  conv=>whnf
  exact ⟨_,rfl,_,_,_,rfl,fin _ _,by simp⟩
end Go.Proofs.YtncgofhhnhebjaaGreat
/- The plain law: what is read of a store is the same to both. -/
set_option maxHeartbeats 4000000
namespace Go.Proofs.YtncgofhhnhebjaaGreat
open Go Go.Am
theorem bag_tab (w : Int) (z : List Item) : (decide (1 ≤ w) && (decide (w ≤ 6) && bagOk z w)) = tabOk w z:=by
 unfold tabOk
 congr 2
 unfold bagOk wideZ
 cases hz : zOk z with
 | false=>simp
 | true=>
  simp only [Bool.and_true,Bool.true_and]
  have hw:=zOk_w hz
  clear hz
  induction z with
  | nil=>rfl
  | cons x xs ih=>
   have h1:=hw x (by simp)
   have:=ih fun y hy=>hw y (by simp [hy])
   simp only [List.all_cons,List.any_cons,this,Bool.not_or]
   have e : (!decide (x.w < 0)) = decide (1 ≤ x.w):=by
    by_cases h : x.w < 0
    ·have : ¬ 1 ≤ x.w:=by omega
     simp [h,this]
    ·have : 1 ≤ x.w:=by omega
     simp [h,this]
   rw [e]
   cases decide (1 ≤ x.w) <;> cases decide ((x.row.length : Int) = w) <;> simp
theorem tabs_eq : ∀ (ws : List Int) (ts : List (List Item)),stabsGo ws ts = itabsGo ts ws
 | [],[]=>rfl
 | [],_ :: _=>rfl
 | _ :: _,[]=>rfl
 | w :: ws,t :: ts=>by simp only [stabsGo,itabsGo,bag_tab,tabs_eq ws ts]
theorem pasts_eq (lo now wide : Int) : ∀ (ps : List Past) (q : Option Int) (L : Int),(match q with | none=>L = lo | some x=>L = x ∧ lo < x) → spastGo lo now wide q ps = ipastGo now wide L ps
 | [],q,L,h=>by simp [spastGo,ipastGo]
 | p :: ps,none,L,h=>by
  simp only at h
  subst h
  simp only [spastGo,ipastGo,turnOk]
  by_cases h1 : L < p.at'
  ·rw [pasts_eq L now wide ps (some p.at') p.at' ⟨rfl,h1⟩]
   cases zOk p.out <;> cases wideZ p.out wide <;> cases decide (p.at' ≤ now) <;> simp
  ·simp [h1]
 | p :: ps,some x,L,h=>by
  obtain ⟨rfl,h2⟩:=h
  simp only [spastGo,ipastGo,turnOk]
  by_cases h3 : L < p.at'
  ·have h1 : lo < p.at':=by omega
   rw [pasts_eq lo now wide ps (some p.at') p.at' ⟨rfl,h1⟩]
   simp only [h1,h3,decide_true,Bool.true_and]
   cases zOk p.out <;> cases wideZ p.out wide <;> cases decide (p.at' ≤ now) <;> simp
  ·simp [h3]
theorem view_eq (ws : List Int) (now keep : Int) (v : View) : iviewOk ws now keep v = sviewOk ws now keep v:=by
 unfold iviewOk sviewOk iviewC sviewC
 rw [flowOk_eq,planWide_eq]
 have hlo : (if keep > v.since then keep else v.since) = (if v.since > keep then v.since else keep):=by
  split <;> split <;> omega
 rw [hlo,pasts_eq _ now _ v.pasts none _ rfl]
 have hw : (!(planWide v.flow.plan ws == -1)) = decide (1 ≤ planWide v.flow.plan ws):=by
  have : planWide v.flow.plan ws = -1 ∨ 1 ≤ planWide v.flow.plan ws:=by
   unfold planWide
   split
   ·rcases wideP_cases ws v.flow.plan with h | h
    ·exact .inl h
    ·exact .inr h.1
   ·exact .inl rfl
  rcases this with h | h
  ·rw [h]; rfl
  ·have : planWide v.flow.plan ws ≠ -1:=by omega
   simp [h,this]
 rw [hw]
 congr 4
 unfold turnOk
 cases zOk v.base <;> cases wideZ v.base (planWide v.flow.plan ws) <;> simp
theorem store_eq (s : Store) : istoreOk s = sstoreOk s:=by
 unfold istoreOk sstoreOk
 rw [tabs_eq]
 have hv : (!s.views.any fun v=>!iviewOk s.wides s.now s.keep v) = s.views.all (sviewOk s.wides s.now s.keep):=by
  rw [List.not_any_eq_all_not]
  congr 1
  funext v
  rw [Bool.not_not,view_eq]
 rw [hv]
 by_cases h1 : s.tables.length = s.wides.length
 ·simp [h1]
 ·have h2 : ¬ s.wides.length = s.tables.length:=fun e=>h1 e.symm
  simp [h1,h2]
theorem at_rises (at' : Int) : ∀ (ps : List Past) (z : List Item),(∀ p ∈ ps,zOk p.out = true) → Rises z → atZ at' z ps = satZ at' z ps
 | [],z,_,_=>rfl
 | p :: ps,z,hp,hz=>by
  have h1:=hp p (by simp)
  simp only [atZ,satZ]
  rw [merge_add hz h1]
  split
  ·exact at_rises at' ps _ (fun q hq=>hp q (by simp [hq])) (addZ_rises hz _)
  ·exact at_rises at' ps _ (fun q hq=>hp q (by simp [hq])) hz
theorem read_eq (s : Store) (view at' : Int) : iread s view at' = sread s view at':=by
 unfold iread sread
 have hv:=@sstoreOk_v s
 rw [store_eq]
 cases hok : sstoreOk s with
 | false=>rfl
 | true=>
  rw [hok] at hv
  simp only [Bool.not_true,Bool.false_eq_true,if_false]
  split
  ·rfl
  ·cases hg : s.views[view.toNat]? with
   | none=>rfl
   | some v=>
    simp only
    obtain ⟨z1,z2,_⟩:=sviewOk_z (hv rfl v (List.mem_of_getElem? hg))
    rw [at_rises at' v.pasts v.base z2 (zOk_rises z1)]
    have hm : (decide (at' < s.keep) || decide (at' < v.since)) = decide (at' < (if s.keep > v.since then s.keep else v.since)):=by
     by_cases h : s.keep > v.since
     ·rw [if_pos h]
      by_cases h2 : at' < s.keep
      ·simp [h2]
      ·have : ¬ at' < v.since:=by omega
       simp [h2,this]
     ·rw [if_neg h]
      by_cases h2 : at' < v.since
      ·simp [h2]
      ·have : ¬ at' < s.keep:=by omega
       simp [h2,this]
    have ht : ∀ z : List Item,(if (toldZ z).2 = true then ((toldZ z).1,(0 : Int)) else ([],5)) = if zOk z = true then (z,0) else ([],5):=fun z=>by
     unfold toldZ
     by_cases h : zOk z = true <;> simp [h]
    rw [hm,ht]
end Go.Proofs.YtncgofhhnhebjaaGreat
/- Marks are held. -/
set_option maxHeartbeats 4000000
namespace Go.Proofs.YtncgofhhnhebjaaGreat
open Go Go.Am
variable {pr : Prims} (hp : Okp pr)
set_option maxRecDepth 100000
theorem bne_self (x : Int) : (x != x) = false:=by simp
theorem heldIntS_r (hp : Okp pr) (xs : List Int) (k : Int) (hx : xs = mkInts k xs.length) (h0 : 0 ≤ k) (hb : k + (xs.length : Int) ≤ 1152921504606846976) : Ret pr 56 [.sl (xs.map i64),i64 k] (i64 (k + (xs.length : Int))):=by
 refine ret_of hp rfl rfl ?_
 conv=>whnf
 refine loop_rule (fun m st=>∃ j : Nat,j + m = xs.length ∧ st.tm 0 = .sl (xs.map i64) ∧ st.tm 1 = i64 (k + (j : Int)) ∧ st.tm 5 = i64 (j : Nat) ∧ st.hp = []) (fun m st hI=>?_) xs.length _ ⟨0,by simp,rfl,by simp; rfl,rfl,rfl⟩
 obtain ⟨j,hj,e0,e1,e5,hh⟩:=hI
 obtain ⟨tm,hq⟩:=st
 simp only at e0 e1 e5 hh
 subst hh
 rw [show tm = upd (upd (upd tm 0 (.sl (xs.map i64))) 1 (i64 (k + (j : Int)))) 5 (i64 (j : Nat)) by rw [upd_id e0,upd_id e1,upd_id e5]]
 clear e0 e1 e5
 have hge : j < xs.length → (xs.map i64)[((j : Nat) : Int).toNat]? = some (i64 (k + (j : Int))):=fun hjl=>by
  rw [Int.toNat_natCast,List.getElem?_map,hx]
  simp [mkInts,hjl]
 have hkk : k + ((j + 1 : Nat) : Int) = k + (j : Int) + 1:=by omega
 have hb2 : j < xs.length → k + (j : Int) + 1 ≤ 1152921504606846976:=fun hjl=>by omega
 have hpos : 0 ≤ k + (j : Int):=by omega
 generalize hkd : k + (j : Int) = kk at hge hkk hb2 hpos
 conv=>whnf
 refine bsel_intro (fun h1=>?_) (fun h1=>?_)
 ·have hjl : j < xs.length:=by simpa using h1
  have hg:=hge hjl
  have hb3:=hb2 hjl
  clear hge hb2
  conv=>whnf
  refine ⟨_,hg,by omega,rfl,?_⟩
  conv=>whnf
  refine bsel_false (bne_self _) ?_
  conv=>whnf
  rw [wrap1 (kk) (by omega) (by omega)]
  conv=>whnf
  exact ⟨m - 1,by omega,j + 1,by omega,rfl,by rw [hkk]; rfl,nat_step j (by omega),rfl⟩
 ·have hje : j = xs.length:=by
   have : ¬ j < xs.length:=by simpa using h1
   omega
  subst hje
  conv=>whnf
  exact fin_int hkd.symm
theorem cntZ_mk : ∀ (xs : List Item) (k : Int),cntZ (mkItems k xs) = cntZ xs
 | [],_=>rfl
 | x :: xs,k=>by rw [mkItems,cntZ_cons,cntZ_cons,cntZ_mk xs,mkInts_len]
theorem heldItemS_r (hp : Okp pr) (xs : List Item) (k : Int) (h0 : 0 ≤ k) (hb : k + (cntZ xs : Int) ≤ 1152921504606846976) : Ret pr 19 [Items.enc (mkItems k xs),i64 k] (i64 (k + (cntZ xs : Int))):=by
 have hcg:=cntZ_ge xs
 refine ret_of hp rfl rfl ?_
 conv=>whnf
 refine loop_rule (fun m st=>∃ (j : Nat) (rest : List Item) (kk : Int),rest.length = m ∧ j + m = xs.length ∧ kk + (cntZ rest : Int) = k + (cntZ xs : Int) ∧ k ≤ kk ∧ (mkItems k xs).drop j = mkItems kk rest ∧ st.tm 0 = Items.enc (mkItems k xs) ∧ st.tm 1 = i64 kk ∧ st.tm 5 = i64 (j : Nat) ∧ st.hp = []) (fun m st hI=>?_) xs.length _ ⟨0,xs,k,rfl,by simp,rfl,by omega,rfl,rfl,rfl,rfl,rfl⟩
 obtain ⟨j,rest,kk,hm,hj,hk,hkk,hd,e0,e1,e5,hh⟩:=hI
 obtain ⟨tm,hq⟩:=st
 simp only at e0 e1 e5 hh
 subst hh
 rw [show tm = upd (upd (upd tm 0 (Items.enc (mkItems k xs))) 1 (i64 kk)) 5 (i64 (j : Nat)) by rw [upd_id e0,upd_id e1,upd_id e5]]
 clear e0 e1 e5
 have hlen:=mkItems_len xs k
 generalize mkItems k xs = zs at hd hlen
 cases rest with
 | nil=>
  have hje : j = zs.length:=by simp at hm; omega
  subst hje
  have hg : ¬ zs.length < zs.length:=by omega
  rw [cntZ_nil] at hk
  conv=>whnf
  refine bsel_intro (fun h1=>?_) (fun h1=>?_)
  ·exact absurd h1 (by simp)
  ·conv=>whnf
   exact fin_int (by omega)
 | cons x rest=>
  obtain ⟨row,w⟩:=x
  have hjl : j < zs.length:=by simp at hm; omega
  rw [List.drop_eq_getElem_cons hjl] at hd
  simp only [mkItems] at hd
  injection hd with hd1 hd2
  have hge : (zs.map Item.enc)[((j : Nat) : Int).toNat]? = some (Item.enc ⟨mkInts kk row.length,kk + row.length⟩):=by
   rw [Int.toNat_natCast,List.getElem?_map,List.getElem?_eq_getElem hjl,hd1]
   rfl
  rw [cntZ_cons] at hk
  have hrl : (Item.mk row w).row.length = row.length:=rfl
  rw [hrl] at hk
  have hc:=heldIntS_r hp (mkInts kk row.length) kk (by rw [mkInts_len]) (by omega) (by rw [mkInts_len]; omega)
  rw [mkInts_len] at hc
  have hkp : kk + (row.length : Int) + 1 ≤ 1152921504606846976:=by omega
  have hkn : 0 ≤ kk + (row.length : Int):=by omega
  generalize hK : kk + (row.length : Int) = K at hc hge hkp hkn
  conv=>whnf
  refine bsel_intro (fun h1=>?_) (fun h1=>?_)
  ·conv=>whnf
   refine ⟨_,hge,by omega,rfl,?_⟩
   conv=>whnf
   refine ⟨_,hc _,?_⟩
   conv=>whnf
   refine bsel_false (decide_eq_false (by omega)) ?_
   conv=>whnf
   refine ⟨_,hge,by omega,rfl,?_⟩
   conv=>whnf
   refine bsel_false (bne_self _) ?_
   conv=>whnf
   rw [wrap1 (K) (by omega) (by omega)]
   conv=>whnf
   refine ⟨m - 1,by simp at hm; omega,j + 1,rest,K + 1,by simp at hm; omega,by simp at hm; omega,by omega,by omega,?_,rfl,rfl,nat_step j (by omega),rfl⟩
   rw [hd2,← hK]
  ·exact absurd hjl (by simpa using h1)
theorem sread_ok (s : Store) (view at' : Int) : zOk (sread s view at').1 = true:=by
 unfold sread
 have h0 : zOk [] = true:=rfl
 repeat' split
 all_goals first | exact h0 | assumption
theorem cntZ_sum (xs : List Item) (n : Nat) (h : ∀ x ∈ xs,x.row.length ≤ n) : cntZ xs ≤ (n + 1) * xs.length:=by
 induction xs with
 | nil=>exact Nat.le_refl _
 | cons x xs ih=>
  rw [cntZ_cons]
  have h1:=ih (fun y hy=>h y (by simp [hy]))
  have h2:=h x (by simp)
  rw [List.length_cons,Nat.mul_succ]
  omega
theorem sread_cnt (s : Store) (view at' : Int) : cntZ (sread s view at').1 ≤ 700:=by
 have h:=zOk_row (sread_ok s view at')
 have:=cntZ_sum _ 6 h.2
 omega
end Go.Proofs.YtncgofhhnhebjaaGreat

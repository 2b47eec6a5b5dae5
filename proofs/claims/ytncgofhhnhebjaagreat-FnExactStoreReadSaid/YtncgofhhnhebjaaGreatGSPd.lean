/- The walk over a plan's parts. -/
import Derived.Test.YtncgofhhnhebjaaGreatGH27
import Derived.Test.YtncgofhhnhebjaaGreatGSBmT
set_option linter.unusedVariables false
set_option linter.unusedSimpArgs false
/- The walk over a plan's parts. -/
set_option maxHeartbeats 4000000
namespace Go.Proofs.YtncgofhhnhebjaaGreat
open Go Go.Am
inductive WR (σ : Type) where
 | go (m : Nat) (s : σ)
 | lim (s : σ)
 | stop (s : σ)
mutual
def wk {σ : Type} (step : σ → Nat → Plan → σ × Bool) (deep : Nat) : Plan → Nat → σ → WR σ
 | .mk kind n test cells a b keys agg col kids,m,s=>match step s deep (.mk kind n test cells a b keys agg col kids) with
  | (s,false)=>.stop s
  | (s,true)=>if 10 < m + 1 ∨ 6 ≤ deep then .lim s else wks step (deep + 1) kids (m + 1) s
def wks {σ : Type} (step : σ → Nat → Plan → σ × Bool) (deep : Nat) : List Plan → Nat → σ → WR σ
 | [],m,s=>.go m s
 | p :: ps,m,s=>match wk step deep p m s with
  | .go m s=>wks step deep ps m s
  | r=>r
end
def rdy : LS:=⟨.ready,none⟩
def Fr (C : List Nat) (h : Heap) (C' : List Nat) (h' : Heap) : Prop:=h.length ≤ h'.length ∧ (∀ id,id < h.length → id ∉ C → h'[id]? = h[id]?) ∧ ∀ id ∈ C',id ∈ C ∨ h.length ≤ id
def FrK (km : Nat) (C : List Nat) (h : Heap) (C' : List Nat) (h' : Heap) : Prop:=h.length ≤ h'.length ∧ (∀ id,id < h.length → id ∉ C → id ≠ km → h'[id]? = h[id]?) ∧ ∀ id ∈ C',id ∈ C ∨ h.length ≤ id
theorem FrK.trans {km : Nat} {C C1 C2 : List Nat} {h h1 h2 : Heap} (a : FrK km C h C1 h1) (b : FrK km C1 h1 C2 h2) : FrK km C h C2 h2:=by
 refine ⟨Nat.le_trans a.1 b.1,fun id hid hn hk=>?_,fun id hid=>?_⟩
 ·refine (b.2.1 id (Nat.lt_of_lt_of_le hid a.1) (fun hc=>?_) hk).trans (a.2.1 id hid hn hk)
  rcases a.2.2 id hc with h | h
  ·exact hn h
  ·omega
 ·rcases b.2.2 id hid with h | h
  ·exact a.2.2 id h
  ·exact .inr (Nat.le_trans a.1 h)
theorem Fr.toK {km : Nat} {C C1 : List Nat} {h h1 : Heap} (a : Fr C h C1 h1) : FrK km C h C1 h1:=⟨a.1,fun id h1 h2 _=>a.2.1 id h1 h2,a.2.2⟩
structure Consumer (c : Lp) (σ : Type) where
 J : σ → List Nat → Heap → Prop
 Jx : σ → Heap → LS → Prop
 step : σ → Nat → Plan → σ × Bool
 lt : ∀ s C h,J s C h → ∀ id ∈ C,id < h.length
 stab : ∀ s C h h',J s C h → h.length ≤ h'.length → (∀ id ∈ C,h'[id]? = h[id]?) → J s C h'
 yields : ∀ s C h (deep : Nat) p,J s C h → YieldsTo cf c [i64 deep,p.enc] h rdy fun v h' g'=>
  (∃ s',step s deep p = (s',true) ∧ v = .bool true ∧ g' = rdy ∧ ∃ C',J s' C' h' ∧ Fr C h C' h') ∨ (∃ s',step s deep p = (s',false) ∧ v = .bool false ∧ Jx s' h' g')
def WPost {c : Lp} {σ : Type} (k : Consumer c σ) (C : List Nat) (h : Heap) (km : Nat) (r : WR σ) (v : AVal) (h' : Heap) (g' : LS) : Prop:=match r with
 | .go m' s'=>v = .bool true ∧ g' = rdy ∧ m' ≤ 10 ∧ ∃ C',k.J s' C' h' ∧ h'[km]? = some (.box (i64 m')) ∧ FrK km C h C' h'
 | .lim s'=>v = .bool false ∧ g' = rdy ∧ ∃ C',k.J s' C' h'
 | .stop s'=>v = .bool false ∧ k.Jx s' h' g'
def isYf (f : FuncId) : Bool:=f == 131
theorem FrK.alloc {km : Nat} {C : List Nat} {h h' : Heap} {o : AObj} (e : h' = h ++ [o]) : FrK km C h C h':=by
 subst e
 exact ⟨by simp,fun id hid _ _=>List.getElem?_append_left hid,fun id hid=>.inl hid⟩
theorem FrK.setk {km : Nat} {C : List Nat} {h h' : Heap} {o : AObj} (e : h' = h.set km o) : FrK km C h C h':=by
 subst e
 exact ⟨by simp,fun id _ _ hk=>List.getElem?_set_ne (fun e=>hk e.symm),fun id hid=>.inl hid⟩
theorem FrK.refl (km : Nat) (C : List Nat) (h : Heap) : FrK km C h C h:=⟨Nat.le_refl _,fun _ _ _ _=>rfl,fun _ h=>.inl h⟩
theorem FrK.notin {km : Nat} {C C' : List Nat} {h h' : Heap} (f : FrK km C h C' h') {i : Nat} (hi : i < h.length) (hn : i ∉ C) : i ∉ C':=fun hc=>(f.2.2 i hc).elim hn (by omega)
theorem FrK.get {km : Nat} {C C' : List Nat} {h h' : Heap} (f : FrK km C h C' h') {i : Nat} {x : AObj} (hi : h[i]? = some x) (hn : i ∉ C) (hk : i ≠ km) : h'[i]? = some x:=(f.2.1 i (get_lt hi) hn hk).trans hi
theorem wk_mk {σ : Type} (step : σ → Nat → Plan → σ × Bool) (deep : Nat) (t : Plan) (m : Nat) (s : σ) : wk step deep t m s = match step s deep t with
  | (s,false)=>.stop s
  | (s,true)=>if 10 < m + 1 ∨ 6 ≤ deep then .lim s else wks step (deep + 1) t.kids (m + 1) s:=by cases t; rfl
theorem i64_step {j : Nat} (h : j < 1048577) : AVal.int .i64 (IntKind.i64.wrap ((j : Int) + 1)) = i64 ((j + 1 : Nat) : Int):=nat_step j (by omega)
set_option maxRecDepth 100000 in
theorem walk_c {c : Lp} {σ : Type} (k : Consumer c σ) : ∀ (N : Nat) (t : Plan),SizeOf.sizeOf t ≤ N → ∀ (deep m : Nat) (s : σ) (C : List Nat) (h : Heap) (km ky kw : Nat),k.J s C h → h[km]? = some (.box (i64 m)) → h[ky]? = some (.box (.func (.yield c.l) [] [])) →
  h[kw]? = some (.box (.func (.func 131) [] [.ptr km 0 0,.ptr ky 0 0,.ptr kw 0 0])) → km ∉ C → ky ∉ C → kw ∉ C → km ≠ ky → km ≠ kw → m ≤ 10 → deep ≤ 6 → t.small →
  CallsY cf (some c) 131 [t.enc,i64 deep,.ptr km 0 0,.ptr ky 0 0,.ptr kw 0 0] h rdy (WPost k C h km (wk k.step deep t m s)):=by
   intro N
   induction N with
   | zero=>intro t ht; exfalso; cases t; simp at ht
   | succ N ih=>
   intro t ht deep m s C h km ky kw hJ hm hy hw nm ny nw kmy kmw m10 d6 hsm
   refine callsY_of (isY:=isYf) (callsOk cfOk) (by kernel_rfl) fun B=>?_
   rw [wk_mk]
   obtain ⟨kind,n,test,cells,a,b,keys,agg,col,kids⟩:=t
   conv=>whnf
   intro k1 h1 hk1 hh1
   conv=>whnf
   have f1 : FrK km C h C h1:=FrK.alloc hh1
   have e1 : h1[k1]? = some (.box (Plan.mk kind n test cells a b keys agg col kids).enc):=get_new hk1 hh1
   have k1m : km ≠ k1:=by have:=get_lt hm; omega
   have k1C : k1 ∉ C:=fun hc=>by have:=k.lt s C h hJ k1 hc; omega
   refine ⟨_,get_old hh1 hm,rfl,?_⟩
   conv=>whnf
   refine ⟨_,get_old hh1 hm,rfl,?_⟩
   conv=>whnf
   intro h2 hh2
   have hm2 : h2[km]? = some (.box (i64 ((m + 1 : Nat) : Int))):=by
    rw [get_same hh2 (get_old hh1 hm)]
    exact congrArg (fun x=>some (AObj.box x)) (i64_step (by omega))
   have f2 : FrK km C h C h2:=f1.trans (FrK.setk hh2)
   conv=>whnf
   refine ⟨_,f2.get hy ny kmy.symm,rfl,?_⟩
   conv=>whnf
   refine ⟨_,get_ne hh2 e1 k1m,rfl,?_⟩
   conv=>whnf
   have hJ2 : k.J s C h2:=k.stab s C h h2 hJ f2.1 fun id hid=>by
    have hx:=List.getElem?_eq_getElem (k.lt s C h hJ id hid)
    rw [hx]
    exact get_ne hh2 (get_old hh1 hx) fun e=>nm (e ▸ hid)
   refine ⟨rfl,YieldsTo.mono (k.yields s C h2 deep (Plan.mk kind n test cells a b keys agg col kids) hJ2) fun v h3 g3 hv=>?_⟩
   rcases hv with ⟨s',hs,rfl,rfl,C1,hJ3,hF3⟩ | ⟨s',hs,rfl,hx⟩
   ·conv=>whnf
    rw [hs]
    have f3 : FrK km C h C1 h3:=f2.trans hF3.toK
    have hm3 : h3[km]? = some (.box (i64 ((m + 1 : Nat) : Int))):=(hF3.2.1 km (get_lt hm2) nm).trans hm2
    have e3 : h3[k1]? = some (.box (Plan.mk kind n test cells a b keys agg col kids).enc):=by
     have:=get_ne hh2 e1 k1m
     exact (hF3.2.1 k1 (get_lt this) k1C).trans this
    refine ⟨_,hm3,rfl,?_⟩
    conv=>whnf
    refine bsel_intro (fun h1=>?_) (fun h1=>?_)
    ·have g1 : 10 < m + 1 := by have : ((m + 1 : Nat) : Int) > 10 := by simpa using h1
                                omega
     conv=>whnf
     refine ⟨_,rfl,?_⟩
     simp only [g1,true_or,if_true]
     exact ⟨rfl,rfl,C1,hJ3⟩
    ·have g1 : ¬ 10 < m + 1 := by have : ¬ ((m + 1 : Nat) : Int) > 10 := by simpa using h1
                                  omega
     conv=>whnf
     refine bsel_intro (fun h2=>?_) (fun h2=>?_)
     ·have g2 : 6 ≤ deep := by have : ((deep : Nat) : Int) ≥ 6 := by simpa using h2
                               omega
      conv=>whnf
      refine ⟨_,rfl,?_⟩
      simp only [g2,or_true,if_true]
      exact ⟨rfl,rfl,C1,hJ3⟩
     ·have g2 : ¬ 6 ≤ deep := by have : ¬ ((deep : Nat) : Int) ≥ 6 := by simpa using h2
                                 omega
      simp only [g1,g2,or_false,if_false]
      conv=>whnf
      refine ⟨_,e3,rfl,?_⟩
      conv=>whnf
      have hd:=i64_step (j:=deep) (by omega)
      obtain ⟨hsc,hsk,hskids,hsks⟩:=small_split hsm
      refine ⟨fun n_ tm hp g=>∃ (j m' : Nat) (s1 : σ) (C2 : List Nat),j + n_ = kids.length ∧ tm 1 = i64 deep ∧ tm 4 = .ptr kw 0 0 ∧ tm 26 = .sl (Plan.encs kids) ∧ tm 27 = i64 ((Plan.encs kids).length : Nat) ∧ tm 28 = i64 (j : Nat) ∧ g = rdy ∧ k.J s1 C2 hp ∧
       hp[km]? = some (.box (i64 m')) ∧ m' ≤ 10 ∧ FrK km C h C2 hp ∧ wks k.step (deep + 1) kids (m + 1) s' = wks k.step (deep + 1) (kids.drop j) m' s1,kids.length,⟨0,m + 1,s',C1,by omega,rfl,rfl,rfl,rfl,rfl,rfl,hJ3,hm3,by omega,f3,rfl⟩,fun n2 tm hp g hI=>?_⟩
      obtain ⟨j,m',s1,C2,hj,t1,t4,t26,t27,t28,rfl,hJ',hm',m10',F',hwk⟩:=hI
      rw [show tm = upd (upd (upd (upd (upd tm 1 (i64 deep)) 4 (.ptr kw 0 0)) 26 (.sl (Plan.encs kids))) 27 (i64 ((Plan.encs kids).length : Nat))) 28 (i64 (j : Nat)) by rw [upd_id t1,upd_id t4,upd_id t26,upd_id t27,upd_id t28]]
      clear t1 t4 t26 t27 t28
      conv=>whnf
      refine bsel_intro (fun hlt=>?_) (fun hlt=>?_)
      ·have hjl : j < kids.length:=by
        have : j < (Plan.encs kids).length:=by simpa using hlt
        rwa [encs_len] at this
       obtain ⟨q,hq⟩ : ∃ q,kids[j]? = some q:=⟨_,List.getElem?_eq_getElem hjl⟩
       have hqm : q ∈ kids:=List.mem_of_getElem? hq
       have hqs : SizeOf.sizeOf q ≤ N:=by
        have h1:=List.sizeOf_lt_of_mem hqm
        simp at ht
        omega
       have hqsm:=hsks q hqm
       have hdrop : kids.drop j = q :: kids.drop (j + 1):=by
        rw [List.drop_eq_getElem_cons hjl]
        congr 1
        rw [List.getElem?_eq_getElem hjl] at hq
        exact Option.some.inj hq
       obtain ⟨kind',n',test',cells',a',b',keys',agg',col',kids'⟩:=q
       conv=>whnf
       refine ⟨(Plan.mk kind' n' test' cells' a' b' keys' agg' col' kids').enc,?_,by omega,rfl,?_⟩
       ·rw [Int.toNat_natCast,encs_get,hq]; rfl
       conv=>whnf
       intro k2 h4 hk2 hh4
       conv=>whnf
       refine ⟨_,get_new hk2 hh4,rfl,?_⟩
       conv=>whnf
       intro h5 hh5
       conv=>whnf
       have kmlt:=get_lt hm
       have kylt:=get_lt hy
       have kwlt:=get_lt hw
       have hkmF:=get_lt hm'
       have g4 : ∀ i x,hp[i]? = some x → h5[i]? = some x:=fun i x hx=>get_ne hh5 (get_old hh4 hx) (by have:=get_lt hx; omega)
       have F5 : FrK km C2 hp C2 h5:=⟨by rw [hh5,hh4]; simp,fun id hid _ _=>by rw [List.getElem?_eq_getElem hid]; exact g4 id _ (List.getElem?_eq_getElem hid),fun _ h=>.inl h⟩
       have hJ5 : k.J s1 C2 h5:=k.stab s1 C2 hp h5 hJ' F5.1 fun id hid=>by
        have hx:=List.getElem?_eq_getElem (k.lt s1 C2 hp hJ' id hid)
        rw [hx]
        exact g4 id _ hx
       refine ⟨_,g4 kw _ (F'.get hw nw kmw.symm),rfl,?_⟩
       conv=>whnf
       refine ⟨_,get_same hh5 (get_new hk2 hh4),rfl,?_⟩
       conv=>whnf
       have hc : CallsY cf (some c) 131 [(Plan.mk kind' n' test' cells' a' b' keys' agg' col' kids').enc,AVal.int .i64 (IntKind.i64.wrap ((deep : Int) + 1)),.ptr km 0 0,.ptr ky 0 0,.ptr kw 0 0] h5 rdy (WPost k C2 h5 km (wk k.step (deep + 1) (Plan.mk kind' n' test' cells' a' b' keys' agg' col' kids') m' s1)):=by
        rw [hd]
        exact ih _ hqs (deep + 1) m' s1 C2 h5 km ky kw hJ5 (g4 km _ hm') (g4 ky _ (F'.get hy ny kmy.symm)) (g4 kw _ (F'.get hw nw kmw.symm)) (F'.notin kmlt nm) (F'.notin kylt ny) (F'.notin kwlt nw) kmy kmw m10' (by omega) hqsm
       refine CallsY.mono hc fun v h6 g6 hv=>?_
       rw [hdrop] at hwk
       generalize hr : wk k.step (deep + 1) (Plan.mk kind' n' test' cells' a' b' keys' agg' col' kids') m' s1 = r at hv
       cases r with
       | go m2 s2=>
        obtain ⟨rfl,rfl,hm2,C3,hJ6,hkm6,hF6⟩:=hv
        conv=>whnf
        refine ⟨n2 - 1,by omega,j + 1,m2,s2,C3,by omega,rfl,rfl,rfl,rfl,?_,rfl,hJ6,hkm6,hm2,(F'.trans F5).trans hF6,?_⟩
        ·exact i64_step (by omega)
        ·rw [hwk]; simp only [wks,hr]
       | lim s2=>
        obtain ⟨rfl,rfl,C3,hJ6⟩:=hv
        conv=>whnf
        refine ⟨_,rfl,?_⟩
        show WPost k C h km (wks k.step (deep + 1) kids (m + 1) s') _ _ _
        rw [hwk]; simp only [wks,hr]
        exact ⟨rfl,rfl,C3,hJ6⟩
       | stop s2=>
        obtain ⟨rfl,hx6⟩:=hv
        conv=>whnf
        refine ⟨_,rfl,?_⟩
        show WPost k C h km (wks k.step (deep + 1) kids (m + 1) s') _ _ _
        rw [hwk]; simp only [wks,hr]
        exact ⟨rfl,hx6⟩
      ·have hje : j = kids.length:=by
        have : ¬ j < (Plan.encs kids).length:=by simpa using hlt
        rw [encs_len] at this
        omega
       subst hje
       conv=>whnf
       refine ⟨_,rfl,?_⟩
       show WPost k C h km (wks k.step (deep + 1) kids (m + 1) s') _ _ _
       rw [hwk,List.drop_length]
       exact ⟨rfl,rfl,m10',C2,hJ',hm',F'⟩
   ·conv=>whnf
    refine ⟨_,rfl,?_⟩
    rw [hs]
    exact ⟨rfl,hx⟩
end Go.Proofs.YtncgofhhnhebjaaGreat

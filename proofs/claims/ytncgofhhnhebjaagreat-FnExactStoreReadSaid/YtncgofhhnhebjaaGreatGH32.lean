/- How wide plans are over tables: the program's. -/
import Derived.Test.YtncgofhhnhebjaaGreatGSPe
import Derived.Test.YtncgofhhnhebjaaGreatGSPr
import Derived.Test.YtncgofhhnhebjaaGreatGH27
import Derived.Test.YtncgofhhnhebjaaGreatGH15
set_option linter.unusedVariables false
set_option linter.unusedSimpArgs false
/- sizeOk among the prims. -/
set_option maxHeartbeats 4000000
namespace Go.Proofs.YtncgofhhnhebjaaGreat
open Go Go.Am
theorem i64_inj {a b : Int} (h : i64 a = i64 b) : a = b:=by cases h; rfl
theorem cell_inj {a b : Cell} (h : a.enc = b.enc) : a = b:=by
 obtain ⟨k,x,y,z⟩:=a
 obtain ⟨k',x',y',z'⟩:=b
 simp only [Cell.enc,i64,AVal.agg.injEq,List.cons.injEq,AVal.int.injEq,true_and,and_true] at h
 obtain ⟨rfl,rfl,rfl,rfl⟩:=h
 rfl
theorem map_inj {α : Type} {f : α → AVal} (hf : ∀ a b,f a = f b → a = b) : ∀ (l l' : List α),l.map f = l'.map f → l = l'
 | [],[],_=>rfl
 | [],_ :: _,h=>by simp at h
 | _ :: _,[],h=>by simp at h
 | a :: l,b :: l',h=>by
  simp only [List.map_cons,List.cons.injEq] at h
  rw [hf _ _ h.1,map_inj hf l l' h.2]
theorem encs_inj {N : Nat} (ih : ∀ t t' : Plan,SizeOf.sizeOf t ≤ N → t.enc = t'.enc → t = t') : ∀ (l l' : List Plan),SizeOf.sizeOf l ≤ N + 1 → Plan.encs l = Plan.encs l' → l = l'
 | [],[],_,_=>rfl
 | [],_ :: _,_,h=>by simp [Plan.encs] at h
 | _ :: _,[],_,h=>by simp [Plan.encs] at h
 | a :: l,b :: l',hs,h=>by
  simp only [Plan.encs,List.cons.injEq] at h
  simp at hs
  rw [ih a b (by omega) h.1,encs_inj ih l l' (by omega) h.2]
theorem enc_inj' : ∀ (N : Nat) (t t' : Plan),SizeOf.sizeOf t ≤ N → t.enc = t'.enc → t = t':=by
 intro N
 induction N with
 | zero=>intro t t' h; cases t; simp at h
 | succ N ih=>
  intro t t' hs h
  obtain ⟨kind,n,⟨tk,tn,⟨a1,a2,a3,a4⟩,⟨b1,b2,b3,b4⟩⟩,cells,a,b,keys,agg,col,kids⟩:=t
  obtain ⟨kind',n',⟨tk',tn',⟨a1',a2',a3',a4'⟩,⟨b1',b2',b3',b4'⟩⟩,cells',a',b',keys',agg',col',kids'⟩:=t'
  simp only [Plan.enc,i64,AVal.agg.injEq,List.cons.injEq,AVal.int.injEq,AVal.bool.injEq,AVal.sl.injEq,true_and,and_true] at h
  obtain ⟨rfl,rfl,rfl,rfl,rfl,rfl,rfl,rfl,rfl,rfl,rfl,rfl,hc,rfl,rfl,hk,rfl,rfl,hks⟩:=h
  rw [map_inj (fun _ _=>cell_inj) _ _ hc,map_inj (fun _ _=>i64_inj) _ _ hk,encs_inj ih kids kids' (by simp at hs; omega) hks]
theorem enc_inj {t t' : Plan} (h : t.enc = t'.enc) : t = t':=enc_inj' _ t t' (Nat.le_refl _) h
open Classical in
noncomputable def sizeOkPr (args : List AVal) (h : Heap) : Option ARes:=
 if hx : ∃ t : Plan,t.small ∧ args = [t.enc] ∧ h = [] then some (.ret (.bool (sizeOkP hx.choose)) []) else none
theorem sizeOkPr_some {t : Plan} (ht : t.small) : sizeOkPr [t.enc] [] = some (.ret (.bool (sizeOkP t)) []):=by
 have hx : ∃ t' : Plan,t'.small ∧ [t.enc] = [t'.enc] ∧ ([] : Heap) = []:=⟨t,ht,rfl,rfl⟩
 unfold sizeOkPr
 rw [dif_pos hx]
 have : hx.choose = t:=(enc_inj (by simpa using hx.choose_spec.2.1)).symm
 rw [this]
noncomputable def pr1 : Prims:=fun f=>if f == 37 then some sizeOkPr else pr0 f
theorem plain_ne {f g : FuncId} (h : plain f = true) (hg : plain g = false) : (f == g) = false:=by
 cases hc : f == g with
 | false=>rfl
 | true=>
  have : f = g:=by simpa using hc
  subst this
  rw [hg] at h
  cases h
theorem ok1 : Okp pr1:=⟨fun f h=>by
 unfold pr1
 rw [plain_ne h (g:=37) (by rfl)]
 exact pr0_plain h⟩
theorem pr1_bad (f : FuncId) (h : bad f = true) : pr1 f ≠ none:=by
 unfold pr1
 split
 ·exact fun e=>by cases e
 ·exact pr0_bad f h
theorem prim_of {f : FuncId} {args : List AVal} {r : AVal} (hs : r.isScalar = true) (hc : CallsY cf none f args [] rdy fun v _ _=>v = r) {E : Env} {w : World} {vs : Array Value} (s : Sim E [] w) (hf : Full E []) (hg : GOk (fun _=>none) E.S w) (hr : Reps E w args vs) :
  Calls Tryz.prog f vs w (Post E [] w (.ret r [])):=by
   refine Calls.mono (hc E w vs s hf hg hr trivial) fun e w' he=>?_
   cases e with
   | panicked ch=>exact he.elim
   | outgrown=>exact he.elim
   | returned u=>
    obtain ⟨v,h',g',E',rfl,s',f',x',r',_⟩:=he
    have him : ∀ b,¬ E.im b:=fun b ⟨id,sl,h1,_⟩=>by rw [hf id (Nat.zero_le _)] at h1; cases h1
    obtain ⟨s2,x2⟩:=s.grow (w':=w') (fun b hb=>x'.mem b hb (him b) id) x'.size x'.os x'.tape x'.output
    exact ⟨v,[],E,rfl,s2,hf,x2,.clo (r'.closed hs _ _)⟩
theorem cfOk1 : CfgOk (cfp pr1):=cfOk_of pr1_bad fun f p args h r hp hr E w vs hb s hf hg hreps=>by
 unfold pr1 at hp
 split at hp
 ·rename_i e
  have : f = 37:=by simpa using e
  subst this
  cases hp
  unfold sizeOkPr at hr
  split at hr
  ·rename_i hx
   cases hr
   obtain ⟨h1,h2,rfl⟩:=hx.choose_spec
   have key : ∀ xs,xs = [hx.choose.enc] → CallsY cf none 37 xs [] rdy fun v _ _=>v = .bool (sizeOkP hx.choose):=fun xs e=>by rw [e]; exact sizeOk_y _ h1
   exact prim_of rfl (key args h2) s hf hg hreps
  ·cases hr
 ·rw [pr0_none hp] at hr; cases hr
end Go.Proofs.YtncgofhhnhebjaaGreat
/- The plain law: what can be written is what is right. -/
set_option maxHeartbeats 4000000
namespace Go.Proofs.YtncgofhhnhebjaaGreat
open Go Go.Am
mutual
def cnt : Plan → Nat
 | .mk _ _ _ _ _ _ _ _ _ kids=>1 + cnts kids
def cnts : List Plan → Nat
 | []=>0
 | p :: ps=>cnt p + cnts ps
end
mutual
def dep : Plan → Nat
 | .mk _ _ _ _ _ _ _ _ _ kids=>1 + deps kids
def deps : List Plan → Nat
 | []=>0
 | p :: ps=>max (dep p) (deps ps)
end
theorem deps_mem {q : Plan} : ∀ {ps : List Plan},q ∈ ps → dep q ≤ deps ps
 | p :: ps,h=>by
  simp only [deps]
  rcases List.mem_cons.1 h with rfl | h
  ·omega
  ·have:=deps_mem h; omega
theorem deps_le {ps : List Plan} {d : Nat} (h : ∀ q ∈ ps,dep q ≤ d) : deps ps ≤ d:=by
 induction ps with
 | nil=>simp [deps]
 | cons p ps ih=>
  simp only [deps]
  have h1:=h p (by simp)
  have h2:=ih fun q hq=>h q (by simp [hq])
  omega
theorem cnts_eq (ps : List Plan) : cnts ps = (ps.map cnt).sum:=by
 induction ps with
 | nil=>rfl
 | cons p ps ih=>simp [cnts,ih]
theorem wks_stepS {N : Nat} (ih : ∀ t : Plan,SizeOf.sizeOf t ≤ N → ∀ deep m,m ≤ 10 → (deep + dep t ≤ 6 ∧ m + cnt t ≤ 10 → wk stepS deep t m m = .go (m + cnt t) (m + cnt t)) ∧ (¬ (deep + dep t ≤ 6 ∧ m + cnt t ≤ 10) → ∃ s,wk stepS deep t m m = .stop s)) :
  ∀ (l : List Plan),SizeOf.sizeOf l ≤ N + 1 → ∀ deep m,m ≤ 10 → (deep + deps l ≤ 6 ∨ l = []) ∧ m + cnts l ≤ 10 ∧ wks stepS deep l m m = .go (m + cnts l) (m + cnts l) ∨ (¬ (deep + deps l ≤ 6 ∧ m + cnts l ≤ 10) ∧ ∃ s,wks stepS deep l m m = .stop s):=by
   intro l
   induction l with
   | nil=>intro _ deep m hm; exact .inl ⟨.inr rfl,by simp [cnts,hm],by simp [wks,cnts]⟩
   | cons p ps ihl=>
    intro hs deep m hm
    simp at hs
    obtain ⟨h1,h2⟩:=ih p (by omega) deep m hm
    by_cases hc : deep + dep p ≤ 6 ∧ m + cnt p ≤ 10
    ·have hw:=h1 hc
     rcases ihl (by omega) deep (m + cnt p) hc.2 with ⟨g1,g2,g3⟩ | ⟨g1,s,g3⟩
     ·left
      refine ⟨.inl ?_,by simp only [cnts]; omega,?_⟩
      ·simp only [deps]
       rcases g1 with g1 | g1
       ·omega
       ·subst g1; simp only [deps]; omega
      ·simp only [wks,hw,g3,cnts]; congr 1 <;> omega
     ·right
      refine ⟨fun hh=>g1 ⟨?_,?_⟩,s,by simp only [wks,hw,g3]⟩
      ·have:=hh.1; simp only [deps] at this; omega
      ·have:=hh.2; simp only [cnts] at this; omega
    ·obtain ⟨s,hw⟩:=h2 hc
     right
     refine ⟨fun hh=>hc ⟨?_,?_⟩,s,by simp only [wks,hw]⟩
     ·have:=hh.1; simp only [deps] at this; omega
     ·have:=hh.2; simp only [cnts] at this; omega
theorem wk_stepS : ∀ (N : Nat) (t : Plan),SizeOf.sizeOf t ≤ N → ∀ deep m,m ≤ 10 → (deep + dep t ≤ 6 ∧ m + cnt t ≤ 10 → wk stepS deep t m m = .go (m + cnt t) (m + cnt t)) ∧ (¬ (deep + dep t ≤ 6 ∧ m + cnt t ≤ 10) → ∃ s,wk stepS deep t m m = .stop s):=by
 intro N
 induction N with
 | zero=>intro t h; cases t; simp at h
 | succ N ih=>
  intro t hs deep m hm
  obtain ⟨kind,n,test,cells,a,b,keys,agg,c,kids⟩:=t
  simp at hs
  have hk:=wks_stepS ih kids (by omega) (deep + 1) (m + 1)
  simp only [wk,stepS,cnt,dep]
  by_cases h0 : 10 < m + 1 ∨ 6 ≤ deep
  ·simp only [h0,decide_true,Bool.not_true]
   exact ⟨fun hh=>by omega,fun _=>⟨_,rfl⟩⟩
  ·simp only [h0,decide_false,Bool.not_false,if_false]
   rcases hk (by omega) with ⟨g1,g2,g3⟩ | ⟨g1,s,g3⟩
   ·refine ⟨fun _=>by rw [g3]; congr 1 <;> omega,fun hn=>(hn ⟨?_,by omega⟩).elim⟩
    rcases g1 with g1 | g1
    ·omega
    ·subst g1; simp only [deps]; omega
   ·exact ⟨fun hh=>(g1 ⟨by omega,by omega⟩).elim,fun _=>⟨s,g3⟩⟩
theorem sizeOkP_eq (t : Plan) : sizeOkP t = (decide (dep t ≤ 6) && decide (cnt t ≤ 10)):=by
 obtain ⟨h1,h2⟩:=wk_stepS _ t (Nat.le_refl _) 0 0 (by omega)
 unfold sizeOkP
 by_cases h : 0 + dep t ≤ 6 ∧ 0 + cnt t ≤ 10
 ·rw [h1 h]
  simp only [Nat.zero_add] at h
  simp [h.1,h.2]
 ·obtain ⟨s,hs⟩:=h2 h
  rw [hs]
  simp only [Nat.zero_add] at h
  simp only
  rw [Bool.eq_iff_iff]
  simp only [Bool.and_eq_true,decide_eq_true_eq,Bool.false_eq_true,false_iff]
  exact h
theorem many_cnt : ∀ (d : Nat) (p : Plan),dep p ≤ d + 1 → many d p = cnt p:=by
 intro d
 induction d with
 | zero=>
  intro p h
  obtain ⟨kind,n,test,cells,a,b,keys,agg,c,kids⟩:=p
  cases kids with
  | nil=>rfl
  | cons q qs=>
   obtain ⟨_,_,_,_,_,_,_,_,_,_⟩:=q
   simp only [dep,deps] at h
   omega
 | succ d ih=>
  intro p h
  obtain ⟨kind,n,test,cells,a,b,keys,agg,c,kids⟩:=p
  simp only [dep] at h
  simp only [many,Plan.kids,cnt,cnts_eq]
  congr 2
  exact List.map_congr_left fun q hq=>ih q (by have:=deps_mem hq; omega)
theorem form_dep : ∀ (d : Nat) (p : Plan),form d p = true → dep p ≤ d:=by
 intro d
 induction d with
 | zero=>intro p h; cases h
 | succ d ih=>
  intro p h
  obtain ⟨_,_,_,hk⟩:=form_kids h
  obtain ⟨kind,n,test,cells,a,b,keys,agg,c,kids⟩:=p
  simp only [dep]
  have : deps kids ≤ d:=deps_le (d:=d) fun q hq=>ih q (hk q hq)
  omega
def w6 : List Int:=[6,6,6]
theorem kf6_ne (w : Int) : kf6 w = 6 ∧ w ≠ -1 ∨ kf6 w = -1 ∧ w = -1:=by
 unfold kf6
 by_cases h : w = -1
 ·right; subst h; exact ⟨rfl,rfl⟩
 ·left; exact ⟨by simp [h],h⟩
theorem widesP_form {d : Nat} : ∀ (l : List Plan),(∀ q ∈ l,wideP kf6 w6 q = if form d q then 6 else -1) → widesP kf6 w6 l = if l.all (form d) then some (List.replicate l.length 6) else none
 | [],_=>rfl
 | p :: ps,h=>by
  have h1:=h p (by simp)
  have h2:=widesP_form ps fun q hq=>h q (by simp [hq])
  simp only [widesP,h1,h2,List.all_cons]
  by_cases h3 : form d p = true
  ·by_cases h4 : ps.all (form d) = true
   ·simp only [h3,h4]; rfl
   ·simp only [h3,h4]; rfl
  ·simp only [h3]; rfl
theorem partWide_own (p : Plan) (hs : shaped p = true) (hk : p.kind ≠ 1) : (partWide p (List.replicate p.kids.length 6) ≠ -1) ↔ own p = true:=by
 obtain ⟨kind,n,test,cells,a,b,keys,agg,c,kids⟩:=p
 simp only [shaped,Plan.kind,Plan.kids,Bool.and_eq_true,beq_iff_eq] at hs hk ⊢
 obtain ⟨hlen,_⟩:=hs
 have hn0 : kids.length ≠ 0 → nth (List.replicate kids.length 6) 0 = 6:=fun h=>by simp [nth,List.getElem?_replicate,Nat.pos_of_ne_zero h]
 have hn1 : kids.length = 2 → nth (List.replicate kids.length 6) 1 = 6:=fun h=>by simp [nth,h]
 rcases kind_cases kind with rfl | rfl | rfl | rfl | rfl | rfl | rfl | ⟨h1,h2,h3,h4,h5,h6,h7⟩
 ·exact (hk rfl).elim
 ·have : kids.length = 1:=by simp [kidsN] at hlen; omega
  simp only [partWide,own,hn0 (by omega)]
  cases testOk test 6 <;> simp
 ·have : kids.length = 1:=by simp [kidsN] at hlen; omega
  simp only [partWide,own,hn0 (by omega),cellsOk]
  by_cases ha : (cells.all fun c=>cellOk c 6) = true
  ·by_cases hb : 1 ≤ cells.length ∧ cells.length ≤ 6
   ·simp [ha,hb.1,hb.2]
    try omega
   ·have : ¬ (1 ≤ cells.length) ∨ ¬ cells.length ≤ 6:=by omega
    rcases this with h | h <;> simp [ha,h]
  ·simp [ha]
 ·have : kids.length = 2:=by simp [kidsN] at hlen; omega
  simp only [partWide,own,hn0 (by omega),hn1 this]
  have hw : IntKind.i64.wrap ((6 : Int) + 6) = 12:=by decide
  rw [hw]
  cases (col a 6 && col b 6) <;> simp
 ·have : kids.length = 2:=by simp [kidsN] at hlen; omega
  simp only [partWide,own,hn0 (by omega),hn1 this]
  simp
 ·have : kids.length = 1:=by simp [kidsN] at hlen; omega
  simp only [partWide,own,hn0 (by omega)]
  simp
 ·have : kids.length = 1:=by simp [kidsN] at hlen; omega
  simp only [partWide,own,hn0 (by omega)]
  by_cases h1 : (keysOk keys 6 && col c 6) = true
  ·by_cases h2 : 0 ≤ agg
   ·by_cases h3 : agg ≤ 3
    ·simp only [Bool.and_eq_true] at h1
     simp [h1.1,h1.2,h2,h3]
     omega
    ·simp [h3]
   ·simp [h2]
  ·have h1' : (keysOk keys 6 && col c 6) = false:=by simpa using h1
   by_cases h4 : keysOk keys 6 = true
   ·have h5 : col c 6 = false:=by rw [h4] at h1'; simpa using h1'
    simp [h4,h5]
   ·simp [h4]
 ·exfalso
  simp only [beq_eq_false_iff_ne,ne_eq] at *
  simp [kidsN,h1,h2,h3,h4,h5,h6,h7] at hlen
  try omega
theorem wideP_form : ∀ (d : Nat) (p : Plan),dep p ≤ d → wideP kf6 w6 p = if form d p then 6 else -1:=by
 intro d
 induction d with
 | zero=>
  intro p h
  obtain ⟨kind,n,test,cells,a,b,keys,agg,c,kids⟩:=p
  simp only [dep] at h
  omega
 | succ d ih=>
  intro p h
  have hpo:=partWide_own p
  obtain ⟨kind,n,test,cells,a,b,keys,agg,c,kids⟩:=p
  simp only [dep] at h
  have hws:=widesP_form (d:=d) kids fun q hq=>ih q (by have:=deps_mem hq; omega)
  have hf : form (d + 1) (.mk kind n test cells a b keys agg c kids) = (shaped (.mk kind n test cells a b keys agg c kids) && (own (.mk kind n test cells a b keys agg c kids) && kids.all (form d))):=by
   simp only [form,shaped,Bool.and_assoc,Plan.kids]
  rw [hf,wideP]
  by_cases hs : shaped (.mk kind n test cells a b keys agg c kids) = true
  ·rw [if_pos hs,hs,Bool.true_and]
   by_cases hk : kind = 1
   ·subst hk
    have hkn : kids = []:=by
     simp only [shaped,Plan.kind,Plan.kids,Bool.and_eq_true,beq_iff_eq] at hs
     have:=hs.1
     simp [kidsN] at this
     exact List.length_eq_zero_iff.1 (by omega)
    subst hkn
    have hown : own (.mk 1 n test cells a b keys agg c []) = (decide (0 ≤ n) && decide (n < 3)):=rfl
    have hpw : partWide (.mk 1 n test cells a b keys agg c []) w6 = if decide (0 ≤ n) && decide (n < 3) then nth w6 n.toNat else -1:=rfl
    rw [if_pos rfl,hown,hpw]
    by_cases hn : (decide (0 ≤ n) && decide (n < 3)) = true
    ·rw [if_pos hn,hn]
     simp only [Bool.and_eq_true,decide_eq_true_eq] at hn
     have h3 : n = 0 ∨ n = 1 ∨ n = 2:=by omega
     rcases h3 with rfl | rfl | rfl <;> rfl
    ·have hn' : (decide (0 ≤ n) && decide (n < 3)) = false:=by simpa using hn
     rw [hn']
     rfl
   ·rw [if_neg hk,hws]
    have hpo':=hpo hs hk
    simp only [Plan.kids] at hpo'
    by_cases ha : kids.all (form d) = true
    ·rw [ha]
     have hne : kids.length ≠ 0:=by
      intro h0
      simp only [shaped,Plan.kind,Plan.kids,Bool.and_eq_true,beq_iff_eq] at hs
      have:=hs.1
      rw [h0] at this
      rcases kind_cases kind with rfl | rfl | rfl | rfl | rfl | rfl | rfl | ⟨h1,h2,h3,h4,h5,h6,h7⟩ <;> first
       | exact hk rfl
       | (simp [kidsN] at this; done)
       | (simp only [beq_eq_false_iff_ne,ne_eq] at *; simp [kidsN,h1,h2,h3,h4,h5,h6,h7] at this)
     have hemp : (List.replicate kids.length (6 : Int)).isEmpty = false:=by
      cases hq : kids.length with
      | zero=>exact (hne hq).elim
      | succ k=>rfl
     simp only [if_true,hemp]
     rcases kf6_ne (partWide (.mk kind n test cells a b keys agg c kids) (List.replicate kids.length 6)) with ⟨g1,g2⟩ | ⟨g1,g2⟩
     ·rw [hpo'.1 g2]; simpa using g1
     ·have : own (.mk kind n test cells a b keys agg c kids) = false:=by
       cases ho : own (.mk kind n test cells a b keys agg c kids) with
       | false=>rfl
       | true=>exact (hpo'.2 ho g2).elim
      rw [this]; simpa using g1
    ·have ha' : kids.all (form d) = false:=by simpa using ha
     rw [ha']
     simp
  ·have hs' : shaped (.mk kind n test cells a b keys agg c kids) = false:=by simpa using hs
   rw [if_neg hs,hs']
   rfl
def writableP (p : Plan) : Bool:=sizeOkP p && (wideP kf6 w6 p != -1)
theorem writable_fit (p : Plan) : writableP p = fit p:=by
 unfold writableP fit
 rw [sizeOkP_eq]
 by_cases hd : dep p ≤ 6
 ·have h1:=wideP_form 6 p hd
  have h2:=many_cnt 6 p (by omega)
  rw [h1,h2]
  cases form 6 p <;> simp [hd]
 ·have : form 6 p = false:=by
   cases hf : form 6 p with
   | false=>rfl
   | true=>exact (hd (form_dep 6 p hf)).elim
  rw [this]
  simp [hd]
end Go.Proofs.YtncgofhhnhebjaaGreat
/- slices.Clone: the caller's own. -/
set_option maxHeartbeats 4000000
namespace Go.Am
open Go
theorem empty_rep {E : Env} {w : World} {v : AVal} {u : Value} (hv : v = .nil ∨ v = .own 0 0 0) (hr : Rep E w v u) (S : Nat → Prop) (w' : World) : RepC S w' (.sl []) u:=by
 have fin : ∀ (a : Option Addr) (cap : Nat),RepC S w' (.sl []) (.slice a 0 cap):=fun a cap=>.sl [] a cap 0 0 0 (fun _ _=>undef) (fun h=>absurd rfl h) (Nat.zero_le _) (by simp) (by simp) (by simp)
 rcases hv with rfl | rfl
 ·cases hr with
  | clo h=>cases h with | nil a=>exact fin a 0
 ·cases hr with
  | clo h=>cases h
  | own _ _ _ a cap b csz sz hm hcap hq=>exact fin a cap
  | ownD _ _ _ a cap hm hcap=>exact fin a cap
end Go.Am
namespace Go.Proofs.YtncgofhhnhebjaaGreat
open Go Go.Am
set_option maxRecDepth 100000
theorem yCloneI : CallsY cf none 120 [.sl []] [] rdy fun v _ _=>v = .nil ∨ v = .own 0 0 0:=by
 refine callsY_of (isY:=isYf) (callsOk cfOk) (by kernel_rfl) fun B=>?_
 conv=>whnf
 intro b
 conv=>whnf
 refine bsel_intro (fun hb=>?_) (fun hb=>?_)
 ·conv=>whnf
  exact ⟨_,rfl,.inl rfl⟩
 ·conv=>whnf
  refine ⟨trivial,?_⟩
  conv=>whnf
  refine ⟨rfl,?_⟩
  conv=>whnf
  refine ⟨rfl,rfl,Nat.le_refl _,?_⟩
  conv=>whnf
  exact ⟨_,rfl,.inr rfl⟩
theorem prim_nil {f : FuncId} (hc : CallsY cf none f [.sl []] [] rdy fun v _ _=>v = .nil ∨ v = .own 0 0 0) {E : Env} {w : World} {vs : Array Value} (s : Sim E [] w) (hf : Full E []) (hg : GOk (fun _=>none) E.S w) (hr : Reps E w [.sl []] vs) :
  Calls Tryz.prog f vs w (Post E [] w (.ret (.sl []) [])):=by
   refine Calls.mono (hc E w vs s hf hg hr trivial) fun e w' he=>?_
   cases e with
   | panicked ch=>exact he.elim
   | outgrown=>exact he.elim
   | returned u=>
    obtain ⟨v,h',g',E',hv,s',f',x',r',_⟩:=he
    have him : ∀ b,¬ E.im b:=fun b ⟨id,sl,h1,_⟩=>by rw [hf id (Nat.zero_le _)] at h1; cases h1
    obtain ⟨s2,x2⟩:=s.grow (w':=w') (fun b hb=>x'.mem b hb (him b) id) x'.size x'.os x'.tape x'.output
    exact ⟨.sl [],[],E,rfl,s2,hf,x2,.clo (empty_rep hv r' _ _)⟩
noncomputable def clonePr (f : FuncId) (args : List AVal) (h : Heap) : Option ARes:=match args,h with
 | [.sl []],[]=>some (.ret (.sl []) [])
 | _,_=>call (cfp pr1) f args h
noncomputable def pr2 : Prims:=fun f=>if f == 120 then some (clonePr f) else pr1 f
theorem ok2 : Okp pr2:=⟨fun f h=>by
 unfold pr2
 rw [plain_ne h (g:=120) (by rfl)]
 exact ok1.out f h⟩
theorem pr2_bad (f : FuncId) (h : bad f = true) : pr2 f ≠ none:=by
 unfold pr2
 split
 ·exact fun e=>by cases e
 ·exact pr1_bad f h
theorem sizeOk2_r (t : Plan) (ht : t.small) : Ret pr2 37 [t.enc] (.bool (sizeOkP t)):=by
 refine ret_prim (p:=sizeOkPr) rfl rfl ?_ (sizeOkPr_some ht) rfl
 obtain ⟨kind,n,test,cells,a,b,keys,agg,col,kids⟩:=t
 rfl
theorem clone_case {f : FuncId} (hy : CallsY cf none f [.sl []] [] rdy fun v _ _=>v = .nil ∨ v = .own 0 0 0) {args : List AVal} {h : Heap} {r : ARes} (hr : clonePr f args h = some r) (E : Env) (w : World) (vs : Array Value) (hb : bodied Tryz.prog f = true) (s : Sim E h w) (hf : Full E h) (hg : GOk (fun _=>none) E.S w) (hreps : Reps E w args vs) :
  Calls Tryz.prog f vs w (Post E h w r):=by
   unfold clonePr at hr
   split at hr
   ·cases hr; exact prim_nil hy s hf hg hreps
   ·exact call_sound cfOk1 f args h r hr E w vs hb s hf hg hreps
theorem cfOk2 : CfgOk (cfp pr2):=cfOk_of pr2_bad fun f p args h r hp hr E w vs hb s hf hg hreps=>by
 unfold pr2 at hp
 split at hp
 ·rename_i e; have : f = 120:=by simpa using e
  subst this; cases hp; exact clone_case yCloneI hr E w vs hb s hf hg hreps
 ·exact cfOk1.prims f p args h r hp hr E w vs hb s hf hg hreps
structure Okc (pr : Prims) : Prop extends Okp pr where
 size : ∀ t : Plan,t.small → Ret pr 37 [t.enc] (.bool (sizeOkP t))
 cloneI : ∀ xs : List Int,xs.length ≤ 1048576 → RetL i64 1 pr 120 [.sl (xs.map i64)] xs
theorem call_pr2 {f : FuncId} {p : List AVal → Heap → Option ARes} (hp : pr2 f = some p) (args : List AVal) (h : Heap) : call (cfp pr2) f args h = p args h:=by
 rw [call_eq]
 unfold callB
 have : (cfp pr2).pr f = some p:=hp
 simp only [this]
theorem okc2 : Okc pr2 where
 toOkp:=ok2
 size:=sizeOk2_r
 cloneI:=fun xs hl=>by
  cases xs with
  | nil=>exact ⟨.sl [],[],[],by rw [call_pr2 (p:=clonePr _) rfl]; rfl,.inl ⟨rfl,rfl,.inr rfl⟩,by simp⟩
  | cons x xs=>
   have : RetL i64 1 pr1 120 [.sl ((x :: xs).map i64)] (x :: xs):=by
    suffices hw : wpF (cfp pr1) 120 [.sl ((x :: xs).map i64)] [] (fun r=>∃ v h F,r = .ret v h ∧ OwnL i64 1 h (x :: xs) v F ∧ F.Nodup) by
     obtain ⟨r,hr,v,h,F,rfl,h1,h2⟩:=wpF_sound rfl hw
     exact ⟨v,h,F,hr,h1,h2⟩
    conv=>whnf
    refine ⟨trivial,?_⟩
    conv=>whnf
    refine ⟨?_,?_⟩
    ·rw [List.all_eq_true]; intro y hy; obtain ⟨z,_,rfl⟩:=List.mem_map.1 hy; rfl
    conv=>whnf
    refine ⟨rfl,rfl,Nat.le_refl _,?_⟩
    conv=>whnf
    refine ⟨by simp [sizeLim] at hl ⊢; omega,?_⟩
    conv=>whnf
    refine ⟨_,_,[1],rfl,.inr ⟨1,?_,rfl,rfl⟩,by simp⟩
    simp
    rfl
   obtain ⟨v,h,F,hc,h1,h2⟩:=this
   exact ⟨v,h,F,by rw [call_pr2 (p:=clonePr _) rfl]; exact hc,h1,h2⟩
end Go.Proofs.YtncgofhhnhebjaaGreat
/- The program's SlimOnce; the law's own functions. -/
set_option maxHeartbeats 4000000
namespace Go.Proofs.YtncgofhhnhebjaaGreat
open Go Go.Am
variable {pr : Prims} (hp : Okp pr) (hs : Okc pr)
set_option maxRecDepth 100000
theorem writable_r (hs : Okc pr) (p : Plan) (hsm : p.small) : Ret pr 149 [p.enc] (.bool (fit p)):=by
 have h1:=hs.size p hsm
 have h2:=wideOf_r hs.toOkp w6 (by decide) _ p (Nat.le_refl _) hsm
 rw [← writable_fit]
 obtain ⟨kind,n,test,cells,a,b,keys,agg,c,kids⟩:=p
 refine ret_of hs.toOkp rfl rfl ?_
 conv=>whnf
 refine ⟨_,h1 _,?_⟩
 conv=>whnf
 refine bsel_intro (fun g1=>?_) (fun g1=>?_)
 ·conv=>whnf
  refine ⟨_,h2.frozen rfl rfl rfl rfl,?_⟩
  iterate 3
   all_goals (try (conv=>whnf))
   all_goals (first | (refine bsel_intro (fun hb=>?_) (fun hb=>?_)) | skip)
  all_goals exact fin_bool (by rw [writableP,g1,Bool.true_and]; exact hb.symm)
 ·conv=>whnf
  exact fin_bool (by rw [writableP,g1]; rfl)
end Go.Proofs.YtncgofhhnhebjaaGreat
/- How wide plans are over tables: the program's. -/
set_option maxHeartbeats 4000000
namespace Go.Proofs.YtncgofhhnhebjaaGreat
open Go Go.Am
variable {pr : Prims} (hp : Okp pr)
set_option maxRecDepth 100000
def kfW (w : Int) : Int:=if decide (1 ≤ w) && decide (w ≤ 6) then w else -1
theorem planWide1_r (hp : Okp pr) (w : Int) : Ret pr 39 [i64 w] (i64 (kfW w)):=by
 have h:=fun ok=>wideIf_r hp ok w
 refine ret_of hp rfl rfl ?_
 iterate 5
  all_goals (try (conv=>whnf))
  all_goals (first | (refine bsel_intro (fun hb=>?_) (fun hb=>?_)) | (refine ⟨_,h _ _,?_⟩) | skip)
 all_goals exact fin_int (by first | (simp_all [kfW]; done) | (simp_all [kfW]; omega))
def kfVW : AVal:=.func (.func 39) [] []
theorem wideOfW_r (hp : Okp pr) (ws : List Int) (hws : ws.length ≤ 1048576) : ∀ (N : Nat) (p : Plan),SizeOf.sizeOf p ≤ N → p.small → Ret pr 38 [p.enc,.sl (ws.map i64),kfVW] (i64 (wideP kfW ws p)):=by
 intro N
 induction N with
 | zero=>intro p h; exfalso; cases p; simp at h
 | succ N ih=>
 intro p hs hsm
 have hsh:=shaped_r hp p hsm
 have hpa:=parts_r hp
 have hkf:=planWide1_r hp
 obtain ⟨kind,n,test,cells,a,b,keys,agg,c,kids⟩:=p
 obtain ⟨hsc,hsk,hskids,hsks⟩:=small_split hsm
 have hih : ∀ q ∈ kids,Ret pr 38 [q.enc,.sl (ws.map i64),kfVW] (i64 (wideP kfW ws q)):=fun q hq=>ih q (by have:=List.sizeOf_lt_of_mem hq; simp at hs; omega) (hsks q hq)
 clear ih hs
 refine ret_of hp rfl rfl ?_
 conv=>whnf
 refine ⟨_,hsh _,?_⟩
 conv=>whnf
 refine bsel_intro (fun g0=>?_) (fun g0=>?_)
 ·have hlen : kidsN kind = kids.length:=by simp only [shaped,Plan.kind,Plan.kids,Bool.and_eq_true,beq_iff_eq] at g0; exact g0.1
  rcases kind_cases kind with rfl | rfl | rfl | rfl | rfl | rfl | rfl | ⟨h1,h2,h3,h4,h5,h6,h7⟩
  ·have hw:=fun h0=>tableWide_r hp n test cells a b keys agg c kids ws h0 hws
   have hP : wideP kfW ws (.mk 1 n test cells a b keys agg c kids) = if ws.isEmpty then -1 else kfW (partWide (.mk 1 n test cells a b keys agg c kids) ws):=by rw [wideP,if_pos g0]; rfl
   rw [hP]
   conv=>whnf
   refine bsel_intro (fun g1=>?_) (fun g1=>?_)
   ·conv=>whnf
    have : ws.isEmpty = true:=by simp at g1; simp [g1]
    exact fin_int (by rw [this]; rfl)
   ·have hne : ws.isEmpty = false:=by simp at g1; simp [g1]
    conv=>whnf
    refine ⟨_,hpa _,?_⟩
    conv=>whnf
    refine ⟨_,hw (by simpa using hne) _,?_⟩
    conv=>whnf
    refine ⟨_,hkf _ _,?_⟩
    conv=>whnf
    exact fin_int (by rw [hne]; rfl)
  ·match kids,hlen,hih with
   | [q],_,hih=>
    have hq:=hih q (by simp)
    have hw:=fun w=>whereWide_r hp n test cells a b keys agg c [q] w [] 
    have hP : wideP kfW ws (.mk 2 n test cells a b keys agg c [q]) = if wideP kfW ws q == -1 then -1 else kfW (partWide (.mk 2 n test cells a b keys agg c [q]) [wideP kfW ws q]):=by
     rw [wideP,if_pos g0]; simp only [widesP]; cases (wideP kfW ws q == -1) <;> rfl
    rw [hP]
    clear hih hP
    generalize wideP kfW ws q = wq at *
    obtain ⟨kind',n',test',cells',a',b',keys',agg',c',kids'⟩:=q
    conv=>whnf
    refine loop_unroll ?_
    conv=>whnf
    refine ⟨_,rfl,by omega,rfl,?_⟩
    conv=>whnf
    refine ⟨_,hq _,?_⟩
    conv=>whnf
    refine bsel_intro (fun g1=>?_) (fun g1=>?_)
    ·conv=>whnf
     exact fin_int (by rw [g1]; rfl)
    ·conv=>whnf
     refine ⟨trivial,?_⟩
     conv=>whnf
     refine ⟨rfl,?_⟩
     conv=>whnf
     refine ⟨by show 1 ≤ 4294967296; omega,?_⟩
     conv=>whnf
     refine loop_unroll ?_
     conv=>whnf
     refine ⟨_,hpa _,?_⟩
     conv=>whnf
     refine ⟨_,(hw wq).frozen rfl rfl rfl rfl,?_⟩
     conv=>whnf
     refine ⟨_,hkf _ _,?_⟩
     conv=>whnf
     exact fin_int (by rw [g1]; rfl)
   | [],hk,_=>simp [kidsN] at hk
   | _ :: _ :: _,hk,_=>simp [kidsN] at hk; omega
  ·match kids,hlen,hih with
   | [q],_,hih=>
    have hq:=hih q (by simp)
    have hw:=fun w=>mapWide_r hp n test cells a b keys agg c [q] w [] hsc
    have hP : wideP kfW ws (.mk 3 n test cells a b keys agg c [q]) = if wideP kfW ws q == -1 then -1 else kfW (partWide (.mk 3 n test cells a b keys agg c [q]) [wideP kfW ws q]):=by
     rw [wideP,if_pos g0]; simp only [widesP]; cases (wideP kfW ws q == -1) <;> rfl
    rw [hP]
    clear hih hP
    generalize wideP kfW ws q = wq at *
    obtain ⟨kind',n',test',cells',a',b',keys',agg',c',kids'⟩:=q
    conv=>whnf
    refine loop_unroll ?_
    conv=>whnf
    refine ⟨_,rfl,by omega,rfl,?_⟩
    conv=>whnf
    refine ⟨_,hq _,?_⟩
    conv=>whnf
    refine bsel_intro (fun g1=>?_) (fun g1=>?_)
    ·conv=>whnf
     exact fin_int (by rw [g1]; rfl)
    ·conv=>whnf
     refine ⟨trivial,?_⟩
     conv=>whnf
     refine ⟨rfl,?_⟩
     conv=>whnf
     refine ⟨by show 1 ≤ 4294967296; omega,?_⟩
     conv=>whnf
     refine loop_unroll ?_
     conv=>whnf
     refine ⟨_,hpa _,?_⟩
     conv=>whnf
     refine ⟨_,(hw wq).frozen rfl rfl rfl rfl,?_⟩
     conv=>whnf
     refine ⟨_,hkf _ _,?_⟩
     conv=>whnf
     exact fin_int (by rw [g1]; rfl)
   | [],hk,_=>simp [kidsN] at hk
   | _ :: _ :: _,hk,_=>simp [kidsN] at hk; omega
  ·match kids,hlen,hih with
   | [q,q2],_,hih=>
    have hq:=hih q (by simp)
    have hq2:=hih q2 (by simp)
    have hw:=fun w v=>joinWide_r hp n test cells a b keys agg c [q,q2] w v []
    have hP : wideP kfW ws (.mk 4 n test cells a b keys agg c [q,q2]) = if wideP kfW ws q == -1 then -1 else if wideP kfW ws q2 == -1 then -1 else kfW (partWide (.mk 4 n test cells a b keys agg c [q,q2]) [wideP kfW ws q,wideP kfW ws q2]):=by
     rw [wideP,if_pos g0]; simp only [widesP]; cases (wideP kfW ws q == -1) <;> cases (wideP kfW ws q2 == -1) <;> rfl
    rw [hP]
    clear hih hP
    generalize wideP kfW ws q = wq at *
    generalize wideP kfW ws q2 = wq2 at *
    obtain ⟨kind',n',test',cells',a',b',keys',agg',c',kids'⟩:=q
    obtain ⟨kind2,n2,test2,cells2,a2,b2,keys2,agg2,c2,kids2⟩:=q2
    conv=>whnf
    refine loop_unroll ?_
    conv=>whnf
    refine ⟨_,rfl,by omega,rfl,?_⟩
    conv=>whnf
    refine ⟨_,hq _,?_⟩
    conv=>whnf
    refine bsel_intro (fun g1=>?_) (fun g1=>?_)
    ·conv=>whnf
     exact fin_int (by rw [g1]; rfl)
    ·conv=>whnf
     refine ⟨trivial,?_⟩
     conv=>whnf
     refine ⟨rfl,?_⟩
     conv=>whnf
     refine ⟨by show 1 ≤ 4294967296; omega,?_⟩
     conv=>whnf
     refine loop_unroll ?_
     conv=>whnf
     refine ⟨_,rfl,by decide,rfl,?_⟩
     conv=>whnf
     refine ⟨_,hq2 _,?_⟩
     conv=>whnf
     refine bsel_intro (fun g2=>?_) (fun g2=>?_)
     ·conv=>whnf
      exact fin_int (by rw [g1,g2]; rfl)
     ·conv=>whnf
      refine ⟨trivial,?_⟩
      conv=>whnf
      refine ⟨rfl,?_⟩
      conv=>whnf
      refine ⟨rfl,rfl,by show 1 ≤ 1; omega,?_⟩
      conv=>whnf
      refine ⟨by show 1 + 1 ≤ 4294967296; omega,?_⟩
      conv=>whnf
      refine loop_unroll ?_
      conv=>whnf
      refine ⟨_,hpa _,?_⟩
      conv=>whnf
      refine ⟨_,(hw wq wq2).frozen rfl rfl rfl rfl,?_⟩
      conv=>whnf
      refine ⟨_,hkf _ _,?_⟩
      conv=>whnf
      exact fin_int (by rw [g1,g2]; rfl)
   | [],hk,_=>simp [kidsN] at hk
   | [_],hk,_=>simp [kidsN] at hk
   | _ :: _ :: _ :: _,hk,_=>simp [kidsN] at hk; omega
  ·match kids,hlen,hih with
   | [q,q2],_,hih=>
    have hq:=hih q (by simp)
    have hq2:=hih q2 (by simp)
    have hw:=fun w v=>bothWide_r hp n test cells a b keys agg c [q,q2] w v []
    have hP : wideP kfW ws (.mk 5 n test cells a b keys agg c [q,q2]) = if wideP kfW ws q == -1 then -1 else if wideP kfW ws q2 == -1 then -1 else kfW (partWide (.mk 5 n test cells a b keys agg c [q,q2]) [wideP kfW ws q,wideP kfW ws q2]):=by
     rw [wideP,if_pos g0]; simp only [widesP]; cases (wideP kfW ws q == -1) <;> cases (wideP kfW ws q2 == -1) <;> rfl
    rw [hP]
    clear hih hP
    generalize wideP kfW ws q = wq at *
    generalize wideP kfW ws q2 = wq2 at *
    obtain ⟨kind',n',test',cells',a',b',keys',agg',c',kids'⟩:=q
    obtain ⟨kind2,n2,test2,cells2,a2,b2,keys2,agg2,c2,kids2⟩:=q2
    conv=>whnf
    refine loop_unroll ?_
    conv=>whnf
    refine ⟨_,rfl,by omega,rfl,?_⟩
    conv=>whnf
    refine ⟨_,hq _,?_⟩
    conv=>whnf
    refine bsel_intro (fun g1=>?_) (fun g1=>?_)
    ·conv=>whnf
     exact fin_int (by rw [g1]; rfl)
    ·conv=>whnf
     refine ⟨trivial,?_⟩
     conv=>whnf
     refine ⟨rfl,?_⟩
     conv=>whnf
     refine ⟨by show 1 ≤ 4294967296; omega,?_⟩
     conv=>whnf
     refine loop_unroll ?_
     conv=>whnf
     refine ⟨_,rfl,by decide,rfl,?_⟩
     conv=>whnf
     refine ⟨_,hq2 _,?_⟩
     conv=>whnf
     refine bsel_intro (fun g2=>?_) (fun g2=>?_)
     ·conv=>whnf
      exact fin_int (by rw [g1,g2]; rfl)
     ·conv=>whnf
      refine ⟨trivial,?_⟩
      conv=>whnf
      refine ⟨rfl,?_⟩
      conv=>whnf
      refine ⟨rfl,rfl,by show 1 ≤ 1; omega,?_⟩
      conv=>whnf
      refine ⟨by show 1 + 1 ≤ 4294967296; omega,?_⟩
      conv=>whnf
      refine loop_unroll ?_
      conv=>whnf
      refine ⟨_,hpa _,?_⟩
      conv=>whnf
      refine ⟨_,(hw wq wq2).frozen rfl rfl rfl rfl,?_⟩
      conv=>whnf
      refine ⟨_,hkf _ _,?_⟩
      conv=>whnf
      exact fin_int (by rw [g1,g2]; rfl)
   | [],hk,_=>simp [kidsN] at hk
   | [_],hk,_=>simp [kidsN] at hk
   | _ :: _ :: _ :: _,hk,_=>simp [kidsN] at hk; omega
  ·match kids,hlen,hih with
   | [q],_,hih=>
    have hq:=hih q (by simp)
    have hw:=fun w=>onceWide_r hp n test cells a b keys agg c [q] w [] 
    have hP : wideP kfW ws (.mk 6 n test cells a b keys agg c [q]) = if wideP kfW ws q == -1 then -1 else kfW (partWide (.mk 6 n test cells a b keys agg c [q]) [wideP kfW ws q]):=by
     rw [wideP,if_pos g0]; simp only [widesP]; cases (wideP kfW ws q == -1) <;> rfl
    rw [hP]
    clear hih hP
    generalize wideP kfW ws q = wq at *
    obtain ⟨kind',n',test',cells',a',b',keys',agg',c',kids'⟩:=q
    conv=>whnf
    refine loop_unroll ?_
    conv=>whnf
    refine ⟨_,rfl,by omega,rfl,?_⟩
    conv=>whnf
    refine ⟨_,hq _,?_⟩
    conv=>whnf
    refine bsel_intro (fun g1=>?_) (fun g1=>?_)
    ·conv=>whnf
     exact fin_int (by rw [g1]; rfl)
    ·conv=>whnf
     refine ⟨trivial,?_⟩
     conv=>whnf
     refine ⟨rfl,?_⟩
     conv=>whnf
     refine ⟨by show 1 ≤ 4294967296; omega,?_⟩
     conv=>whnf
     refine loop_unroll ?_
     conv=>whnf
     refine ⟨_,hpa _,?_⟩
     conv=>whnf
     refine ⟨_,(hw wq).frozen rfl rfl rfl rfl,?_⟩
     conv=>whnf
     refine ⟨_,hkf _ _,?_⟩
     conv=>whnf
     exact fin_int (by rw [g1]; rfl)
   | [],hk,_=>simp [kidsN] at hk
   | _ :: _ :: _,hk,_=>simp [kidsN] at hk; omega
  ·match kids,hlen,hih with
   | [q],_,hih=>
    have hq:=hih q (by simp)
    have hw:=fun w=>groupWide_r hp n test cells a b keys agg c [q] w [] hsk
    have hP : wideP kfW ws (.mk 7 n test cells a b keys agg c [q]) = if wideP kfW ws q == -1 then -1 else kfW (partWide (.mk 7 n test cells a b keys agg c [q]) [wideP kfW ws q]):=by
     rw [wideP,if_pos g0]; simp only [widesP]; cases (wideP kfW ws q == -1) <;> rfl
    rw [hP]
    clear hih hP
    generalize wideP kfW ws q = wq at *
    obtain ⟨kind',n',test',cells',a',b',keys',agg',c',kids'⟩:=q
    conv=>whnf
    refine loop_unroll ?_
    conv=>whnf
    refine ⟨_,rfl,by omega,rfl,?_⟩
    conv=>whnf
    refine ⟨_,hq _,?_⟩
    conv=>whnf
    refine bsel_intro (fun g1=>?_) (fun g1=>?_)
    ·conv=>whnf
     exact fin_int (by rw [g1]; rfl)
    ·conv=>whnf
     refine ⟨trivial,?_⟩
     conv=>whnf
     refine ⟨rfl,?_⟩
     conv=>whnf
     refine ⟨by show 1 ≤ 4294967296; omega,?_⟩
     conv=>whnf
     refine loop_unroll ?_
     conv=>whnf
     refine ⟨_,hpa _,?_⟩
     conv=>whnf
     refine ⟨_,(hw wq).frozen rfl rfl rfl rfl,?_⟩
     conv=>whnf
     refine ⟨_,hkf _ _,?_⟩
     conv=>whnf
     exact fin_int (by rw [g1]; rfl)
   | [],hk,_=>simp [kidsN] at hk
   | _ :: _ :: _,hk,_=>simp [kidsN] at hk; omega
  ·exfalso
   simp only [beq_eq_false_iff_ne,ne_eq] at *
   simp [kidsN,h1,h2,h3,h4,h5,h6,h7] at hlen
   try omega
 ·conv=>whnf
  exact fin_int (by rw [wideP,if_neg (by rw [g0]; simp)])
def planWide (p : Plan) (ws : List Int) : Int:=if decide (ws.length ≤ 3) && sizeOkP p then wideP kfW ws p else -1
theorem iPlanWide_r (hs : Okc pr) (p : Plan) (ws : List Int) (hsm : p.small) (hl : ws.length ≤ 1048576) : Ret pr 11 [p.enc,.sl (ws.map i64)] (i64 (planWide p ws)):=by
 have h1:=hs.size p hsm
 have h2:=wideOfW_r hs.toOkp ws hl _ p (Nat.le_refl _) hsm
 unfold planWide
 obtain ⟨kind,n,test,cells,a,b,keys,agg,c,kids⟩:=p
 refine retg hs.toOkp rfl rfl ?_
 have S : Sepa [] []:=Sepa.nil []
 conv=>whnf
 intro k1 a1 hk1 hh1
 replace S:=S.alloc hk1 hh1
 conv=>whnf
 refine bsel_intro (fun g1=>?_) (fun g1=>?_)
 ·have : decide (ws.length ≤ 3) = false:=by simp at g1 ⊢; omega
  rw [this]
  conv=>whnf
  exact g_int rfl
 ·have : decide (ws.length ≤ 3) = true:=by simp at g1 ⊢; omega
  rw [this,Bool.true_and]
  conv=>whnf
  refine .inl ⟨_,S.row 0 rfl,rfl,?_⟩
  conv=>whnf
  refine ⟨_,h1 _,?_⟩
  conv=>whnf
  refine bsel_intro (fun g2=>?_) (fun g2=>?_)
  ·rw [g2]
   conv=>whnf
   refine .inl ⟨_,S.row 0 rfl,rfl,?_⟩
   conv=>whnf
   refine ⟨_,h2 _,?_⟩
   conv=>whnf
   exact g_int rfl
  ·rw [g2]
   conv=>whnf
   exact g_int rfl
end Go.Proofs.YtncgofhhnhebjaaGreat

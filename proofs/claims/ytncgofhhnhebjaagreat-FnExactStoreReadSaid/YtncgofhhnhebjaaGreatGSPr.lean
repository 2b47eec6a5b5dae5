/- How wide plans are. -/
import Derived.Test.YtncgofhhnhebjaaGreatGH25
set_option linter.unusedVariables false
set_option linter.unusedSimpArgs false
/- How wide plans are. -/
set_option maxHeartbeats 4000000
namespace Go.Proofs.YtncgofhhnhebjaaGreat
open Go Go.Am
variable {pr : Prims} (hp : Okp pr)
set_option maxRecDepth 100000
mutual
def wideP (kf : Int → Int) (ws : List Int) : Plan → Int
 | .mk kind n test cells a b keys agg c kids=>
  if shaped (.mk kind n test cells a b keys agg c kids) then
   if kind = 1 then (if ws.isEmpty then -1 else kf (partWide (.mk kind n test cells a b keys agg c kids) ws))
   else match widesP kf ws kids with
    | none=>-1
    | some l=>if l.isEmpty then -1 else kf (partWide (.mk kind n test cells a b keys agg c kids) l)
  else -1
def widesP (kf : Int → Int) (ws : List Int) : List Plan → Option (List Int)
 | []=>some []
 | p :: ps=>if wideP kf ws p == -1 then none else (widesP kf ws ps).map (wideP kf ws p :: ·)
end
def kf6 (w : Int) : Int:=if w != -1 then 6 else -1
theorem writable1_r (hp : Okp pr) (w : Int) : Ret pr 181 [i64 w] (i64 (kf6 w)):=by
 have h:=fun ok=>wideIf_r hp ok 6
 refine ret_of hp rfl rfl ?_
 iterate 4
  all_goals (try (conv=>whnf))
  all_goals (first | (refine bsel_intro (fun hb=>?_) (fun hb=>?_)) | (refine ⟨_,h _ _,?_⟩) | skip)
 all_goals exact fin_int (by simp only [kf6,hb]; first | done | rfl)
def kfV : AVal:=.func (.func 181) [] []
theorem wideOf_r (hp : Okp pr) (ws : List Int) (hws : ws.length ≤ 1048576) : ∀ (N : Nat) (p : Plan),SizeOf.sizeOf p ≤ N → p.small → Ret pr 38 [p.enc,.sl (ws.map i64),kfV] (i64 (wideP kf6 ws p)):=by
 intro N
 induction N with
 | zero=>intro p h; exfalso; cases p; simp at h
 | succ N ih=>
 intro p hs hsm
 have hsh:=shaped_r hp p hsm
 have hpa:=parts_r hp
 have hkf:=writable1_r hp
 obtain ⟨kind,n,test,cells,a,b,keys,agg,c,kids⟩:=p
 obtain ⟨hsc,hsk,hskids,hsks⟩:=small_split hsm
 have hih : ∀ q ∈ kids,Ret pr 38 [q.enc,.sl (ws.map i64),kfV] (i64 (wideP kf6 ws q)):=fun q hq=>ih q (by have:=List.sizeOf_lt_of_mem hq; simp at hs; omega) (hsks q hq)
 clear ih hs
 refine ret_of hp rfl rfl ?_
 conv=>whnf
 refine ⟨_,hsh _,?_⟩
 conv=>whnf
 refine bsel_intro (fun g0=>?_) (fun g0=>?_)
 ·have hlen : kidsN kind = kids.length:=by simp only [shaped,Plan.kind,Plan.kids,Bool.and_eq_true,beq_iff_eq] at g0; exact g0.1
  rcases kind_cases kind with rfl | rfl | rfl | rfl | rfl | rfl | rfl | ⟨h1,h2,h3,h4,h5,h6,h7⟩
  ·have hw:=fun h0=>tableWide_r hp n test cells a b keys agg c kids ws h0 hws
   have hP : wideP kf6 ws (.mk 1 n test cells a b keys agg c kids) = if ws.isEmpty then -1 else kf6 (partWide (.mk 1 n test cells a b keys agg c kids) ws):=by rw [wideP,if_pos g0]; rfl
   rw [hP]
   conv=>whnf
   refine bsel_intro (fun g1=>?_) (fun g1=>?_)
   ·conv=>whnf
    have : ws.isEmpty = true:=by simp at g1; simp [g1]
    exact fin_int (by rw [this]; rfl)
   ·have hne : ws.isEmpty = false:=by simp at g1; simp [g1]
    conv=>whnf
    refine ⟨_,hpa _,?_⟩
    conv=>whnf
    refine ⟨_,hw (by simpa using hne) _,?_⟩
    conv=>whnf
    refine ⟨_,hkf _ _,?_⟩
    conv=>whnf
    exact fin_int (by rw [hne]; rfl)
  ·match kids,hlen,hih with
   | [q],_,hih=>
    have hq:=hih q (by simp)
    have hw:=fun w=>whereWide_r hp n test cells a b keys agg c [q] w [] 
    have hP : wideP kf6 ws (.mk 2 n test cells a b keys agg c [q]) = if wideP kf6 ws q == -1 then -1 else kf6 (partWide (.mk 2 n test cells a b keys agg c [q]) [wideP kf6 ws q]):=by
     rw [wideP,if_pos g0]; simp only [widesP]; cases (wideP kf6 ws q == -1) <;> rfl
    rw [hP]
    clear hih hP
    generalize wideP kf6 ws q = wq at *
    obtain ⟨kind',n',test',cells',a',b',keys',agg',c',kids'⟩:=q
    conv=>whnf
    refine loop_unroll ?_
    conv=>whnf
    refine ⟨_,rfl,by omega,rfl,?_⟩
    conv=>whnf
    refine ⟨_,hq _,?_⟩
    conv=>whnf
    refine bsel_intro (fun g1=>?_) (fun g1=>?_)
    ·conv=>whnf
     exact fin_int (by rw [g1]; rfl)
    ·conv=>whnf
     refine ⟨trivial,?_⟩
     conv=>whnf
     refine ⟨rfl,?_⟩
     conv=>whnf
     refine ⟨by show 1 ≤ 4294967296; omega,?_⟩
     conv=>whnf
     refine loop_unroll ?_
     conv=>whnf
     refine ⟨_,hpa _,?_⟩
     conv=>whnf
     refine ⟨_,(hw wq).frozen rfl rfl rfl rfl,?_⟩
     conv=>whnf
     refine ⟨_,hkf _ _,?_⟩
     conv=>whnf
     exact fin_int (by rw [g1]; rfl)
   | [],hk,_=>simp [kidsN] at hk
   | _ :: _ :: _,hk,_=>simp [kidsN] at hk; omega
  ·match kids,hlen,hih with
   | [q],_,hih=>
    have hq:=hih q (by simp)
    have hw:=fun w=>mapWide_r hp n test cells a b keys agg c [q] w [] hsc
    have hP : wideP kf6 ws (.mk 3 n test cells a b keys agg c [q]) = if wideP kf6 ws q == -1 then -1 else kf6 (partWide (.mk 3 n test cells a b keys agg c [q]) [wideP kf6 ws q]):=by
     rw [wideP,if_pos g0]; simp only [widesP]; cases (wideP kf6 ws q == -1) <;> rfl
    rw [hP]
    clear hih hP
    generalize wideP kf6 ws q = wq at *
    obtain ⟨kind',n',test',cells',a',b',keys',agg',c',kids'⟩:=q
    conv=>whnf
    refine loop_unroll ?_
    conv=>whnf
    refine ⟨_,rfl,by omega,rfl,?_⟩
    conv=>whnf
    refine ⟨_,hq _,?_⟩
    conv=>whnf
    refine bsel_intro (fun g1=>?_) (fun g1=>?_)
    ·conv=>whnf
     exact fin_int (by rw [g1]; rfl)
    ·conv=>whnf
     refine ⟨trivial,?_⟩
     conv=>whnf
     refine ⟨rfl,?_⟩
     conv=>whnf
     refine ⟨by show 1 ≤ 4294967296; omega,?_⟩
     conv=>whnf
     refine loop_unroll ?_
     conv=>whnf
     refine ⟨_,hpa _,?_⟩
     conv=>whnf
     refine ⟨_,(hw wq).frozen rfl rfl rfl rfl,?_⟩
     conv=>whnf
     refine ⟨_,hkf _ _,?_⟩
     conv=>whnf
     exact fin_int (by rw [g1]; rfl)
   | [],hk,_=>simp [kidsN] at hk
   | _ :: _ :: _,hk,_=>simp [kidsN] at hk; omega
  ·match kids,hlen,hih with
   | [q,q2],_,hih=>
    have hq:=hih q (by simp)
    have hq2:=hih q2 (by simp)
    have hw:=fun w v=>joinWide_r hp n test cells a b keys agg c [q,q2] w v []
    have hP : wideP kf6 ws (.mk 4 n test cells a b keys agg c [q,q2]) = if wideP kf6 ws q == -1 then -1 else if wideP kf6 ws q2 == -1 then -1 else kf6 (partWide (.mk 4 n test cells a b keys agg c [q,q2]) [wideP kf6 ws q,wideP kf6 ws q2]):=by
     rw [wideP,if_pos g0]; simp only [widesP]; cases (wideP kf6 ws q == -1) <;> cases (wideP kf6 ws q2 == -1) <;> rfl
    rw [hP]
    clear hih hP
    generalize wideP kf6 ws q = wq at *
    generalize wideP kf6 ws q2 = wq2 at *
    obtain ⟨kind',n',test',cells',a',b',keys',agg',c',kids'⟩:=q
    obtain ⟨kind2,n2,test2,cells2,a2,b2,keys2,agg2,c2,kids2⟩:=q2
    conv=>whnf
    refine loop_unroll ?_
    conv=>whnf
    refine ⟨_,rfl,by omega,rfl,?_⟩
    conv=>whnf
    refine ⟨_,hq _,?_⟩
    conv=>whnf
    refine bsel_intro (fun g1=>?_) (fun g1=>?_)
    ·conv=>whnf
     exact fin_int (by rw [g1]; rfl)
    ·conv=>whnf
     refine ⟨trivial,?_⟩
     conv=>whnf
     refine ⟨rfl,?_⟩
     conv=>whnf
     refine ⟨by show 1 ≤ 4294967296; omega,?_⟩
     conv=>whnf
     refine loop_unroll ?_
     conv=>whnf
     refine ⟨_,rfl,by decide,rfl,?_⟩
     conv=>whnf
     refine ⟨_,hq2 _,?_⟩
     conv=>whnf
     refine bsel_intro (fun g2=>?_) (fun g2=>?_)
     ·conv=>whnf
      exact fin_int (by rw [g1,g2]; rfl)
     ·conv=>whnf
      refine ⟨trivial,?_⟩
      conv=>whnf
      refine ⟨rfl,?_⟩
      conv=>whnf
      refine ⟨rfl,rfl,by show 1 ≤ 1; omega,?_⟩
      conv=>whnf
      refine ⟨by show 1 + 1 ≤ 4294967296; omega,?_⟩
      conv=>whnf
      refine loop_unroll ?_
      conv=>whnf
      refine ⟨_,hpa _,?_⟩
      conv=>whnf
      refine ⟨_,(hw wq wq2).frozen rfl rfl rfl rfl,?_⟩
      conv=>whnf
      refine ⟨_,hkf _ _,?_⟩
      conv=>whnf
      exact fin_int (by rw [g1,g2]; rfl)
   | [],hk,_=>simp [kidsN] at hk
   | [_],hk,_=>simp [kidsN] at hk
   | _ :: _ :: _ :: _,hk,_=>simp [kidsN] at hk; omega
  ·match kids,hlen,hih with
   | [q,q2],_,hih=>
    have hq:=hih q (by simp)
    have hq2:=hih q2 (by simp)
    have hw:=fun w v=>bothWide_r hp n test cells a b keys agg c [q,q2] w v []
    have hP : wideP kf6 ws (.mk 5 n test cells a b keys agg c [q,q2]) = if wideP kf6 ws q == -1 then -1 else if wideP kf6 ws q2 == -1 then -1 else kf6 (partWide (.mk 5 n test cells a b keys agg c [q,q2]) [wideP kf6 ws q,wideP kf6 ws q2]):=by
     rw [wideP,if_pos g0]; simp only [widesP]; cases (wideP kf6 ws q == -1) <;> cases (wideP kf6 ws q2 == -1) <;> rfl
    rw [hP]
    clear hih hP
    generalize wideP kf6 ws q = wq at *
    generalize wideP kf6 ws q2 = wq2 at *
    obtain ⟨kind',n',test',cells',a',b',keys',agg',c',kids'⟩:=q
    obtain ⟨kind2,n2,test2,cells2,a2,b2,keys2,agg2,c2,kids2⟩:=q2
    conv=>whnf
    refine loop_unroll ?_
    conv=>whnf
    refine ⟨_,rfl,by omega,rfl,?_⟩
    conv=>whnf
    refine ⟨_,hq _,?_⟩
    conv=>whnf
    refine bsel_intro (fun g1=>?_) (fun g1=>?_)
    ·conv=>whnf
     exact fin_int (by rw [g1]; rfl)
    ·conv=>whnf
     refine ⟨trivial,?_⟩
     conv=>whnf
     refine ⟨rfl,?_⟩
     conv=>whnf
     refine ⟨by show 1 ≤ 4294967296; omega,?_⟩
     conv=>whnf
     refine loop_unroll ?_
     conv=>whnf
     refine ⟨_,rfl,by decide,rfl,?_⟩
     conv=>whnf
     refine ⟨_,hq2 _,?_⟩
     conv=>whnf
     refine bsel_intro (fun g2=>?_) (fun g2=>?_)
     ·conv=>whnf
      exact fin_int (by rw [g1,g2]; rfl)
     ·conv=>whnf
      refine ⟨trivial,?_⟩
      conv=>whnf
      refine ⟨rfl,?_⟩
      conv=>whnf
      refine ⟨rfl,rfl,by show 1 ≤ 1; omega,?_⟩
      conv=>whnf
      refine ⟨by show 1 + 1 ≤ 4294967296; omega,?_⟩
      conv=>whnf
      refine loop_unroll ?_
      conv=>whnf
      refine ⟨_,hpa _,?_⟩
      conv=>whnf
      refine ⟨_,(hw wq wq2).frozen rfl rfl rfl rfl,?_⟩
      conv=>whnf
      refine ⟨_,hkf _ _,?_⟩
      conv=>whnf
      exact fin_int (by rw [g1,g2]; rfl)
   | [],hk,_=>simp [kidsN] at hk
   | [_],hk,_=>simp [kidsN] at hk
   | _ :: _ :: _ :: _,hk,_=>simp [kidsN] at hk; omega
  ·match kids,hlen,hih with
   | [q],_,hih=>
    have hq:=hih q (by simp)
    have hw:=fun w=>onceWide_r hp n test cells a b keys agg c [q] w [] 
    have hP : wideP kf6 ws (.mk 6 n test cells a b keys agg c [q]) = if wideP kf6 ws q == -1 then -1 else kf6 (partWide (.mk 6 n test cells a b keys agg c [q]) [wideP kf6 ws q]):=by
     rw [wideP,if_pos g0]; simp only [widesP]; cases (wideP kf6 ws q == -1) <;> rfl
    rw [hP]
    clear hih hP
    generalize wideP kf6 ws q = wq at *
    obtain ⟨kind',n',test',cells',a',b',keys',agg',c',kids'⟩:=q
    conv=>whnf
    refine loop_unroll ?_
    conv=>whnf
    refine ⟨_,rfl,by omega,rfl,?_⟩
    conv=>whnf
    refine ⟨_,hq _,?_⟩
    conv=>whnf
    refine bsel_intro (fun g1=>?_) (fun g1=>?_)
    ·conv=>whnf
     exact fin_int (by rw [g1]; rfl)
    ·conv=>whnf
     refine ⟨trivial,?_⟩
     conv=>whnf
     refine ⟨rfl,?_⟩
     conv=>whnf
     refine ⟨by show 1 ≤ 4294967296; omega,?_⟩
     conv=>whnf
     refine loop_unroll ?_
     conv=>whnf
     refine ⟨_,hpa _,?_⟩
     conv=>whnf
     refine ⟨_,(hw wq).frozen rfl rfl rfl rfl,?_⟩
     conv=>whnf
     refine ⟨_,hkf _ _,?_⟩
     conv=>whnf
     exact fin_int (by rw [g1]; rfl)
   | [],hk,_=>simp [kidsN] at hk
   | _ :: _ :: _,hk,_=>simp [kidsN] at hk; omega
  ·match kids,hlen,hih with
   | [q],_,hih=>
    have hq:=hih q (by simp)
    have hw:=fun w=>groupWide_r hp n test cells a b keys agg c [q] w [] hsk
    have hP : wideP kf6 ws (.mk 7 n test cells a b keys agg c [q]) = if wideP kf6 ws q == -1 then -1 else kf6 (partWide (.mk 7 n test cells a b keys agg c [q]) [wideP kf6 ws q]):=by
     rw [wideP,if_pos g0]; simp only [widesP]; cases (wideP kf6 ws q == -1) <;> rfl
    rw [hP]
    clear hih hP
    generalize wideP kf6 ws q = wq at *
    obtain ⟨kind',n',test',cells',a',b',keys',agg',c',kids'⟩:=q
    conv=>whnf
    refine loop_unroll ?_
    conv=>whnf
    refine ⟨_,rfl,by omega,rfl,?_⟩
    conv=>whnf
    refine ⟨_,hq _,?_⟩
    conv=>whnf
    refine bsel_intro (fun g1=>?_) (fun g1=>?_)
    ·conv=>whnf
     exact fin_int (by rw [g1]; rfl)
    ·conv=>whnf
     refine ⟨trivial,?_⟩
     conv=>whnf
     refine ⟨rfl,?_⟩
     conv=>whnf
     refine ⟨by show 1 ≤ 4294967296; omega,?_⟩
     conv=>whnf
     refine loop_unroll ?_
     conv=>whnf
     refine ⟨_,hpa _,?_⟩
     conv=>whnf
     refine ⟨_,(hw wq).frozen rfl rfl rfl rfl,?_⟩
     conv=>whnf
     refine ⟨_,hkf _ _,?_⟩
     conv=>whnf
     exact fin_int (by rw [g1]; rfl)
   | [],hk,_=>simp [kidsN] at hk
   | _ :: _ :: _,hk,_=>simp [kidsN] at hk; omega
  ·exfalso
   simp only [beq_eq_false_iff_ne,ne_eq] at *
   simp [kidsN,h1,h2,h3,h4,h5,h6,h7] at hlen
   try omega
 ·conv=>whnf
  exact fin_int (by rw [wideP,if_neg (by rw [g0]; simp)])
end Go.Proofs.YtncgofhhnhebjaaGreat

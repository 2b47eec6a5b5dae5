/- How wide plans are over tables: the reference's. -/
import Derived.Test.YtncgofhhnhebjaaGreatGH32
import Derived.Test.YtncgofhhnhebjaaGreatGSEe
set_option linter.unusedVariables false
set_option linter.unusedSimpArgs false
/- How wide plans are over tables: the reference's. -/
set_option maxHeartbeats 4000000
namespace Go.Proofs.YtncgofhhnhebjaaGreat
open Go Go.Am
variable {pr : Prims} (hp : Okp pr)
set_option maxRecDepth 100000
mutual
def wide4 (ws : List Int) : Nat → Plan → Int
 | 0,_=>-1
 | d + 1,.mk kind n test cells a b keys agg c kids=>
  if shaped (.mk kind n test cells a b keys agg c kids) then
   (if kind = 1 then kfW (partWide (.mk kind n test cells a b keys agg c kids) ws)
   else match wides4 ws d kids with
    | none=>-1
    | some l=>kfW (partWide (.mk kind n test cells a b keys agg c kids) l))
  else -1
def wides4 (ws : List Int) : Nat → List Plan → Option (List Int)
 | _,[]=>some []
 | d,p :: ps=>if wide4 ws d p < 1 then none else (wides4 ws d ps).map (wide4 ws d p :: ·)
end
theorem fin_kfW {ok : Bool} {w : Int} {x : Int} (h : x = if ok then w else -1) : kfW x = if !ok || (decide (w < 1) || decide (w > 6)) then -1 else w:=by
 subst h
 unfold kfW
 cases ok with
 | false=>rfl
 | true=>
  by_cases h1 : w < 1
  ·have : ¬ 1 ≤ w:=by omega
   simp [h1,this]
  ·have h1' : 1 ≤ w:=by omega
   by_cases h2 : w > 6
   ·have : ¬ w ≤ 6:=by omega
    simp [h1,h2,this]
   ·have h2' : w ≤ 6:=by omega
    simp [h1,h2,h1',h2']
theorem len1 {α : Type} {l : List α} (h : l.length = 1) : ∃ q,l = [q]:=by
 match l,h with
 | [q],_=>exact ⟨q,rfl⟩
theorem len2 {α : Type} {l : List α} (h : l.length = 2) : ∃ q r,l = [q,r]:=by
 match l,h with
 | [q,r],_=>exact ⟨q,r,rfl⟩
theorem wide4_one {ws : List Int} {d : Nat} {kind n : Int} {test : Test} {cells : List Cell} {a b : Int} {keys : List Int} {agg c : Int} {q : Plan} (hsh : shaped (.mk kind n test cells a b keys agg c [q]) = true) (hk : kind ≠ 1) :
  wide4 ws (d + 1) (.mk kind n test cells a b keys agg c [q]) = if wide4 ws d q < 1 then -1 else kfW (partWide (.mk kind n test cells a b keys agg c [q]) [wide4 ws d q]):=by
   rw [wide4,if_pos hsh,if_neg hk]
   simp only [wides4]
   by_cases h : wide4 ws d q < 1
   ·simp [h]
   ·simp [h]
theorem wide4_two {ws : List Int} {d : Nat} {kind n : Int} {test : Test} {cells : List Cell} {a b : Int} {keys : List Int} {agg c : Int} {q r : Plan} (hsh : shaped (.mk kind n test cells a b keys agg c [q,r]) = true) (hk : kind ≠ 1) :
  wide4 ws (d + 1) (.mk kind n test cells a b keys agg c [q,r]) = if wide4 ws d q < 1 then -1 else if wide4 ws d r < 1 then -1 else kfW (partWide (.mk kind n test cells a b keys agg c [q,r]) [wide4 ws d q,wide4 ws d r]):=by
   rw [wide4,if_pos hsh,if_neg hk]
   simp only [wides4]
   by_cases h : wide4 ws d q < 1
   ·simp [h]
   ·by_cases h2 : wide4 ws d r < 1
    ·simp [h,h2]
    ·simp [h,h2]
theorem wrapk {l : Nat} (h : l ≤ 1048576) : IntKind.i64.wrap ((l : Int) + 1) = (l : Int) + 1:=by rw [IntKind.wrap_i64]; omega
def ok4 : Plan → List Int → Bool × Int
 | .mk kind n test cells a b keys agg c _,ws=>
  if kind = 1 then (decide (0 ≤ n) && (decide (n < ws.length) && decide (n < 3)),nth ws n.toNat)
  else if kind = 2 then (testOk test (nth ws 0),nth ws 0)
  else if kind = 3 then (cellsOk cells (nth ws 0),cells.length)
  else if kind = 4 then (col a (nth ws 0) && col b (nth ws 1),IntKind.i64.wrap (nth ws 0 + nth ws 1))
  else if kind = 5 then (nth ws 0 == nth ws 1,nth ws 0)
  else if kind = 6 then (true,nth ws 0)
  else (keysOk keys (nth ws 0) && (decide (0 ≤ agg) && (decide (agg ≤ 3) && col c (nth ws 0))),(keys.length : Int) + 1)
theorem ok4_eq (p : Plan) (ws : List Int) (hw : ws.length ≤ 3) : partWide p ws = if (ok4 p ws).1 then (ok4 p ws).2 else -1:=by
 obtain ⟨kind,n,test,cells,a,b,keys,agg,c,kids⟩:=p
 have e1 : (decide (0 ≤ n) && decide (n < ws.length)) = (decide (0 ≤ n) && (decide (n < ws.length) && decide (n < 3))):=by
  by_cases h : n < ws.length
  ·have : n < 3:=by omega
   simp [h,this]
  ·simp [h]
 rcases kind_cases kind with rfl | rfl | rfl | rfl | rfl | rfl | rfl | ⟨h1,h2,h3,h4,h5,h6,h7⟩
 ·show (if decide (0 ≤ n) && decide (n < ws.length) then nth ws n.toNat else -1) = if decide (0 ≤ n) && (decide (n < ws.length) && decide (n < 3)) then nth ws n.toNat else -1
  rw [e1]
 ·rfl
 ·show (if decide (1 ≤ cells.length) && (decide (cells.length ≤ 6) && cells.all (fun c=>cellOk c (nth ws 0))) then (cells.length : Int) else -1) = if cellsOk cells (nth ws 0) then (cells.length : Int) else -1
  have : (decide (1 ≤ cells.length) && (decide (cells.length ≤ 6) && cells.all (fun c=>cellOk c (nth ws 0)))) = cellsOk cells (nth ws 0):=by
   unfold cellsOk
   rw [Bool.eq_iff_iff]
   simp only [Bool.and_eq_true]
   exact ⟨fun h=>⟨h.2.2,h.1,h.2.1⟩,fun h=>⟨h.2.1,h.2.2,h.1⟩⟩
  rw [this]
 ·rfl
 ·rfl
 ·rfl
 ·show (if decide (0 ≤ agg) && (decide (agg ≤ 3) && (keysOk keys (nth ws 0) && col c (nth ws 0))) then (keys.length : Int) + 1 else -1) = if keysOk keys (nth ws 0) && (decide (0 ≤ agg) && (decide (agg ≤ 3) && col c (nth ws 0))) then (keys.length : Int) + 1 else -1
  have : (decide (0 ≤ agg) && (decide (agg ≤ 3) && (keysOk keys (nth ws 0) && col c (nth ws 0)))) = (keysOk keys (nth ws 0) && (decide (0 ≤ agg) && (decide (agg ≤ 3) && col c (nth ws 0)))):=by
   rw [Bool.eq_iff_iff]
   simp only [Bool.and_eq_true]
   exact ⟨fun h=>⟨h.2.2.1,h.1,h.2.1,h.2.2.2⟩,fun h=>⟨h.2.1,h.2.2.1,h.1,h.2.2.2⟩⟩
  rw [this]
 ·simp only [beq_eq_false_iff_ne,ne_eq] at h1 h2 h3 h4 h5 h6 h7
  have : (decide (0 ≤ agg) && (decide (agg ≤ 3) && (keysOk keys (nth ws 0) && col c (nth ws 0)))) = (keysOk keys (nth ws 0) && (decide (0 ≤ agg) && (decide (agg ≤ 3) && col c (nth ws 0)))):=by
   rw [Bool.eq_iff_iff]
   simp only [Bool.and_eq_true]
   exact ⟨fun h=>⟨h.2.2.1,h.1,h.2.1,h.2.2.2⟩,fun h=>⟨h.2.1,h.2.2.1,h.1,h.2.2.2⟩⟩
  simp only [partWide,ok4,h1,h2,h3,h4,h5,h6,if_false,this]
theorem kf_ok4 (p : Plan) (ws : List Int) (hw : ws.length ≤ 3) : kfW (partWide p ws) = if !(ok4 p ws).1 || (decide ((ok4 p ws).2 < 1) || decide ((ok4 p ws).2 > 6)) then -1 else (ok4 p ws).2:=fin_kfW (ok4_eq p ws hw)
theorem l4Wide1_r (hp : Okp pr) (ws : List Int) (hws : ws.length ≤ 3) (d : Nat) (hd : d + 1 ≤ 6) (n : Int) (test : Test) (cells : List Cell) (a b : Int) (keys : List Int) (agg c : Int) (hc : clean (.mk 1 n test cells a b keys agg c []) = true) :
  Ret pr 127 [(Plan.mk 1 n test cells a b keys agg c []).enc,.sl (ws.map i64),i64 ((d + 1 : Nat) : Int)] (i64 (kfW (partWide (.mk 1 n test cells a b keys agg c []) ws))):=by
   rw [kf_ok4 _ _ hws]
   have hkids:=l4Kids_r hp 1
   have hcl:=l4Clean_r hp (.mk 1 n test cells a b keys agg c [])
   refine retg hp rfl rfl ?_
   have S : Sepa [] []:=Sepa.nil []
   conv=>whnf
   intro k1 a1 hk1 hh1
   replace S:=S.alloc hk1 hh1
   clear hk1 hh1
   conv=>whnf
   refine .inl ⟨_,S.row 0 rfl,rfl,?_⟩
   conv=>whnf
   refine ⟨_,hkids _,?_⟩
   conv=>whnf
   refine .inl ⟨_,S.row 0 rfl,rfl,?_⟩
   conv=>whnf
   conv=>whnf
   refine .inl ⟨_,S.row 0 rfl,rfl,?_⟩
   conv=>whnf
   refine ⟨_,hcl _,?_⟩
   conv=>whnf
   refine bsel_true hc ?_
   clear hcl hkids hc
   conv=>whnf
   intro k2 a2 hk2 hh2
   replace S:=S.alloc hk2 hh2
   clear hk2 hh2
   conv=>whnf
   have S : Sepa a2 [.row k2 (.arr 1 []),.row k1 (.box (Plan.mk 1 n test cells a b keys agg c []).enc)]:=S
   refine loopG1 ?_
   conv=>whnf
   refine .inl ⟨_,S.row 1 rfl,rfl,?_⟩
   conv=>whnf
   refine .inl ⟨_,S.row 1 rfl,rfl,?_⟩
   conv=>whnf
   iterate 18
    all_goals (try (conv=>whnf))
    all_goals (first | (refine ⟨_,by simpa using hidx,by omega,rfl,?_⟩) | (intro ka_ ha_ hk_ hh_; replace S:=S.alloc hk_ hh_) | (refine .inl ⟨_,S.row 0 rfl,rfl,?_⟩) | (refine .inl ⟨_,S.row 1 rfl,rfl,?_⟩) | (refine ⟨_,rfl,rfl,rfl,.inl ⟨_,S.row 0 rfl,rfl,?_⟩⟩; (conv=>whnf); intro ha_ hh_; replace S:=S.set 0 rfl hh_; dsimp only [List.set] at S) | (refine ⟨_,rfl,rfl,rfl,.inl ⟨_,S.row 1 rfl,rfl,?_⟩⟩; (conv=>whnf); intro ha_ hh_; replace S:=S.set 1 rfl hh_; dsimp only [List.set] at S) | (refine bsel_intro (fun hb=>?_) (fun hb=>?_)) | skip)
   all_goals (try (conv=>whnf))
   all_goals first
    | (refine g_int ?_; clear S; simp only [ok4,nth,if_true]; simp_all; done)
    | skip
   all_goals
    rename_i b1 b2
    have h1 : 0 ≤ n:=by simpa using b1
    have h2 : n < ws.length:=by simpa using b2
    have h3 : n < 3:=by simpa using hb
    have hge : (ws.map i64)[n.toNat]? = some (i64 (nth ws n.toNat)):=by
     have : n.toNat < ws.length:=by omega
     simp [nth,this]
    refine ⟨_,hge,h1,rfl,?_⟩
    have hv : (ok4 (.mk 1 n test cells a b keys agg c []) ws) = (true,nth ws n.toNat):=by simp [ok4,h1,h2,h3]
    rw [hv]
    generalize nth ws n.toNat = v at *
    iterate 8
     all_goals (try (conv=>whnf))
     all_goals (first | (intro ka_ ha_ hk_ hh_; replace S:=S.alloc hk_ hh_) | (refine .inl ⟨_,S.row 0 rfl,rfl,?_⟩) | (refine .inl ⟨_,S.row 1 rfl,rfl,?_⟩) | (refine ⟨_,rfl,rfl,rfl,.inl ⟨_,S.row 0 rfl,rfl,?_⟩⟩; (conv=>whnf); intro ha_ hh_; replace S:=S.set 0 rfl hh_; dsimp only [List.set] at S) | (refine ⟨_,rfl,rfl,rfl,.inl ⟨_,S.row 1 rfl,rfl,?_⟩⟩; (conv=>whnf); intro ha_ hh_; replace S:=S.set 1 rfl hh_; dsimp only [List.set] at S) | (refine bsel_intro (fun hb=>?_) (fun hb=>?_)) | skip)
    all_goals (try (conv=>whnf))
    all_goals (refine g_int ?_; clear S; simp_all; try omega)
theorem l4Wide2_r (hp : Okp pr) (ws : List Int) (hws : ws.length ≤ 3) (d : Nat) (hd : d + 1 ≤ 6) (n : Int) (test : Test) (cells : List Cell) (a b : Int) (keys : List Int) (agg c : Int) (q : Plan) (wq : Int) (hc : clean (.mk 2 n test cells a b keys agg c [q]) = true) (hcl' : cells.length ≤ 1048576) (hkl : keys.length ≤ 1048576)
  (hq : Ret pr 127 [q.enc,.sl (ws.map i64),.int .i64 (IntKind.i64.wrap (((d + 1 : Nat) : Int) - 1))] (i64 wq)) :
  Ret pr 127 [(Plan.mk 2 n test cells a b keys agg c [q]).enc,.sl (ws.map i64),i64 ((d + 1 : Nat) : Int)] (i64 (if wq < 1 then -1 else kfW (partWide (.mk 2 n test cells a b keys agg c [q]) [wq]))):=by
   rw [kf_ok4 _ _ (by simp)]
   have hto:=sTestOk_r hp test
   have hce:=fun w=>l4Cells_r hp cells w hcl'
   have hke:=fun w=>l4Keys_r hp keys w hkl
   have hco:=fun n w=>l3Col_r hp n w
   obtain ⟨kind',n',test',cells',a',b',keys',agg',c',kids'⟩:=q
   have hkids:=l4Kids_r hp 2
   have hcl:=l4Clean_r hp (.mk 2 n test cells a b keys agg c [Plan.mk kind' n' test' cells' a' b' keys' agg' c' kids'])
   refine retg hp rfl rfl ?_
   have S : Sepa [] []:=Sepa.nil []
   conv=>whnf
   intro k1 a1 hk1 hh1
   replace S:=S.alloc hk1 hh1
   clear hk1 hh1
   conv=>whnf
   refine .inl ⟨_,S.row 0 rfl,rfl,?_⟩
   conv=>whnf
   refine ⟨_,hkids _,?_⟩
   conv=>whnf
   refine .inl ⟨_,S.row 0 rfl,rfl,?_⟩
   conv=>whnf
   conv=>whnf
   refine .inl ⟨_,S.row 0 rfl,rfl,?_⟩
   conv=>whnf
   refine ⟨_,hcl _,?_⟩
   conv=>whnf
   refine bsel_true hc ?_
   clear hcl hkids hc
   conv=>whnf
   intro k2 a2 hk2 hh2
   replace S:=S.alloc hk2 hh2
   clear hk2 hh2
   conv=>whnf
   have S : Sepa a2 [.row k2 (.arr 1 []),.row k1 (.box (Plan.mk 2 n test cells a b keys agg c [Plan.mk kind' n' test' cells' a' b' keys' agg' c' kids']).enc)]:=S
   refine loopG1 ?_
   conv=>whnf
   refine .inl ⟨_,S.row 1 rfl,rfl,?_⟩
   conv=>whnf
   refine .inl ⟨_,S.row 1 rfl,rfl,?_⟩
   conv=>whnf
   refine ⟨_,rfl,by omega,rfl,?_⟩
   conv=>whnf
   refine ⟨_,hq _,?_⟩
   conv=>whnf
   refine bsel_intro (fun g2=>?_) (fun g2=>?_)
   ·conv=>whnf
    exact g_int (by simp at g2; simp [g2])
   ·have g2' : ¬ wq < 1:=by simpa using g2
    rw [if_neg g2']
    conv=>whnf
    intro kv_ hv_ hkv_ hhv_
    replace S:=S.alloc hkv_ hhv_
    conv=>whnf
    refine ⟨trivial,?_⟩
    conv=>whnf
    refine ⟨[_],elems_row1 (S.row 0 rfl),elem_cell rfl rfl,?_⟩
    replace S:=S.drop 0
    dsimp only [List.eraseIdx] at S
    refine AppR_cut S (Nat.le_refl _) (by simp [sizeLim]) fun k3 a3 S3=>?_
    have S4 : Sepa a3 [.row k3 (.arr 1 [i64 wq]),.row k1 (.box (Plan.mk 2 n test cells a b keys agg c [Plan.mk kind' n' test' cells' a' b' keys' agg' c' kids']).enc)]:=S3
    clear S3 g2 hq S
    have S:=S4
    clear S4
    conv=>whnf
    refine loopG1 ?_
    iterate 22
     all_goals (try (conv=>whnf))
     all_goals (first | (refine ⟨_,S.row 0 rfl,⟨by decide,by simp⟩,?_⟩) | (refine .inr ⟨_,_,_,S.row 0 rfl,rfl,?_⟩) | (intro ka_ ha_ hk_ hh_; replace S:=S.alloc hk_ hh_) | (refine .inl ⟨_,S.row 0 rfl,rfl,?_⟩) | (refine .inl ⟨_,S.row 1 rfl,rfl,?_⟩) | (refine ⟨_,rfl,rfl,rfl,.inl ⟨_,S.row 0 rfl,rfl,?_⟩⟩; (conv=>whnf); intro ha_ hh_; replace S:=S.set 0 rfl hh_; dsimp only [List.set] at S) | (refine ⟨_,rfl,rfl,rfl,.inl ⟨_,S.row 1 rfl,rfl,?_⟩⟩; (conv=>whnf); intro ha_ hh_; replace S:=S.set 1 rfl hh_; dsimp only [List.set] at S) | (refine bsel_intro (fun hb=>?_) (fun hb=>?_)) | (refine ⟨_,hto _ _,?_⟩) | skip)
    all_goals (try (conv=>whnf))
    all_goals (refine g_int ?_; clear S hto hce hke hco; simp only [ok4,nth,Int.reduceEq,if_true,if_false,List.getElem?_cons_zero,Option.getD_some]; simp_all; try (have hwk:=wrapk hkl; omega))
theorem l4Wide3_r (hp : Okp pr) (ws : List Int) (hws : ws.length ≤ 3) (d : Nat) (hd : d + 1 ≤ 6) (n : Int) (test : Test) (cells : List Cell) (a b : Int) (keys : List Int) (agg c : Int) (q : Plan) (wq : Int) (hc : clean (.mk 3 n test cells a b keys agg c [q]) = true) (hcl' : cells.length ≤ 1048576) (hkl : keys.length ≤ 1048576)
  (hq : Ret pr 127 [q.enc,.sl (ws.map i64),.int .i64 (IntKind.i64.wrap (((d + 1 : Nat) : Int) - 1))] (i64 wq)) :
  Ret pr 127 [(Plan.mk 3 n test cells a b keys agg c [q]).enc,.sl (ws.map i64),i64 ((d + 1 : Nat) : Int)] (i64 (if wq < 1 then -1 else kfW (partWide (.mk 3 n test cells a b keys agg c [q]) [wq]))):=by
   rw [kf_ok4 _ _ (by simp)]
   have hto:=sTestOk_r hp test
   have hce:=fun w=>l4Cells_r hp cells w hcl'
   have hke:=fun w=>l4Keys_r hp keys w hkl
   have hco:=fun n w=>l3Col_r hp n w
   obtain ⟨kind',n',test',cells',a',b',keys',agg',c',kids'⟩:=q
   have hkids:=l4Kids_r hp 3
   have hcl:=l4Clean_r hp (.mk 3 n test cells a b keys agg c [Plan.mk kind' n' test' cells' a' b' keys' agg' c' kids'])
   refine retg hp rfl rfl ?_
   have S : Sepa [] []:=Sepa.nil []
   conv=>whnf
   intro k1 a1 hk1 hh1
   replace S:=S.alloc hk1 hh1
   clear hk1 hh1
   conv=>whnf
   refine .inl ⟨_,S.row 0 rfl,rfl,?_⟩
   conv=>whnf
   refine ⟨_,hkids _,?_⟩
   conv=>whnf
   refine .inl ⟨_,S.row 0 rfl,rfl,?_⟩
   conv=>whnf
   conv=>whnf
   refine .inl ⟨_,S.row 0 rfl,rfl,?_⟩
   conv=>whnf
   refine ⟨_,hcl _,?_⟩
   conv=>whnf
   refine bsel_true hc ?_
   clear hcl hkids hc
   conv=>whnf
   intro k2 a2 hk2 hh2
   replace S:=S.alloc hk2 hh2
   clear hk2 hh2
   conv=>whnf
   have S : Sepa a2 [.row k2 (.arr 1 []),.row k1 (.box (Plan.mk 3 n test cells a b keys agg c [Plan.mk kind' n' test' cells' a' b' keys' agg' c' kids']).enc)]:=S
   refine loopG1 ?_
   conv=>whnf
   refine .inl ⟨_,S.row 1 rfl,rfl,?_⟩
   conv=>whnf
   refine .inl ⟨_,S.row 1 rfl,rfl,?_⟩
   conv=>whnf
   refine ⟨_,rfl,by omega,rfl,?_⟩
   conv=>whnf
   refine ⟨_,hq _,?_⟩
   conv=>whnf
   refine bsel_intro (fun g2=>?_) (fun g2=>?_)
   ·conv=>whnf
    exact g_int (by simp at g2; simp [g2])
   ·have g2' : ¬ wq < 1:=by simpa using g2
    rw [if_neg g2']
    conv=>whnf
    intro kv_ hv_ hkv_ hhv_
    replace S:=S.alloc hkv_ hhv_
    conv=>whnf
    refine ⟨trivial,?_⟩
    conv=>whnf
    refine ⟨[_],elems_row1 (S.row 0 rfl),elem_cell rfl rfl,?_⟩
    replace S:=S.drop 0
    dsimp only [List.eraseIdx] at S
    refine AppR_cut S (Nat.le_refl _) (by simp [sizeLim]) fun k3 a3 S3=>?_
    have S4 : Sepa a3 [.row k3 (.arr 1 [i64 wq]),.row k1 (.box (Plan.mk 3 n test cells a b keys agg c [Plan.mk kind' n' test' cells' a' b' keys' agg' c' kids']).enc)]:=S3
    clear S3 g2 hq S
    have S:=S4
    clear S4
    conv=>whnf
    refine loopG1 ?_
    iterate 22
     all_goals (try (conv=>whnf))
     all_goals (first | (refine ⟨_,S.row 0 rfl,⟨by decide,by simp⟩,?_⟩) | (refine .inr ⟨_,_,_,S.row 0 rfl,rfl,?_⟩) | (intro ka_ ha_ hk_ hh_; replace S:=S.alloc hk_ hh_) | (refine .inl ⟨_,S.row 0 rfl,rfl,?_⟩) | (refine .inl ⟨_,S.row 1 rfl,rfl,?_⟩) | (refine ⟨_,rfl,rfl,rfl,.inl ⟨_,S.row 0 rfl,rfl,?_⟩⟩; (conv=>whnf); intro ha_ hh_; replace S:=S.set 0 rfl hh_; dsimp only [List.set] at S) | (refine ⟨_,rfl,rfl,rfl,.inl ⟨_,S.row 1 rfl,rfl,?_⟩⟩; (conv=>whnf); intro ha_ hh_; replace S:=S.set 1 rfl hh_; dsimp only [List.set] at S) | (refine bsel_intro (fun hb=>?_) (fun hb=>?_)) | (refine ⟨_,hce _ _,?_⟩) | skip)
    all_goals (try (conv=>whnf))
    all_goals (refine g_int ?_; clear S hto hce hke hco; simp only [ok4,nth,Int.reduceEq,if_true,if_false,List.getElem?_cons_zero,Option.getD_some]; simp_all; try (have hwk:=wrapk hkl; omega))
theorem l4Wide6_r (hp : Okp pr) (ws : List Int) (hws : ws.length ≤ 3) (d : Nat) (hd : d + 1 ≤ 6) (n : Int) (test : Test) (cells : List Cell) (a b : Int) (keys : List Int) (agg c : Int) (q : Plan) (wq : Int) (hc : clean (.mk 6 n test cells a b keys agg c [q]) = true) (hcl' : cells.length ≤ 1048576) (hkl : keys.length ≤ 1048576)
  (hq : Ret pr 127 [q.enc,.sl (ws.map i64),.int .i64 (IntKind.i64.wrap (((d + 1 : Nat) : Int) - 1))] (i64 wq)) :
  Ret pr 127 [(Plan.mk 6 n test cells a b keys agg c [q]).enc,.sl (ws.map i64),i64 ((d + 1 : Nat) : Int)] (i64 (if wq < 1 then -1 else kfW (partWide (.mk 6 n test cells a b keys agg c [q]) [wq]))):=by
   rw [kf_ok4 _ _ (by simp)]
   have hto:=sTestOk_r hp test
   have hce:=fun w=>l4Cells_r hp cells w hcl'
   have hke:=fun w=>l4Keys_r hp keys w hkl
   have hco:=fun n w=>l3Col_r hp n w
   obtain ⟨kind',n',test',cells',a',b',keys',agg',c',kids'⟩:=q
   have hkids:=l4Kids_r hp 6
   have hcl:=l4Clean_r hp (.mk 6 n test cells a b keys agg c [Plan.mk kind' n' test' cells' a' b' keys' agg' c' kids'])
   refine retg hp rfl rfl ?_
   have S : Sepa [] []:=Sepa.nil []
   conv=>whnf
   intro k1 a1 hk1 hh1
   replace S:=S.alloc hk1 hh1
   clear hk1 hh1
   conv=>whnf
   refine .inl ⟨_,S.row 0 rfl,rfl,?_⟩
   conv=>whnf
   refine ⟨_,hkids _,?_⟩
   conv=>whnf
   refine .inl ⟨_,S.row 0 rfl,rfl,?_⟩
   conv=>whnf
   conv=>whnf
   refine .inl ⟨_,S.row 0 rfl,rfl,?_⟩
   conv=>whnf
   refine ⟨_,hcl _,?_⟩
   conv=>whnf
   refine bsel_true hc ?_
   clear hcl hkids hc
   conv=>whnf
   intro k2 a2 hk2 hh2
   replace S:=S.alloc hk2 hh2
   clear hk2 hh2
   conv=>whnf
   have S : Sepa a2 [.row k2 (.arr 1 []),.row k1 (.box (Plan.mk 6 n test cells a b keys agg c [Plan.mk kind' n' test' cells' a' b' keys' agg' c' kids']).enc)]:=S
   refine loopG1 ?_
   conv=>whnf
   refine .inl ⟨_,S.row 1 rfl,rfl,?_⟩
   conv=>whnf
   refine .inl ⟨_,S.row 1 rfl,rfl,?_⟩
   conv=>whnf
   refine ⟨_,rfl,by omega,rfl,?_⟩
   conv=>whnf
   refine ⟨_,hq _,?_⟩
   conv=>whnf
   refine bsel_intro (fun g2=>?_) (fun g2=>?_)
   ·conv=>whnf
    exact g_int (by simp at g2; simp [g2])
   ·have g2' : ¬ wq < 1:=by simpa using g2
    rw [if_neg g2']
    conv=>whnf
    intro kv_ hv_ hkv_ hhv_
    replace S:=S.alloc hkv_ hhv_
    conv=>whnf
    refine ⟨trivial,?_⟩
    conv=>whnf
    refine ⟨[_],elems_row1 (S.row 0 rfl),elem_cell rfl rfl,?_⟩
    replace S:=S.drop 0
    dsimp only [List.eraseIdx] at S
    refine AppR_cut S (Nat.le_refl _) (by simp [sizeLim]) fun k3 a3 S3=>?_
    have S4 : Sepa a3 [.row k3 (.arr 1 [i64 wq]),.row k1 (.box (Plan.mk 6 n test cells a b keys agg c [Plan.mk kind' n' test' cells' a' b' keys' agg' c' kids']).enc)]:=S3
    clear S3 g2 hq S
    have S:=S4
    clear S4
    conv=>whnf
    refine loopG1 ?_
    iterate 22
     all_goals (try (conv=>whnf))
     all_goals (first | (refine ⟨_,S.row 0 rfl,⟨by decide,by simp⟩,?_⟩) | (refine .inr ⟨_,_,_,S.row 0 rfl,rfl,?_⟩) | (intro ka_ ha_ hk_ hh_; replace S:=S.alloc hk_ hh_) | (refine .inl ⟨_,S.row 0 rfl,rfl,?_⟩) | (refine .inl ⟨_,S.row 1 rfl,rfl,?_⟩) | (refine ⟨_,rfl,rfl,rfl,.inl ⟨_,S.row 0 rfl,rfl,?_⟩⟩; (conv=>whnf); intro ha_ hh_; replace S:=S.set 0 rfl hh_; dsimp only [List.set] at S) | (refine ⟨_,rfl,rfl,rfl,.inl ⟨_,S.row 1 rfl,rfl,?_⟩⟩; (conv=>whnf); intro ha_ hh_; replace S:=S.set 1 rfl hh_; dsimp only [List.set] at S) | (refine bsel_intro (fun hb=>?_) (fun hb=>?_)) | skip)
    all_goals (try (conv=>whnf))
    all_goals (refine g_int ?_; clear S hto hce hke hco; simp only [ok4,nth,Int.reduceEq,if_true,if_false,List.getElem?_cons_zero,Option.getD_some]; simp_all; try (have hwk:=wrapk hkl; omega))
theorem l4Wide7_r (hp : Okp pr) (ws : List Int) (hws : ws.length ≤ 3) (d : Nat) (hd : d + 1 ≤ 6) (n : Int) (test : Test) (cells : List Cell) (a b : Int) (keys : List Int) (agg c : Int) (q : Plan) (wq : Int) (hc : clean (.mk 7 n test cells a b keys agg c [q]) = true) (hcl' : cells.length ≤ 1048576) (hkl : keys.length ≤ 1048576)
  (hq : Ret pr 127 [q.enc,.sl (ws.map i64),.int .i64 (IntKind.i64.wrap (((d + 1 : Nat) : Int) - 1))] (i64 wq)) :
  Ret pr 127 [(Plan.mk 7 n test cells a b keys agg c [q]).enc,.sl (ws.map i64),i64 ((d + 1 : Nat) : Int)] (i64 (if wq < 1 then -1 else kfW (partWide (.mk 7 n test cells a b keys agg c [q]) [wq]))):=by
   rw [kf_ok4 _ _ (by simp)]
   have hto:=sTestOk_r hp test
   have hce:=fun w=>l4Cells_r hp cells w hcl'
   have hke:=fun w=>l4Keys_r hp keys w hkl
   have hco:=fun n w=>l3Col_r hp n w
   obtain ⟨kind',n',test',cells',a',b',keys',agg',c',kids'⟩:=q
   have hkids:=l4Kids_r hp 7
   have hcl:=l4Clean_r hp (.mk 7 n test cells a b keys agg c [Plan.mk kind' n' test' cells' a' b' keys' agg' c' kids'])
   refine retg hp rfl rfl ?_
   have S : Sepa [] []:=Sepa.nil []
   conv=>whnf
   intro k1 a1 hk1 hh1
   replace S:=S.alloc hk1 hh1
   clear hk1 hh1
   conv=>whnf
   refine .inl ⟨_,S.row 0 rfl,rfl,?_⟩
   conv=>whnf
   refine ⟨_,hkids _,?_⟩
   conv=>whnf
   refine .inl ⟨_,S.row 0 rfl,rfl,?_⟩
   conv=>whnf
   conv=>whnf
   refine .inl ⟨_,S.row 0 rfl,rfl,?_⟩
   conv=>whnf
   refine ⟨_,hcl _,?_⟩
   conv=>whnf
   refine bsel_true hc ?_
   clear hcl hkids hc
   conv=>whnf
   intro k2 a2 hk2 hh2
   replace S:=S.alloc hk2 hh2
   clear hk2 hh2
   conv=>whnf
   have S : Sepa a2 [.row k2 (.arr 1 []),.row k1 (.box (Plan.mk 7 n test cells a b keys agg c [Plan.mk kind' n' test' cells' a' b' keys' agg' c' kids']).enc)]:=S
   refine loopG1 ?_
   conv=>whnf
   refine .inl ⟨_,S.row 1 rfl,rfl,?_⟩
   conv=>whnf
   refine .inl ⟨_,S.row 1 rfl,rfl,?_⟩
   conv=>whnf
   refine ⟨_,rfl,by omega,rfl,?_⟩
   conv=>whnf
   refine ⟨_,hq _,?_⟩
   conv=>whnf
   refine bsel_intro (fun g2=>?_) (fun g2=>?_)
   ·conv=>whnf
    exact g_int (by simp at g2; simp [g2])
   ·have g2' : ¬ wq < 1:=by simpa using g2
    rw [if_neg g2']
    conv=>whnf
    intro kv_ hv_ hkv_ hhv_
    replace S:=S.alloc hkv_ hhv_
    conv=>whnf
    refine ⟨trivial,?_⟩
    conv=>whnf
    refine ⟨[_],elems_row1 (S.row 0 rfl),elem_cell rfl rfl,?_⟩
    replace S:=S.drop 0
    dsimp only [List.eraseIdx] at S
    refine AppR_cut S (Nat.le_refl _) (by simp [sizeLim]) fun k3 a3 S3=>?_
    have S4 : Sepa a3 [.row k3 (.arr 1 [i64 wq]),.row k1 (.box (Plan.mk 7 n test cells a b keys agg c [Plan.mk kind' n' test' cells' a' b' keys' agg' c' kids']).enc)]:=S3
    clear S3 g2 hq S
    have S:=S4
    clear S4
    conv=>whnf
    refine loopG1 ?_
    iterate 22
     all_goals (try (conv=>whnf))
     all_goals (first | (refine ⟨_,S.row 0 rfl,⟨by decide,by simp⟩,?_⟩) | (refine .inr ⟨_,_,_,S.row 0 rfl,rfl,?_⟩) | (intro ka_ ha_ hk_ hh_; replace S:=S.alloc hk_ hh_) | (refine .inl ⟨_,S.row 0 rfl,rfl,?_⟩) | (refine .inl ⟨_,S.row 1 rfl,rfl,?_⟩) | (refine ⟨_,rfl,rfl,rfl,.inl ⟨_,S.row 0 rfl,rfl,?_⟩⟩; (conv=>whnf); intro ha_ hh_; replace S:=S.set 0 rfl hh_; dsimp only [List.set] at S) | (refine ⟨_,rfl,rfl,rfl,.inl ⟨_,S.row 1 rfl,rfl,?_⟩⟩; (conv=>whnf); intro ha_ hh_; replace S:=S.set 1 rfl hh_; dsimp only [List.set] at S) | (refine bsel_intro (fun hb=>?_) (fun hb=>?_)) | (refine ⟨_,hke _ _,?_⟩) | (refine ⟨_,hco _ _ _,?_⟩) | skip)
    all_goals (try (conv=>whnf))
    all_goals (refine g_int ?_; clear S hto hce hke hco; simp only [ok4,nth,Int.reduceEq,if_true,if_false,List.getElem?_cons_zero,Option.getD_some]; simp_all; try (have hwk:=wrapk hkl; omega))
theorem l4Wide4_r (hp : Okp pr) (ws : List Int) (hws : ws.length ≤ 3) (d : Nat) (hd : d + 1 ≤ 6) (n : Int) (test : Test) (cells : List Cell) (a b : Int) (keys : List Int) (agg c : Int) (q q2 : Plan) (wq wr : Int) (hc : clean (.mk 4 n test cells a b keys agg c [q,q2]) = true) (hcl' : cells.length ≤ 1048576) (hkl : keys.length ≤ 1048576)
  (hq : Ret pr 127 [q.enc,.sl (ws.map i64),.int .i64 (IntKind.i64.wrap (((d + 1 : Nat) : Int) - 1))] (i64 wq))
  (hq2 : Ret pr 127 [q2.enc,.sl (ws.map i64),.int .i64 (IntKind.i64.wrap (((d + 1 : Nat) : Int) - 1))] (i64 wr)) :
  Ret pr 127 [(Plan.mk 4 n test cells a b keys agg c [q,q2]).enc,.sl (ws.map i64),i64 ((d + 1 : Nat) : Int)] (i64 (if wq < 1 then -1 else if wr < 1 then -1 else kfW (partWide (.mk 4 n test cells a b keys agg c [q,q2]) [wq,wr]))):=by
   rw [kf_ok4 _ _ (by simp)]
   generalize hR : (if wq < 1 then _ else _) = R
   have hco:=fun n w=>l3Col_r hp n w
   obtain ⟨kind',n',test',cells',a',b',keys',agg',c',kids'⟩:=q
   obtain ⟨kind2,n2,test2,cells2,a2',b2,keys2,agg2,c2,kids2⟩:=q2
   have hkids:=l4Kids_r hp 4
   have hcl:=l4Clean_r hp (.mk 4 n test cells a b keys agg c [Plan.mk kind' n' test' cells' a' b' keys' agg' c' kids',Plan.mk kind2 n2 test2 cells2 a2' b2 keys2 agg2 c2 kids2])
   refine retg hp rfl rfl ?_
   have S : Sepa [] []:=Sepa.nil []
   conv=>whnf
   intro k1 a1 hk1 hh1
   replace S:=S.alloc hk1 hh1
   clear hk1 hh1
   conv=>whnf
   refine .inl ⟨_,S.row 0 rfl,rfl,?_⟩
   conv=>whnf
   refine ⟨_,hkids _,?_⟩
   conv=>whnf
   refine .inl ⟨_,S.row 0 rfl,rfl,?_⟩
   conv=>whnf
   conv=>whnf
   refine .inl ⟨_,S.row 0 rfl,rfl,?_⟩
   conv=>whnf
   refine ⟨_,hcl _,?_⟩
   conv=>whnf
   refine bsel_true hc ?_
   clear hcl hkids hc
   conv=>whnf
   intro k2 a2 hk2 hh2
   replace S:=S.alloc hk2 hh2
   clear hk2 hh2
   conv=>whnf
   have S : Sepa a2 [.row k2 (.arr 1 []),.row k1 (.box (Plan.mk 4 n test cells a b keys agg c [Plan.mk kind' n' test' cells' a' b' keys' agg' c' kids',Plan.mk kind2 n2 test2 cells2 a2' b2 keys2 agg2 c2 kids2]).enc)]:=S
   refine loopG1 ?_
   conv=>whnf
   refine .inl ⟨_,S.row 1 rfl,rfl,?_⟩
   conv=>whnf
   refine .inl ⟨_,S.row 1 rfl,rfl,?_⟩
   conv=>whnf
   refine ⟨_,rfl,by omega,rfl,?_⟩
   conv=>whnf
   refine ⟨_,hq _,?_⟩
   conv=>whnf
   refine bsel_intro (fun g2=>?_) (fun g2=>?_)
   ·conv=>whnf
    exact g_int (by rw [← hR]; simp at g2; simp [g2])
   ·have g2' : ¬ wq < 1:=by simpa using g2
    rw [if_neg g2'] at hR
    conv=>whnf
    intro kv_ hv_ hkv_ hhv_
    replace S:=S.alloc hkv_ hhv_
    conv=>whnf
    refine ⟨trivial,?_⟩
    conv=>whnf
    refine ⟨[_],elems_row1 (S.row 0 rfl),elem_cell rfl rfl,?_⟩
    replace S:=S.drop 0
    dsimp only [List.eraseIdx] at S
    refine AppR_cut S (Nat.le_refl _) (by simp [sizeLim]) fun k3 a3 S3=>?_
    have S4 : Sepa a3 [.row k3 (.arr 1 [i64 wq]),.row k1 (.box (Plan.mk 4 n test cells a b keys agg c [Plan.mk kind' n' test' cells' a' b' keys' agg' c' kids',Plan.mk kind2 n2 test2 cells2 a2' b2 keys2 agg2 c2 kids2]).enc)]:=S3
    clear S3 g2 hq S
    have S:=S4
    clear S4
    conv=>whnf
    refine loopG1 ?_
    conv=>whnf
    refine .inl ⟨_,S.row 1 rfl,rfl,?_⟩
    conv=>whnf
    refine .inl ⟨_,S.row 1 rfl,rfl,?_⟩
    conv=>whnf
    refine ⟨_,rfl,by decide,rfl,?_⟩
    conv=>whnf
    refine ⟨_,hq2 _,?_⟩
    conv=>whnf
    refine bsel_intro (fun g3=>?_) (fun g3=>?_)
    ·conv=>whnf
     exact g_int (by rw [← hR]; simp at g3; simp [g3])
    ·have g3' : ¬ wr < 1:=by simpa using g3
     rw [if_neg g3'] at hR
     conv=>whnf
     intro kv_ hv_ hkv_ hhv_
     replace S:=S.alloc hkv_ hhv_
     conv=>whnf
     refine ⟨trivial,?_⟩
     conv=>whnf
     refine ⟨[_],elems_row1 (S.row 0 rfl),elem_cell rfl rfl,?_⟩
     replace S:=S.drop 0
     dsimp only [List.eraseIdx] at S
     refine AppR_cut S (by simp) (by simp [sizeLim]) fun k4 a4 S4=>?_
     have S5 : Sepa a4 [.row k4 (.arr 1 [i64 wq,i64 wr]),.row k1 (.box (Plan.mk 4 n test cells a b keys agg c [Plan.mk kind' n' test' cells' a' b' keys' agg' c' kids',Plan.mk kind2 n2 test2 cells2 a2' b2 keys2 agg2 c2 kids2]).enc)]:=S4
     clear S4 g3 hq2 S
     have S:=S5
     clear S5
     conv=>whnf
     refine loopG1 ?_
     iterate 24
      all_goals (try (conv=>whnf))
      all_goals (first | (refine ⟨_,S.row 0 rfl,⟨by decide,by simp⟩,?_⟩) | (refine .inr ⟨_,_,_,S.row 0 rfl,rfl,?_⟩) | (intro ka_ ha_ hk_ hh_; replace S:=S.alloc hk_ hh_) | (refine .inl ⟨_,S.row 0 rfl,rfl,?_⟩) | (refine .inl ⟨_,S.row 1 rfl,rfl,?_⟩) | (refine ⟨_,rfl,rfl,rfl,.inl ⟨_,S.row 0 rfl,rfl,?_⟩⟩; (conv=>whnf); intro ha_ hh_; replace S:=S.set 0 rfl hh_; dsimp only [List.set] at S) | (refine ⟨_,rfl,rfl,rfl,.inl ⟨_,S.row 1 rfl,rfl,?_⟩⟩; (conv=>whnf); intro ha_ hh_; replace S:=S.set 1 rfl hh_; dsimp only [List.set] at S) | (refine bsel_intro (fun hb=>?_) (fun hb=>?_)) | (refine ⟨_,hco _ _ _,?_⟩) | skip)
     all_goals (try (conv=>whnf))
     all_goals (refine g_int ?_; rw [← hR]; clear S hco hR; simp only [ok4,nth,Int.reduceEq,if_true,if_false,List.getElem?_cons_zero,List.getElem?_cons_succ,Option.getD_some]; simp_all; try omega)
theorem l4Wide5_r (hp : Okp pr) (ws : List Int) (hws : ws.length ≤ 3) (d : Nat) (hd : d + 1 ≤ 6) (n : Int) (test : Test) (cells : List Cell) (a b : Int) (keys : List Int) (agg c : Int) (q q2 : Plan) (wq wr : Int) (hc : clean (.mk 5 n test cells a b keys agg c [q,q2]) = true) (hcl' : cells.length ≤ 1048576) (hkl : keys.length ≤ 1048576)
  (hq : Ret pr 127 [q.enc,.sl (ws.map i64),.int .i64 (IntKind.i64.wrap (((d + 1 : Nat) : Int) - 1))] (i64 wq))
  (hq2 : Ret pr 127 [q2.enc,.sl (ws.map i64),.int .i64 (IntKind.i64.wrap (((d + 1 : Nat) : Int) - 1))] (i64 wr)) :
  Ret pr 127 [(Plan.mk 5 n test cells a b keys agg c [q,q2]).enc,.sl (ws.map i64),i64 ((d + 1 : Nat) : Int)] (i64 (if wq < 1 then -1 else if wr < 1 then -1 else kfW (partWide (.mk 5 n test cells a b keys agg c [q,q2]) [wq,wr]))):=by
   rw [kf_ok4 _ _ (by simp)]
   generalize hR : (if wq < 1 then _ else _) = R
   have hco:=fun n w=>l3Col_r hp n w
   obtain ⟨kind',n',test',cells',a',b',keys',agg',c',kids'⟩:=q
   obtain ⟨kind2,n2,test2,cells2,a2',b2,keys2,agg2,c2,kids2⟩:=q2
   have hkids:=l4Kids_r hp 5
   have hcl:=l4Clean_r hp (.mk 5 n test cells a b keys agg c [Plan.mk kind' n' test' cells' a' b' keys' agg' c' kids',Plan.mk kind2 n2 test2 cells2 a2' b2 keys2 agg2 c2 kids2])
   refine retg hp rfl rfl ?_
   have S : Sepa [] []:=Sepa.nil []
   conv=>whnf
   intro k1 a1 hk1 hh1
   replace S:=S.alloc hk1 hh1
   clear hk1 hh1
   conv=>whnf
   refine .inl ⟨_,S.row 0 rfl,rfl,?_⟩
   conv=>whnf
   refine ⟨_,hkids _,?_⟩
   conv=>whnf
   refine .inl ⟨_,S.row 0 rfl,rfl,?_⟩
   conv=>whnf
   conv=>whnf
   refine .inl ⟨_,S.row 0 rfl,rfl,?_⟩
   conv=>whnf
   refine ⟨_,hcl _,?_⟩
   conv=>whnf
   refine bsel_true hc ?_
   clear hcl hkids hc
   conv=>whnf
   intro k2 a2 hk2 hh2
   replace S:=S.alloc hk2 hh2
   clear hk2 hh2
   conv=>whnf
   have S : Sepa a2 [.row k2 (.arr 1 []),.row k1 (.box (Plan.mk 5 n test cells a b keys agg c [Plan.mk kind' n' test' cells' a' b' keys' agg' c' kids',Plan.mk kind2 n2 test2 cells2 a2' b2 keys2 agg2 c2 kids2]).enc)]:=S
   refine loopG1 ?_
   conv=>whnf
   refine .inl ⟨_,S.row 1 rfl,rfl,?_⟩
   conv=>whnf
   refine .inl ⟨_,S.row 1 rfl,rfl,?_⟩
   conv=>whnf
   refine ⟨_,rfl,by omega,rfl,?_⟩
   conv=>whnf
   refine ⟨_,hq _,?_⟩
   conv=>whnf
   refine bsel_intro (fun g2=>?_) (fun g2=>?_)
   ·conv=>whnf
    exact g_int (by rw [← hR]; simp at g2; simp [g2])
   ·have g2' : ¬ wq < 1:=by simpa using g2
    rw [if_neg g2'] at hR
    conv=>whnf
    intro kv_ hv_ hkv_ hhv_
    replace S:=S.alloc hkv_ hhv_
    conv=>whnf
    refine ⟨trivial,?_⟩
    conv=>whnf
    refine ⟨[_],elems_row1 (S.row 0 rfl),elem_cell rfl rfl,?_⟩
    replace S:=S.drop 0
    dsimp only [List.eraseIdx] at S
    refine AppR_cut S (Nat.le_refl _) (by simp [sizeLim]) fun k3 a3 S3=>?_
    have S4 : Sepa a3 [.row k3 (.arr 1 [i64 wq]),.row k1 (.box (Plan.mk 5 n test cells a b keys agg c [Plan.mk kind' n' test' cells' a' b' keys' agg' c' kids',Plan.mk kind2 n2 test2 cells2 a2' b2 keys2 agg2 c2 kids2]).enc)]:=S3
    clear S3 g2 hq S
    have S:=S4
    clear S4
    conv=>whnf
    refine loopG1 ?_
    conv=>whnf
    refine .inl ⟨_,S.row 1 rfl,rfl,?_⟩
    conv=>whnf
    refine .inl ⟨_,S.row 1 rfl,rfl,?_⟩
    conv=>whnf
    refine ⟨_,rfl,by decide,rfl,?_⟩
    conv=>whnf
    refine ⟨_,hq2 _,?_⟩
    conv=>whnf
    refine bsel_intro (fun g3=>?_) (fun g3=>?_)
    ·conv=>whnf
     exact g_int (by rw [← hR]; simp at g3; simp [g3])
    ·have g3' : ¬ wr < 1:=by simpa using g3
     rw [if_neg g3'] at hR
     conv=>whnf
     intro kv_ hv_ hkv_ hhv_
     replace S:=S.alloc hkv_ hhv_
     conv=>whnf
     refine ⟨trivial,?_⟩
     conv=>whnf
     refine ⟨[_],elems_row1 (S.row 0 rfl),elem_cell rfl rfl,?_⟩
     replace S:=S.drop 0
     dsimp only [List.eraseIdx] at S
     refine AppR_cut S (by simp) (by simp [sizeLim]) fun k4 a4 S4=>?_
     have S5 : Sepa a4 [.row k4 (.arr 1 [i64 wq,i64 wr]),.row k1 (.box (Plan.mk 5 n test cells a b keys agg c [Plan.mk kind' n' test' cells' a' b' keys' agg' c' kids',Plan.mk kind2 n2 test2 cells2 a2' b2 keys2 agg2 c2 kids2]).enc)]:=S4
     clear S4 g3 hq2 S
     have S:=S5
     clear S5
     conv=>whnf
     refine loopG1 ?_
     iterate 24
      all_goals (try (conv=>whnf))
      all_goals (first | (refine ⟨_,S.row 0 rfl,⟨by decide,by simp⟩,?_⟩) | (refine .inr ⟨_,_,_,S.row 0 rfl,rfl,?_⟩) | (intro ka_ ha_ hk_ hh_; replace S:=S.alloc hk_ hh_) | (refine .inl ⟨_,S.row 0 rfl,rfl,?_⟩) | (refine .inl ⟨_,S.row 1 rfl,rfl,?_⟩) | (refine ⟨_,rfl,rfl,rfl,.inl ⟨_,S.row 0 rfl,rfl,?_⟩⟩; (conv=>whnf); intro ha_ hh_; replace S:=S.set 0 rfl hh_; dsimp only [List.set] at S) | (refine ⟨_,rfl,rfl,rfl,.inl ⟨_,S.row 1 rfl,rfl,?_⟩⟩; (conv=>whnf); intro ha_ hh_; replace S:=S.set 1 rfl hh_; dsimp only [List.set] at S) | (refine bsel_intro (fun hb=>?_) (fun hb=>?_)) | skip)
     all_goals (try (conv=>whnf))
     all_goals (refine g_int ?_; rw [← hR]; clear S hco hR; simp only [ok4,nth,Int.reduceEq,if_true,if_false,List.getElem?_cons_zero,List.getElem?_cons_succ,Option.getD_some]; simp_all; try omega)
theorem l4Wide_r (hp : Okp pr) (ws : List Int) (hws : ws.length ≤ 3) : ∀ (d : Nat) (p : Plan),p.small → d ≤ 6 → Ret pr 127 [p.enc,.sl (ws.map i64),i64 d] (i64 (wide4 ws d p)):=by
 intro d
 induction d with
 | zero=>
  intro p hsm hd
  obtain ⟨kind,n,test,cells,a,b,keys,agg,c,kids⟩:=p
  refine retg hp rfl rfl ?_
  have S : Sepa [] []:=Sepa.nil []
  conv=>whnf
  intro k1 a1 hk1 hh1
  replace S:=S.alloc hk1 hh1
  conv=>whnf
  exact g_int (by simp [wide4])
 | succ d ih=>
  intro p hsm hd
  obtain ⟨kind,n,test,cells,a,b,keys,agg,c,kids⟩:=p
  obtain ⟨hsc,hsk,hskids,hsks⟩:=small_split hsm
  have hw:=wrap_pred d (by omega)
  have hih:=fun (q : Plan) (hq : q ∈ kids)=>hw ▸ ih q (hsks q hq) (by omega)
  clear ih hw
  by_cases hsh : shaped (.mk kind n test cells a b keys agg c kids) = true
  ·have hsh2:=hsh
   simp only [shaped,Plan.kind,Plan.kids,Bool.and_eq_true,beq_iff_eq] at hsh2
   obtain ⟨hlen,hc⟩:=hsh2
   rcases kind_cases kind with rfl | rfl | rfl | rfl | rfl | rfl | rfl | ⟨h1,h2,h3,h4,h5,h6,h7⟩
   ·have hk0 : kids = []:=by have h : kidsN 1 = 0:=rfl; exact List.length_eq_zero_iff.1 (by omega)
    subst hk0
    have hP : wide4 ws (d + 1) (.mk 1 n test cells a b keys agg c []) = kfW (partWide (.mk 1 n test cells a b keys agg c []) ws):=by rw [wide4,if_pos hsh]; rfl
    rw [hP]
    exact l4Wide1_r hp ws hws d hd n test cells a b keys agg c hc
   ·obtain ⟨q,rfl⟩:=len1 (l:=kids) (by have h : kidsN 2 = 1:=rfl; omega)
    rw [wide4_one hsh (by decide)]
    exact l4Wide2_r hp ws hws d hd n test cells a b keys agg c q _ hc hsc hsk (hih q (by simp))
   ·obtain ⟨q,rfl⟩:=len1 (l:=kids) (by have h : kidsN 3 = 1:=rfl; omega)
    rw [wide4_one hsh (by decide)]
    exact l4Wide3_r hp ws hws d hd n test cells a b keys agg c q _ hc hsc hsk (hih q (by simp))
   ·obtain ⟨q,q2,rfl⟩:=len2 (l:=kids) (by have h : kidsN 4 = 2:=rfl; omega)
    rw [wide4_two hsh (by decide)]
    exact l4Wide4_r hp ws hws d hd n test cells a b keys agg c q q2 _ _ hc hsc hsk (hih q (by simp)) (hih q2 (by simp))
   ·obtain ⟨q,q2,rfl⟩:=len2 (l:=kids) (by have h : kidsN 5 = 2:=rfl; omega)
    rw [wide4_two hsh (by decide)]
    exact l4Wide5_r hp ws hws d hd n test cells a b keys agg c q q2 _ _ hc hsc hsk (hih q (by simp)) (hih q2 (by simp))
   ·obtain ⟨q,rfl⟩:=len1 (l:=kids) (by have h : kidsN 6 = 1:=rfl; omega)
    rw [wide4_one hsh (by decide)]
    exact l4Wide6_r hp ws hws d hd n test cells a b keys agg c q _ hc hsc hsk (hih q (by simp))
   ·obtain ⟨q,rfl⟩:=len1 (l:=kids) (by have h : kidsN 7 = 1:=rfl; omega)
    rw [wide4_one hsh (by decide)]
    exact l4Wide7_r hp ws hws d hd n test cells a b keys agg c q _ hc hsc hsk (hih q (by simp))
   ·exfalso
    simp only [beq_eq_false_iff_ne,ne_eq] at *
    simp [kidsN,h1,h2,h3,h4,h5,h6,h7] at hlen
    try omega
  ·have hsh' : shaped (.mk kind n test cells a b keys agg c kids) = false:=by simpa using hsh
   have hP : wide4 ws (d + 1) (.mk kind n test cells a b keys agg c kids) = -1:=by rw [wide4,hsh']; rfl
   rw [hP]
   have hkids:=l4Kids_r hp kind
   have hcl:=l4Clean_r hp (.mk kind n test cells a b keys agg c kids)
   have hel:=encs_len kids
   refine retg hp rfl rfl ?_
   have S : Sepa [] []:=Sepa.nil []
   conv=>whnf
   intro k1 a1 hk1 hh1
   replace S:=S.alloc hk1 hh1
   conv=>whnf
   refine .inl ⟨_,S.row 0 rfl,rfl,?_⟩
   conv=>whnf
   refine ⟨_,hkids _,?_⟩
   conv=>whnf
   refine .inl ⟨_,S.row 0 rfl,rfl,?_⟩
   conv=>whnf
   refine bsel_intro (fun g0=>?_) (fun g0=>?_)
   ·conv=>whnf
    exact g_int rfl
   ·rw [hel] at g0
    conv=>whnf
    refine .inl ⟨_,S.row 0 rfl,rfl,?_⟩
    conv=>whnf
    refine ⟨_,hcl _,?_⟩
    conv=>whnf
    refine bsel_false ?_ ?_
    ·simp only [shaped,Plan.kind,Plan.kids,Bool.and_eq_false_iff] at hsh'
     rcases hsh' with h | h
     ·simp at g0; simp [g0] at h
     ·exact h
    conv=>whnf
    exact g_int rfl
def planWide4 (p : Plan) (ws : List Int) : Int:=if decide (ws.length ≤ 3) && decide (many 6 p ≤ 10) then wide4 ws 6 p else -1
theorem sPlanWide_r (hp : Okp pr) (p : Plan) (ws : List Int) (hsm : p.small) : Ret pr 82 [p.enc,.sl (ws.map i64)] (i64 (planWide4 p ws)):=by
 have h1:=l4Many_r hp 6 p hsm (by omega)
 have h2 : ws.length ≤ 3 → _:=fun h=>l4Wide_r hp ws h 6 p hsm (by omega)
 unfold planWide4
 obtain ⟨kind,n,test,cells,a,b,keys,agg,c,kids⟩:=p
 refine retg hp rfl rfl ?_
 have S : Sepa [] []:=Sepa.nil []
 conv=>whnf
 intro k1 a1 hk1 hh1
 replace S:=S.alloc hk1 hh1
 conv=>whnf
 refine bsel_intro (fun g1=>?_) (fun g1=>?_)
 ·have : decide (ws.length ≤ 3) = false:=by simp at g1 ⊢; omega
  rw [this]
  conv=>whnf
  exact g_int rfl
 ·have h3 : ws.length ≤ 3:=by simp at g1; omega
  have : decide (ws.length ≤ 3) = true:=by simp [h3]
  rw [this,Bool.true_and]
  conv=>whnf
  refine .inl ⟨_,S.row 0 rfl,rfl,?_⟩
  conv=>whnf
  refine ⟨_,h1 _,?_⟩
  conv=>whnf
  refine bsel_intro (fun g2=>?_) (fun g2=>?_)
  ·have : decide (many 6 (Plan.mk kind n test cells a b keys agg c kids) ≤ 10) = false:=by simp at g2 ⊢; omega
   rw [this]
   conv=>whnf
   exact g_int rfl
  ·have : decide (many 6 (Plan.mk kind n test cells a b keys agg c kids) ≤ 10) = true:=by simp at g2 ⊢; omega
   rw [this]
   conv=>whnf
   refine .inl ⟨_,S.row 0 rfl,rfl,?_⟩
   conv=>whnf
   refine ⟨_,h2 h3 _,?_⟩
   conv=>whnf
   exact g_int rfl
end Go.Proofs.YtncgofhhnhebjaaGreat

/- The plain law: plans are as wide to both. -/
import Derived.Test.YtfepbikckfehlaaGreatGH21
import Derived.Test.YtfepbikckfehlaaGreatGH25
set_option linter.unusedVariables false
set_option linter.unusedSimpArgs false
set_option maxHeartbeats 4000000
namespace Go.Proofs.YtfepbikckfehlaaGreat
open Go Go.Am
variable{pr:bW}(hp:cF pr)
set_option maxRecDepth 100000
mutual
def du(ws:List Int):Nat->aA->Int
 |0,_=>-1
 |d+1,.mk au n aD cells a b aq agg c ao=>
  if shaped (.mk au n aD cells a b aq agg c ao)then
   (if au=1 then iD (bU (.mk au n aD cells a b aq agg c ao) ws)
   else match nG ws d ao with
    |none=>-1
    |some l=>iD (bU (.mk au n aD cells a b aq agg c ao) l))
  else-1
def nG(ws:List Int):Nat->List aA->Option (List Int)
 |_,[]=>some []
 |d,p::ps=>if du ws d p<1 then none else(nG ws d ps).map (du ws d p:: ·)
end
theorem TR{ok:Bool}{w:Int}{x:Int}(h:x=if ok then w else-1):iD x=if !ok||(decide (w<1)||decide (w>6))then-1 else w:=by
 subst h;unfold iD
 cases ok with
 |false=>rfl
 |true=>
  by_cases h1:w<1
  ·have: ¬1<=w:=by omega
   simp[h1,this]
  ·have PH:1<=w:=by omega
   by_cases h2:w>6
   ·have: ¬w<=6:=by omega
    simp[h1,h2,this]
   ·have Dc:w<=6:=by omega
    simp[h1,h2,PH,Dc]
theorem Ir{α:Type}{l:List α}(h:l.length=1): ∃q,l=[q]:=by
 match l,h with
 | [q],_=>exact⟨q,rfl⟩
theorem TS{α:Type}{l:List α}(h:l.length=2): ∃q r,l=[q,r]:=by
 match l,h with
 | [q,r],_=>exact⟨q,r,rfl⟩
theorem lD{ws:List Int}{d:Nat}{au n:Int}{aD:Test}{cells:List Cell}{a b:Int}{aq:List Int}{agg c:Int}{q:aA}(tN:shaped (.mk au n aD cells a b aq agg c [q])=true)(hk:au≠1):
  du ws (d+1) (.mk au n aD cells a b aq agg c [q])=if du ws d q<1 then-1 else iD (bU (.mk au n aD cells a b aq agg c [q]) [du ws d q]):=by
   rw[du,if_pos tN,if_neg hk];simp only[nG]
   by_cases h:du ws d q<1
   ·simp[h]
   ·simp[h]
theorem tU{ws:List Int}{d:Nat}{au n:Int}{aD:Test}{cells:List Cell}{a b:Int}{aq:List Int}{agg c:Int}{q r:aA}(tN:shaped (.mk au n aD cells a b aq agg c [q,r])=true)(hk:au≠1):
  du ws (d+1) (.mk au n aD cells a b aq agg c [q,r])=if du ws d q<1 then-1 else if du ws d r<1 then-1 else iD (bU (.mk au n aD cells a b aq agg c [q,r]) [du ws d q,du ws d r]):=by
   rw[du,if_pos tN,if_neg hk];simp only[nG]
   by_cases h:du ws d q<1
   ·simp[h]
   ·by_cases h2:du ws d r<1
    ·simp[h,h2]
    ·simp[h,h2]
theorem MI{l:Nat}(h:l<=1048576):IntKind.i64.wrap ((l:Int)+1)=(l:Int)+1:=by rw[aaC];omega
def JC:aA->List Int->Bool×Int
 | .mk au n aD cells a b aq agg c _,ws=>
  if au=1 then(decide (0<=n)&&(decide (n<ws.length)&&decide (n<3)),nth ws n.toNat)
  else if au=2 then(kZ aD (nth ws 0),nth ws 0)
  else if au=3 then(j9 cells (nth ws 0),cells.length)
  else if au=4 then(col a (nth ws 0)&&col b (nth ws 1),IntKind.i64.wrap (nth ws 0+nth ws 1))
  else if au=5 then(nth ws 0==nth ws 1,nth ws 0)
  else if au=6 then(true,nth ws 0)
  else(eU aq (nth ws 0)&&(decide (0<=agg)&&(decide (agg<=3)&&col c (nth ws 0))),(aq.length:Int)+1)
theorem Wn(p:aA)(ws:List Int)(hw:ws.length<=3):bU p ws=if(JC p ws).1 then(JC p ws).2 else-1:=by
 obtain⟨au,n,aD,cells,a,b,aq,agg,c,ao⟩:=p
 have e1:(decide (0<=n)&&decide (n<ws.length))=(decide (0<=n)&&(decide (n<ws.length)&&decide (n<3))):=by
  by_cases h:n<ws.length
  ·have:n<3:=by omega
   simp[h,this]
  ·simp[h]
 rcases fU au with rfl|rfl|rfl|rfl|rfl|rfl|rfl|⟨h1,h2,h3,h4,h5,h6,h7⟩
 ·show(if decide (0<=n)&&decide (n<ws.length)then nth ws n.toNat else-1)=if decide (0<=n)&&(decide (n<ws.length)&&decide (n<3))then nth ws n.toNat else-1
  rw[e1]
 ·rfl
 ·show(if decide (1<=cells.length)&&(decide (cells.length<=6)&&cells.all (fun c=>fe c (nth ws 0)))then(cells.length:Int)else-1)=if j9 cells (nth ws 0)then(cells.length:Int)else-1
  have:(decide (1<=cells.length)&&(decide (cells.length<=6)&&cells.all (fun c=>fe c (nth ws 0))))=j9 cells (nth ws 0):=by
   unfold j9;rw[Bool.eq_iff_iff];simp only[xz];exact⟨fun h=>⟨h.2.2,h.1,h.2.1⟩,fun h=>⟨h.2.1,h.2.2,h.1⟩⟩
  rw[this]
 ·rfl
 ·rfl
 ·rfl
 ·show(if decide (0<=agg)&&(decide (agg<=3)&&(eU aq (nth ws 0)&&col c (nth ws 0)))then(aq.length:Int)+1 else-1)=if eU aq (nth ws 0)&&(decide (0<=agg)&&(decide (agg<=3)&&col c (nth ws 0)))then(aq.length:Int)+1 else-1
  have:(decide (0<=agg)&&(decide (agg<=3)&&(eU aq (nth ws 0)&&col c (nth ws 0))))=(eU aq (nth ws 0)&&(decide (0<=agg)&&(decide (agg<=3)&&col c (nth ws 0)))):=by
   rw[Bool.eq_iff_iff];simp only[xz];exact⟨fun h=>⟨h.2.2.1,h.1,h.2.1,h.2.2.2⟩,fun h=>⟨h.2.1,h.2.2.1,h.1,h.2.2.2⟩⟩
  rw[this]
 ·simp only[beq_eq_false_iff_ne,ne_eq]at h1 h2 h3 h4 h5 h6 h7
  have:(decide (0<=agg)&&(decide (agg<=3)&&(eU aq (nth ws 0)&&col c (nth ws 0))))=(eU aq (nth ws 0)&&(decide (0<=agg)&&(decide (agg<=3)&&col c (nth ws 0)))):=by
   rw[Bool.eq_iff_iff];simp only[xz];exact⟨fun h=>⟨h.2.2.1,h.1,h.2.1,h.2.2.2⟩,fun h=>⟨h.2.1,h.2.2.1,h.1,h.2.2.2⟩⟩
  simp only[bU,JC,h1,h2,h3,h4,h5,h6,if_false,this]
theorem vh(p:aA)(ws:List Int)(hw:ws.length<=3):iD (bU p ws)=if !(JC p ws).1||(decide ((JC p ws).2<1)||decide ((JC p ws).2>6))then-1 else(JC p ws).2:=TR (Wn p ws hw)
theorem N7(hp:cF pr)(ws:List Int)(xq:ws.length<=3)(d:Nat)(hd:d+1<=6)(n:Int)(aD:Test)(cells:List Cell)(a b:Int)(aq:List Int)(agg c:Int)(hc:clean (.mk 1 n aD cells a b aq agg c [])=true):
  dK pr 96 [(aA.mk 1 n aD cells a b aq agg c []).enc,.sl (ws.map i64),i64 ((d+1:Nat):Int)] (i64 (iD (bU (.mk 1 n aD cells a b aq agg c []) ws))):=by
   rw[vh _ _ xq];have eh:=lV hp 1;have jM:=kg hp (.mk 1 n aD cells a b aq agg c []);refine ff hp rfl rfl ?_;have S:=aj.nil [];conv=>whnf
   intro k1 a1 eg er;replace S:=S.alloc eg er;clear eg er;refine aC (S.row 0 rfl) ?_;conv=>whnf
   refine⟨_,eh _,?_⟩;refine aC (S.row 0 rfl) ?_;conv=>whnf
   refine aC (S.row 0 rfl) ?_;conv=>whnf
   refine⟨_,jM _,?_⟩;conv=>whnf
   refine fS hc ?_;clear jM eh hc;conv=>whnf
   have S:aj a1 [.row k1 (.box (aA.mk 1 n aD cells a b aq agg c []).enc)]:=S;refine kG ?_;refine aC (S.row 0 rfl) ?_;refine aC (S.row 0 rfl) ?_;conv=>whnf
   iterate 18
    all_goals(try(conv=>whnf))
    all_goals(first|(refine⟨_,by simpa using KU,by omega,rfl,?_⟩)|(intro iK cp ee bf;replace S:=S.alloc ee bf)|(refine aC (S.row 0 rfl) ?_)|(refine aC (S.row 1 rfl) ?_)|(refine⟨_,rfl,rfl,rfl,.inl ⟨_,S.row 0 rfl,rfl,?_⟩⟩;(conv=>whnf);intro cp bf;replace S:=S.w0 bf)|(refine⟨_,rfl,rfl,rfl,.inl ⟨_,S.row 1 rfl,rfl,?_⟩⟩;(conv=>whnf);intro cp bf;replace S:=S.w1 bf)|(refine ae (fun hb=>?_) (fun hb=>?_))|skip)
   all_goals(try(conv=>whnf))
   all_goals first
    |(refine eJ ?_;clear S;simp only[JC,nth,if_true];simp_all;done)
    |skip
   all_goals
    rename_i b1 b2;have h1:0<=n:=by simpa using b1
    have h2:n<ws.length:=by simpa using b2
    have h3:n<3:=by simpa using hb
    have dw:(ws.map i64)[n.toNat]?=some (i64 (nth ws n.toNat)):=by
     have:n.toNat<ws.length:=by omega
     simp[nth,this]
    refine⟨_,dw,h1,rfl,?_⟩;have hv:(JC (.mk 1 n aD cells a b aq agg c []) ws)=(true,nth ws n.toNat):=by simp[JC,h1,h2,h3]
    rw[hv];generalize nth ws n.toNat=v at*
    iterate 8
     all_goals(try(conv=>whnf))
     all_goals(first|(intro iK cp ee bf;replace S:=S.alloc ee bf)|(refine aC (S.row 0 rfl) ?_)|(refine aC (S.row 1 rfl) ?_)|(refine⟨_,rfl,rfl,rfl,.inl ⟨_,S.row 0 rfl,rfl,?_⟩⟩;(conv=>whnf);intro cp bf;replace S:=S.w0 bf)|(refine⟨_,rfl,rfl,rfl,.inl ⟨_,S.row 1 rfl,rfl,?_⟩⟩;(conv=>whnf);intro cp bf;replace S:=S.w1 bf)|(refine ae (fun hb=>?_) (fun hb=>?_))|skip)
    all_goals(try(conv=>whnf))
    all_goals(refine eJ ?_;clear S;simp_all;try omega)
theorem N8(hp:cF pr)(ws:List Int)(xq:ws.length<=3)(d:Nat)(hd:d+1<=6)(n:Int)(aD:Test)(cells:List Cell)(a b:Int)(aq:List Int)(agg c:Int)(q:aA)(wq:Int)(hc:clean (.mk 2 n aD cells a b aq agg c [q])=true)(Fg:cells.length<=1048576)(sd:aq.length<=1048576)
  (hq:dK pr 96 [q.enc,.sl (ws.map i64),.int .i64 (IntKind.i64.wrap (((d+1:Nat):Int)-1))] (i64 wq)):
  dK pr 96 [(aA.mk 2 n aD cells a b aq agg c [q]).enc,.sl (ws.map i64),i64 ((d+1:Nat):Int)] (i64 (if wq<1 then-1 else iD (bU (.mk 2 n aD cells a b aq agg c [q]) [wq]))):=by
   rw[vh _ _ (by simp)];have qI:=oa hp aD;have qc:=fun w=>qH hp cells w Fg;have pX:=fun w=>m9 hp aq w sd;have pH:=fun n w=>kS hp n w;obtain⟨cG,n',dq,bR,a',b',cH,dE,c',cE⟩:=q;have eh:=lV hp 2;have jM:=kg hp (.mk 2 n aD cells a b aq agg c [aA.mk cG n' dq bR a' b' cH dE c' cE]);refine ff hp rfl rfl ?_;have S:=aj.nil [];conv=>whnf
   intro k1 a1 eg er;replace S:=S.alloc eg er;clear eg er;refine aC (S.row 0 rfl) ?_;conv=>whnf
   refine⟨_,eh _,?_⟩;refine aC (S.row 0 rfl) ?_;conv=>whnf
   refine aC (S.row 0 rfl) ?_;conv=>whnf
   refine⟨_,jM _,?_⟩;conv=>whnf
   refine fS hc ?_;clear jM eh hc;conv=>whnf
   have S:aj a1 [.row k1 (.box (aA.mk 2 n aD cells a b aq agg c [aA.mk cG n' dq bR a' b' cH dE c' cE]).enc)]:=S;refine kG ?_;refine aC (S.row 0 rfl) ?_;refine aC (S.row 0 rfl) ?_;conv=>whnf
   refine⟨_,rfl,by omega,rfl,?_⟩;conv=>whnf
   refine⟨_,hq _,?_⟩;conv=>whnf
   refine ae (fun g2=>?_) (fun g2=>?_)
   ·conv=>whnf
    exact eJ (by simp at g2;simp[g2])
   ·have wM: ¬wq<1:=by simpa using g2
    rw[if_neg wM];conv=>whnf
    intro pI pJ dT dU;replace S:=S.alloc dT dU;conv=>whnf
    refine⟨trivial,?_⟩;conv=>whnf
    refine⟨[_],bT (S.row 0 rfl),dI rfl rfl,?_⟩;replace S:=S.drop 0;dsimp only[List.eraseIdx]at S;refine oU S (by simp) (by simp[bB]) fun k3 a3 S3=>?_;have S4:aj a3 [.row k3 (.arr 1 [i64 wq]),.row k1 (.box (aA.mk 2 n aD cells a b aq agg c [aA.mk cG n' dq bR a' b' cH dE c' cE]).enc)]:=S3;clear S3 g2 hq S;have S:=S4;clear S4;conv=>whnf
    refine kG ?_
    iterate 22
     all_goals(try(conv=>whnf))
     all_goals(first|(refine⟨_,S.row 0 rfl,⟨by decide,by simp⟩,?_⟩)|(refine .inr ⟨_,_,_,S.row 0 rfl,rfl,?_⟩)|(intro iK cp ee bf;replace S:=S.alloc ee bf)|(refine aC (S.row 0 rfl) ?_)|(refine aC (S.row 1 rfl) ?_)|(refine⟨_,rfl,rfl,rfl,.inl ⟨_,S.row 0 rfl,rfl,?_⟩⟩;(conv=>whnf);intro cp bf;replace S:=S.w0 bf)|(refine⟨_,rfl,rfl,rfl,.inl ⟨_,S.row 1 rfl,rfl,?_⟩⟩;(conv=>whnf);intro cp bf;replace S:=S.w1 bf)|(refine ae (fun hb=>?_) (fun hb=>?_))|(refine⟨_,qI _ _,?_⟩)|skip)
    all_goals(try(conv=>whnf))
    all_goals(refine eJ ?_;clear S qI qc pX pH;simp only[JC,nth,Int.reduceEq,if_true,if_false,aaT,Option.getD_some];simp_all;try(have TA:=MI sd;omega))
theorem N9(hp:cF pr)(ws:List Int)(xq:ws.length<=3)(d:Nat)(hd:d+1<=6)(n:Int)(aD:Test)(cells:List Cell)(a b:Int)(aq:List Int)(agg c:Int)(q:aA)(wq:Int)(hc:clean (.mk 3 n aD cells a b aq agg c [q])=true)(Fg:cells.length<=1048576)(sd:aq.length<=1048576)
  (hq:dK pr 96 [q.enc,.sl (ws.map i64),.int .i64 (IntKind.i64.wrap (((d+1:Nat):Int)-1))] (i64 wq)):
  dK pr 96 [(aA.mk 3 n aD cells a b aq agg c [q]).enc,.sl (ws.map i64),i64 ((d+1:Nat):Int)] (i64 (if wq<1 then-1 else iD (bU (.mk 3 n aD cells a b aq agg c [q]) [wq]))):=by
   rw[vh _ _ (by simp)];have qI:=oa hp aD;have qc:=fun w=>qH hp cells w Fg;have pX:=fun w=>m9 hp aq w sd;have pH:=fun n w=>kS hp n w;obtain⟨cG,n',dq,bR,a',b',cH,dE,c',cE⟩:=q;have eh:=lV hp 3;have jM:=kg hp (.mk 3 n aD cells a b aq agg c [aA.mk cG n' dq bR a' b' cH dE c' cE]);refine ff hp rfl rfl ?_;have S:=aj.nil [];conv=>whnf
   intro k1 a1 eg er;replace S:=S.alloc eg er;clear eg er;refine aC (S.row 0 rfl) ?_;conv=>whnf
   refine⟨_,eh _,?_⟩;refine aC (S.row 0 rfl) ?_;conv=>whnf
   refine aC (S.row 0 rfl) ?_;conv=>whnf
   refine⟨_,jM _,?_⟩;conv=>whnf
   refine fS hc ?_;clear jM eh hc;conv=>whnf
   have S:aj a1 [.row k1 (.box (aA.mk 3 n aD cells a b aq agg c [aA.mk cG n' dq bR a' b' cH dE c' cE]).enc)]:=S;refine kG ?_;refine aC (S.row 0 rfl) ?_;refine aC (S.row 0 rfl) ?_;conv=>whnf
   refine⟨_,rfl,by omega,rfl,?_⟩;conv=>whnf
   refine⟨_,hq _,?_⟩;conv=>whnf
   refine ae (fun g2=>?_) (fun g2=>?_)
   ·conv=>whnf
    exact eJ (by simp at g2;simp[g2])
   ·have wM: ¬wq<1:=by simpa using g2
    rw[if_neg wM];conv=>whnf
    intro pI pJ dT dU;replace S:=S.alloc dT dU;conv=>whnf
    refine⟨trivial,?_⟩;conv=>whnf
    refine⟨[_],bT (S.row 0 rfl),dI rfl rfl,?_⟩;replace S:=S.drop 0;dsimp only[List.eraseIdx]at S;refine oU S (by simp) (by simp[bB]) fun k3 a3 S3=>?_;have S4:aj a3 [.row k3 (.arr 1 [i64 wq]),.row k1 (.box (aA.mk 3 n aD cells a b aq agg c [aA.mk cG n' dq bR a' b' cH dE c' cE]).enc)]:=S3;clear S3 g2 hq S;have S:=S4;clear S4;conv=>whnf
    refine kG ?_
    iterate 22
     all_goals(try(conv=>whnf))
     all_goals(first|(refine⟨_,S.row 0 rfl,⟨by decide,by simp⟩,?_⟩)|(refine .inr ⟨_,_,_,S.row 0 rfl,rfl,?_⟩)|(intro iK cp ee bf;replace S:=S.alloc ee bf)|(refine aC (S.row 0 rfl) ?_)|(refine aC (S.row 1 rfl) ?_)|(refine⟨_,rfl,rfl,rfl,.inl ⟨_,S.row 0 rfl,rfl,?_⟩⟩;(conv=>whnf);intro cp bf;replace S:=S.w0 bf)|(refine⟨_,rfl,rfl,rfl,.inl ⟨_,S.row 1 rfl,rfl,?_⟩⟩;(conv=>whnf);intro cp bf;replace S:=S.w1 bf)|(refine ae (fun hb=>?_) (fun hb=>?_))|(refine⟨_,qc _ _,?_⟩)|skip)
    all_goals(try(conv=>whnf))
    all_goals(refine eJ ?_;clear S qI qc pX pH;simp only[JC,nth,Int.reduceEq,if_true,if_false,aaT,Option.getD_some];simp_all;try(have TA:=MI sd;omega))
theorem Oa(hp:cF pr)(ws:List Int)(xq:ws.length<=3)(d:Nat)(hd:d+1<=6)(n:Int)(aD:Test)(cells:List Cell)(a b:Int)(aq:List Int)(agg c:Int)(q:aA)(wq:Int)(hc:clean (.mk 6 n aD cells a b aq agg c [q])=true)(Fg:cells.length<=1048576)(sd:aq.length<=1048576)
  (hq:dK pr 96 [q.enc,.sl (ws.map i64),.int .i64 (IntKind.i64.wrap (((d+1:Nat):Int)-1))] (i64 wq)):
  dK pr 96 [(aA.mk 6 n aD cells a b aq agg c [q]).enc,.sl (ws.map i64),i64 ((d+1:Nat):Int)] (i64 (if wq<1 then-1 else iD (bU (.mk 6 n aD cells a b aq agg c [q]) [wq]))):=by
   rw[vh _ _ (by simp)];have qI:=oa hp aD;have qc:=fun w=>qH hp cells w Fg;have pX:=fun w=>m9 hp aq w sd;have pH:=fun n w=>kS hp n w;obtain⟨cG,n',dq,bR,a',b',cH,dE,c',cE⟩:=q;have eh:=lV hp 6;have jM:=kg hp (.mk 6 n aD cells a b aq agg c [aA.mk cG n' dq bR a' b' cH dE c' cE]);refine ff hp rfl rfl ?_;have S:=aj.nil [];conv=>whnf
   intro k1 a1 eg er;replace S:=S.alloc eg er;clear eg er;refine aC (S.row 0 rfl) ?_;conv=>whnf
   refine⟨_,eh _,?_⟩;refine aC (S.row 0 rfl) ?_;conv=>whnf
   refine aC (S.row 0 rfl) ?_;conv=>whnf
   refine⟨_,jM _,?_⟩;conv=>whnf
   refine fS hc ?_;clear jM eh hc;conv=>whnf
   have S:aj a1 [.row k1 (.box (aA.mk 6 n aD cells a b aq agg c [aA.mk cG n' dq bR a' b' cH dE c' cE]).enc)]:=S;refine kG ?_;refine aC (S.row 0 rfl) ?_;refine aC (S.row 0 rfl) ?_;conv=>whnf
   refine⟨_,rfl,by omega,rfl,?_⟩;conv=>whnf
   refine⟨_,hq _,?_⟩;conv=>whnf
   refine ae (fun g2=>?_) (fun g2=>?_)
   ·conv=>whnf
    exact eJ (by simp at g2;simp[g2])
   ·have wM: ¬wq<1:=by simpa using g2
    rw[if_neg wM];conv=>whnf
    intro pI pJ dT dU;replace S:=S.alloc dT dU;conv=>whnf
    refine⟨trivial,?_⟩;conv=>whnf
    refine⟨[_],bT (S.row 0 rfl),dI rfl rfl,?_⟩;replace S:=S.drop 0;dsimp only[List.eraseIdx]at S;refine oU S (by simp) (by simp[bB]) fun k3 a3 S3=>?_;have S4:aj a3 [.row k3 (.arr 1 [i64 wq]),.row k1 (.box (aA.mk 6 n aD cells a b aq agg c [aA.mk cG n' dq bR a' b' cH dE c' cE]).enc)]:=S3;clear S3 g2 hq S;have S:=S4;clear S4;conv=>whnf
    refine kG ?_
    iterate 22
     all_goals(try(conv=>whnf))
     all_goals(first|(refine⟨_,S.row 0 rfl,⟨by decide,by simp⟩,?_⟩)|(refine .inr ⟨_,_,_,S.row 0 rfl,rfl,?_⟩)|(intro iK cp ee bf;replace S:=S.alloc ee bf)|(refine aC (S.row 0 rfl) ?_)|(refine aC (S.row 1 rfl) ?_)|(refine⟨_,rfl,rfl,rfl,.inl ⟨_,S.row 0 rfl,rfl,?_⟩⟩;(conv=>whnf);intro cp bf;replace S:=S.w0 bf)|(refine⟨_,rfl,rfl,rfl,.inl ⟨_,S.row 1 rfl,rfl,?_⟩⟩;(conv=>whnf);intro cp bf;replace S:=S.w1 bf)|(refine ae (fun hb=>?_) (fun hb=>?_))|skip)
    all_goals(try(conv=>whnf))
    all_goals(refine eJ ?_;clear S qI qc pX pH;simp only[JC,nth,Int.reduceEq,if_true,if_false,aaT,Option.getD_some];simp_all;try(have TA:=MI sd;omega))
theorem Ob(hp:cF pr)(ws:List Int)(xq:ws.length<=3)(d:Nat)(hd:d+1<=6)(n:Int)(aD:Test)(cells:List Cell)(a b:Int)(aq:List Int)(agg c:Int)(q:aA)(wq:Int)(hc:clean (.mk 7 n aD cells a b aq agg c [q])=true)(Fg:cells.length<=1048576)(sd:aq.length<=1048576)
  (hq:dK pr 96 [q.enc,.sl (ws.map i64),.int .i64 (IntKind.i64.wrap (((d+1:Nat):Int)-1))] (i64 wq)):
  dK pr 96 [(aA.mk 7 n aD cells a b aq agg c [q]).enc,.sl (ws.map i64),i64 ((d+1:Nat):Int)] (i64 (if wq<1 then-1 else iD (bU (.mk 7 n aD cells a b aq agg c [q]) [wq]))):=by
   rw[vh _ _ (by simp)];have qI:=oa hp aD;have qc:=fun w=>qH hp cells w Fg;have pX:=fun w=>m9 hp aq w sd;have pH:=fun n w=>kS hp n w;obtain⟨cG,n',dq,bR,a',b',cH,dE,c',cE⟩:=q;have eh:=lV hp 7;have jM:=kg hp (.mk 7 n aD cells a b aq agg c [aA.mk cG n' dq bR a' b' cH dE c' cE]);refine ff hp rfl rfl ?_;have S:=aj.nil [];conv=>whnf
   intro k1 a1 eg er;replace S:=S.alloc eg er;clear eg er;refine aC (S.row 0 rfl) ?_;conv=>whnf
   refine⟨_,eh _,?_⟩;refine aC (S.row 0 rfl) ?_;conv=>whnf
   refine aC (S.row 0 rfl) ?_;conv=>whnf
   refine⟨_,jM _,?_⟩;conv=>whnf
   refine fS hc ?_;clear jM eh hc;conv=>whnf
   have S:aj a1 [.row k1 (.box (aA.mk 7 n aD cells a b aq agg c [aA.mk cG n' dq bR a' b' cH dE c' cE]).enc)]:=S;refine kG ?_;refine aC (S.row 0 rfl) ?_;refine aC (S.row 0 rfl) ?_;conv=>whnf
   refine⟨_,rfl,by omega,rfl,?_⟩;conv=>whnf
   refine⟨_,hq _,?_⟩;conv=>whnf
   refine ae (fun g2=>?_) (fun g2=>?_)
   ·conv=>whnf
    exact eJ (by simp at g2;simp[g2])
   ·have wM: ¬wq<1:=by simpa using g2
    rw[if_neg wM];conv=>whnf
    intro pI pJ dT dU;replace S:=S.alloc dT dU;conv=>whnf
    refine⟨trivial,?_⟩;conv=>whnf
    refine⟨[_],bT (S.row 0 rfl),dI rfl rfl,?_⟩;replace S:=S.drop 0;dsimp only[List.eraseIdx]at S;refine oU S (by simp) (by simp[bB]) fun k3 a3 S3=>?_;have S4:aj a3 [.row k3 (.arr 1 [i64 wq]),.row k1 (.box (aA.mk 7 n aD cells a b aq agg c [aA.mk cG n' dq bR a' b' cH dE c' cE]).enc)]:=S3;clear S3 g2 hq S;have S:=S4;clear S4;conv=>whnf
    refine kG ?_
    iterate 22
     all_goals(try(conv=>whnf))
     all_goals(first|(refine⟨_,S.row 0 rfl,⟨by decide,by simp⟩,?_⟩)|(refine .inr ⟨_,_,_,S.row 0 rfl,rfl,?_⟩)|(intro iK cp ee bf;replace S:=S.alloc ee bf)|(refine aC (S.row 0 rfl) ?_)|(refine aC (S.row 1 rfl) ?_)|(refine⟨_,rfl,rfl,rfl,.inl ⟨_,S.row 0 rfl,rfl,?_⟩⟩;(conv=>whnf);intro cp bf;replace S:=S.w0 bf)|(refine⟨_,rfl,rfl,rfl,.inl ⟨_,S.row 1 rfl,rfl,?_⟩⟩;(conv=>whnf);intro cp bf;replace S:=S.w1 bf)|(refine ae (fun hb=>?_) (fun hb=>?_))|(refine⟨_,pX _ _,?_⟩)|(refine⟨_,pH _ _ _,?_⟩)|skip)
    all_goals(try(conv=>whnf))
    all_goals(refine eJ ?_;clear S qI qc pX pH;simp only[JC,nth,Int.reduceEq,if_true,if_false,aaT,Option.getD_some];simp_all;try(have TA:=MI sd;omega))
theorem Oc(hp:cF pr)(ws:List Int)(xq:ws.length<=3)(d:Nat)(hd:d+1<=6)(n:Int)(aD:Test)(cells:List Cell)(a b:Int)(aq:List Int)(agg c:Int)(q q2:aA)(wq wr:Int)(hc:clean (.mk 4 n aD cells a b aq agg c [q,q2])=true)(Fg:cells.length<=1048576)(sd:aq.length<=1048576)
  (hq:dK pr 96 [q.enc,.sl (ws.map i64),.int .i64 (IntKind.i64.wrap (((d+1:Nat):Int)-1))] (i64 wq))
  (qD:dK pr 96 [q2.enc,.sl (ws.map i64),.int .i64 (IntKind.i64.wrap (((d+1:Nat):Int)-1))] (i64 wr)):
  dK pr 96 [(aA.mk 4 n aD cells a b aq agg c [q,q2]).enc,.sl (ws.map i64),i64 ((d+1:Nat):Int)] (i64 (if wq<1 then-1 else if wr<1 then-1 else iD (bU (.mk 4 n aD cells a b aq agg c [q,q2]) [wq,wr]))):=by
   rw[vh _ _ (by simp)];generalize hR:(if wq<1 then _ else _)=R;have pH:=fun n w=>kS hp n w;obtain⟨cG,n',dq,bR,a',b',cH,dE,c',cE⟩:=q;obtain⟨oJ,n2,oL,lg,NX,b2,oM,uT,c2,oN⟩:=q2;have eh:=lV hp 4;have jM:=kg hp (.mk 4 n aD cells a b aq agg c [aA.mk cG n' dq bR a' b' cH dE c' cE,aA.mk oJ n2 oL lg NX b2 oM uT c2 oN]);refine ff hp rfl rfl ?_;have S:=aj.nil [];conv=>whnf
   intro k1 a1 eg er;replace S:=S.alloc eg er;clear eg er;refine aC (S.row 0 rfl) ?_;conv=>whnf
   refine⟨_,eh _,?_⟩;refine aC (S.row 0 rfl) ?_;conv=>whnf
   refine aC (S.row 0 rfl) ?_;conv=>whnf
   refine⟨_,jM _,?_⟩;conv=>whnf
   refine fS hc ?_;clear jM eh hc;conv=>whnf
   have S:aj a1 [.row k1 (.box (aA.mk 4 n aD cells a b aq agg c [aA.mk cG n' dq bR a' b' cH dE c' cE,aA.mk oJ n2 oL lg NX b2 oM uT c2 oN]).enc)]:=S;refine kG ?_;refine aC (S.row 0 rfl) ?_;refine aC (S.row 0 rfl) ?_;conv=>whnf
   refine⟨_,rfl,by omega,rfl,?_⟩;conv=>whnf
   refine⟨_,hq _,?_⟩;conv=>whnf
   refine ae (fun g2=>?_) (fun g2=>?_)
   ·conv=>whnf
    exact eJ (by rw[<-hR];simp at g2;simp[g2])
   ·have wM: ¬wq<1:=by simpa using g2
    rw[if_neg wM]at hR;conv=>whnf
    intro pI pJ dT dU;replace S:=S.alloc dT dU;conv=>whnf
    refine⟨trivial,?_⟩;conv=>whnf
    refine⟨[_],bT (S.row 0 rfl),dI rfl rfl,?_⟩;replace S:=S.drop 0;dsimp only[List.eraseIdx]at S;refine oU S (by simp) (by simp[bB]) fun k3 a3 S3=>?_;have S4:aj a3 [.row k3 (.arr 1 [i64 wq]),.row k1 (.box (aA.mk 4 n aD cells a b aq agg c [aA.mk cG n' dq bR a' b' cH dE c' cE,aA.mk oJ n2 oL lg NX b2 oM uT c2 oN]).enc)]:=S3;clear S3 g2 hq S;have S:=S4;clear S4;conv=>whnf
    refine kG ?_;refine aC (S.row 1 rfl) ?_;refine aC (S.row 1 rfl) ?_;conv=>whnf
    refine⟨_,rfl,by decide,rfl,?_⟩;conv=>whnf
    refine⟨_,qD _,?_⟩;conv=>whnf
    refine ae (fun g3=>?_) (fun g3=>?_)
    ·conv=>whnf
     exact eJ (by rw[<-hR];simp at g3;simp[g3])
    ·have g3': ¬wr<1:=by simpa using g3
     rw[if_neg g3']at hR;conv=>whnf
     intro pI pJ dT dU;replace S:=S.alloc dT dU;conv=>whnf
     refine⟨trivial,?_⟩;conv=>whnf
     refine⟨[_],bT (S.row 0 rfl),dI rfl rfl,?_⟩;replace S:=S.drop 0;dsimp only[List.eraseIdx]at S;refine ng S (by simp) (by simp[bB]) fun k4 a4 S4=>?_;have S5:aj a4 [.row k4 (.arr 1 [i64 wq,i64 wr]),.row k1 (.box (aA.mk 4 n aD cells a b aq agg c [aA.mk cG n' dq bR a' b' cH dE c' cE,aA.mk oJ n2 oL lg NX b2 oM uT c2 oN]).enc)]:=S4;clear S4 g3 qD S;have S:=S5;clear S5;conv=>whnf
     refine kG ?_
     iterate 24
      all_goals(try(conv=>whnf))
      all_goals(first|(refine⟨_,S.row 0 rfl,⟨by decide,by simp⟩,?_⟩)|(refine .inr ⟨_,_,_,S.row 0 rfl,rfl,?_⟩)|(intro iK cp ee bf;replace S:=S.alloc ee bf)|(refine aC (S.row 0 rfl) ?_)|(refine aC (S.row 1 rfl) ?_)|(refine⟨_,rfl,rfl,rfl,.inl ⟨_,S.row 0 rfl,rfl,?_⟩⟩;(conv=>whnf);intro cp bf;replace S:=S.w0 bf)|(refine⟨_,rfl,rfl,rfl,.inl ⟨_,S.row 1 rfl,rfl,?_⟩⟩;(conv=>whnf);intro cp bf;replace S:=S.w1 bf)|(refine ae (fun hb=>?_) (fun hb=>?_))|(refine⟨_,pH _ _ _,?_⟩)|skip)
     all_goals(try(conv=>whnf))
     all_goals(refine eJ ?_;rw[<-hR];clear S pH hR;simp only[JC,nth,Int.reduceEq,if_true,if_false,aaT,abd,Option.getD_some];simp_all;try omega)
theorem Od(hp:cF pr)(ws:List Int)(xq:ws.length<=3)(d:Nat)(hd:d+1<=6)(n:Int)(aD:Test)(cells:List Cell)(a b:Int)(aq:List Int)(agg c:Int)(q q2:aA)(wq wr:Int)(hc:clean (.mk 5 n aD cells a b aq agg c [q,q2])=true)(Fg:cells.length<=1048576)(sd:aq.length<=1048576)
  (hq:dK pr 96 [q.enc,.sl (ws.map i64),.int .i64 (IntKind.i64.wrap (((d+1:Nat):Int)-1))] (i64 wq))
  (qD:dK pr 96 [q2.enc,.sl (ws.map i64),.int .i64 (IntKind.i64.wrap (((d+1:Nat):Int)-1))] (i64 wr)):
  dK pr 96 [(aA.mk 5 n aD cells a b aq agg c [q,q2]).enc,.sl (ws.map i64),i64 ((d+1:Nat):Int)] (i64 (if wq<1 then-1 else if wr<1 then-1 else iD (bU (.mk 5 n aD cells a b aq agg c [q,q2]) [wq,wr]))):=by
   rw[vh _ _ (by simp)];generalize hR:(if wq<1 then _ else _)=R;have pH:=fun n w=>kS hp n w;obtain⟨cG,n',dq,bR,a',b',cH,dE,c',cE⟩:=q;obtain⟨oJ,n2,oL,lg,NX,b2,oM,uT,c2,oN⟩:=q2;have eh:=lV hp 5;have jM:=kg hp (.mk 5 n aD cells a b aq agg c [aA.mk cG n' dq bR a' b' cH dE c' cE,aA.mk oJ n2 oL lg NX b2 oM uT c2 oN]);refine ff hp rfl rfl ?_;have S:=aj.nil [];conv=>whnf
   intro k1 a1 eg er;replace S:=S.alloc eg er;clear eg er;refine aC (S.row 0 rfl) ?_;conv=>whnf
   refine⟨_,eh _,?_⟩;refine aC (S.row 0 rfl) ?_;conv=>whnf
   refine aC (S.row 0 rfl) ?_;conv=>whnf
   refine⟨_,jM _,?_⟩;conv=>whnf
   refine fS hc ?_;clear jM eh hc;conv=>whnf
   have S:aj a1 [.row k1 (.box (aA.mk 5 n aD cells a b aq agg c [aA.mk cG n' dq bR a' b' cH dE c' cE,aA.mk oJ n2 oL lg NX b2 oM uT c2 oN]).enc)]:=S;refine kG ?_;refine aC (S.row 0 rfl) ?_;refine aC (S.row 0 rfl) ?_;conv=>whnf
   refine⟨_,rfl,by omega,rfl,?_⟩;conv=>whnf
   refine⟨_,hq _,?_⟩;conv=>whnf
   refine ae (fun g2=>?_) (fun g2=>?_)
   ·conv=>whnf
    exact eJ (by rw[<-hR];simp at g2;simp[g2])
   ·have wM: ¬wq<1:=by simpa using g2
    rw[if_neg wM]at hR;conv=>whnf
    intro pI pJ dT dU;replace S:=S.alloc dT dU;conv=>whnf
    refine⟨trivial,?_⟩;conv=>whnf
    refine⟨[_],bT (S.row 0 rfl),dI rfl rfl,?_⟩;replace S:=S.drop 0;dsimp only[List.eraseIdx]at S;refine oU S (by simp) (by simp[bB]) fun k3 a3 S3=>?_;have S4:aj a3 [.row k3 (.arr 1 [i64 wq]),.row k1 (.box (aA.mk 5 n aD cells a b aq agg c [aA.mk cG n' dq bR a' b' cH dE c' cE,aA.mk oJ n2 oL lg NX b2 oM uT c2 oN]).enc)]:=S3;clear S3 g2 hq S;have S:=S4;clear S4;conv=>whnf
    refine kG ?_;refine aC (S.row 1 rfl) ?_;refine aC (S.row 1 rfl) ?_;conv=>whnf
    refine⟨_,rfl,by decide,rfl,?_⟩;conv=>whnf
    refine⟨_,qD _,?_⟩;conv=>whnf
    refine ae (fun g3=>?_) (fun g3=>?_)
    ·conv=>whnf
     exact eJ (by rw[<-hR];simp at g3;simp[g3])
    ·have g3': ¬wr<1:=by simpa using g3
     rw[if_neg g3']at hR;conv=>whnf
     intro pI pJ dT dU;replace S:=S.alloc dT dU;conv=>whnf
     refine⟨trivial,?_⟩;conv=>whnf
     refine⟨[_],bT (S.row 0 rfl),dI rfl rfl,?_⟩;replace S:=S.drop 0;dsimp only[List.eraseIdx]at S;refine ng S (by simp) (by simp[bB]) fun k4 a4 S4=>?_;have S5:aj a4 [.row k4 (.arr 1 [i64 wq,i64 wr]),.row k1 (.box (aA.mk 5 n aD cells a b aq agg c [aA.mk cG n' dq bR a' b' cH dE c' cE,aA.mk oJ n2 oL lg NX b2 oM uT c2 oN]).enc)]:=S4;clear S4 g3 qD S;have S:=S5;clear S5;conv=>whnf
     refine kG ?_
     iterate 24
      all_goals(try(conv=>whnf))
      all_goals(first|(refine⟨_,S.row 0 rfl,⟨by decide,by simp⟩,?_⟩)|(refine .inr ⟨_,_,_,S.row 0 rfl,rfl,?_⟩)|(intro iK cp ee bf;replace S:=S.alloc ee bf)|(refine aC (S.row 0 rfl) ?_)|(refine aC (S.row 1 rfl) ?_)|(refine⟨_,rfl,rfl,rfl,.inl ⟨_,S.row 0 rfl,rfl,?_⟩⟩;(conv=>whnf);intro cp bf;replace S:=S.w0 bf)|(refine⟨_,rfl,rfl,rfl,.inl ⟨_,S.row 1 rfl,rfl,?_⟩⟩;(conv=>whnf);intro cp bf;replace S:=S.w1 bf)|(refine ae (fun hb=>?_) (fun hb=>?_))|skip)
     all_goals(try(conv=>whnf))
     all_goals(refine eJ ?_;rw[<-hR];clear S pH hR;simp only[JC,nth,Int.reduceEq,if_true,if_false,aaT,abd,Option.getD_some];simp_all;try omega)
theorem Ra(hp:cF pr)(ws:List Int)(xq:ws.length<=3): ∀(d:Nat)(p:aA),p.small->d<=6->dK pr 96 [p.enc,.sl (ws.map i64),i64 d] (i64 (du ws d p)):=by
 intro d
 induction d with
 |zero=>
  intro p gu hd;obtain⟨au,n,aD,cells,a,b,aq,agg,c,ao⟩:=p;refine ff hp rfl rfl ?_;have S:=aj.nil [];conv=>whnf
  intro k1 a1 eg er;replace S:=S.alloc eg er;conv=>whnf
  exact eJ (by simp[du])
 |succ d ih=>
  intro p gu hd;obtain⟨au,n,aD,cells,a,b,aq,agg,c,ao⟩:=p;obtain⟨sc,lf,gS,gE⟩:=eE gu;have hw:=xQ d (by omega);have eZ:=fun(q:aA)(hq:q∈ao)=>hw▸ih q (gE q hq) (by omega);clear ih hw
  by_cases tN:shaped (.mk au n aD cells a b aq agg c ao)=true
  ·have YU:=tN;simp only[shaped,aA.au,aA.ao,xz,beq_iff_eq]at YU;obtain⟨hlen,hc⟩:=YU;rcases fU au with rfl|rfl|rfl|rfl|rfl|rfl|rfl|⟨h1,h2,h3,h4,h5,h6,h7⟩
   ·have Pc:ao=[]:=by have h:cU 1=0:=rfl;exact aaM.1 (by omega)
    subst Pc;have hP:du ws (d+1) (.mk 1 n aD cells a b aq agg c [])=iD (bU (.mk 1 n aD cells a b aq agg c []) ws):=by rw[du,if_pos tN];rfl
    rw[hP];exact N7 hp ws xq d hd n aD cells a b aq agg c hc
   ·obtain⟨q,rfl⟩:=Ir (l:=ao) (by have h:cU 2=1:=rfl;omega);rw[lD tN (by decide)];exact N8 hp ws xq d hd n aD cells a b aq agg c q _ hc sc lf (eZ q (by simp))
   ·obtain⟨q,rfl⟩:=Ir (l:=ao) (by have h:cU 3=1:=rfl;omega);rw[lD tN (by decide)];exact N9 hp ws xq d hd n aD cells a b aq agg c q _ hc sc lf (eZ q (by simp))
   ·obtain⟨q,q2,rfl⟩:=TS (l:=ao) (by have h:cU 4=2:=rfl;omega);rw[tU tN (by decide)];exact Oc hp ws xq d hd n aD cells a b aq agg c q q2 _ _ hc sc lf (eZ q (by simp)) (eZ q2 (by simp))
   ·obtain⟨q,q2,rfl⟩:=TS (l:=ao) (by have h:cU 5=2:=rfl;omega);rw[tU tN (by decide)];exact Od hp ws xq d hd n aD cells a b aq agg c q q2 _ _ hc sc lf (eZ q (by simp)) (eZ q2 (by simp))
   ·obtain⟨q,rfl⟩:=Ir (l:=ao) (by have h:cU 6=1:=rfl;omega);rw[lD tN (by decide)];exact Oa hp ws xq d hd n aD cells a b aq agg c q _ hc sc lf (eZ q (by simp))
   ·obtain⟨q,rfl⟩:=Ir (l:=ao) (by have h:cU 7=1:=rfl;omega);rw[lD tN (by decide)];exact Ob hp ws xq d hd n aD cells a b aq agg c q _ hc sc lf (eZ q (by simp))
   ·exfalso;simp only[beq_eq_false_iff_ne,ne_eq]at*;simp[cU,h1,h2,h3,h4,h5,h6,h7]at hlen
    try omega
  ·have Wo:shaped (.mk au n aD cells a b aq agg c ao)=false:=by simpa using tN
   have hP:du ws (d+1) (.mk au n aD cells a b aq agg c ao)= -1:=by rw[du,Wo];rfl
   rw[hP];have eh:=lV hp au;have jM:=kg hp (.mk au n aD cells a b aq agg c ao);have kD:=eH ao;refine ff hp rfl rfl ?_;have S:=aj.nil [];conv=>whnf
   intro k1 a1 eg er;replace S:=S.alloc eg er;refine aC (S.row 0 rfl) ?_;conv=>whnf
   refine⟨_,eh _,?_⟩;refine aC (S.row 0 rfl) ?_;conv=>whnf
   refine ae (fun g0=>?_) (fun g0=>?_)
   ·conv=>whnf
    exact eJ rfl
   ·rw[kD]at g0;refine aC (S.row 0 rfl) ?_;conv=>whnf
    refine⟨_,jM _,?_⟩;conv=>whnf
    refine bm ?_ ?_
    ·simp only[shaped,aA.au,aA.ao,Bool.and_eq_false_iff]at Wo;rcases Wo with h|h
     ·simp at g0;simp[g0]at h
     ·exact h
    conv=>whnf
    exact eJ rfl
def dY(p:aA)(ws:List Int):Int:=if decide (ws.length<=3)&&decide (many 6 p<=10)then du ws 6 p else-1
theorem qd(hp:cF pr)(p:aA)(ws:List Int)(gu:p.small):dK pr 60 [p.enc,.sl (ws.map i64)] (i64 (dY p ws)):=by
 have h1:=Hr hp 6 p gu (by omega);have h2:ws.length<=3->_:=fun h=>Ra hp ws h 6 p gu (by omega);unfold dY;obtain⟨au,n,aD,cells,a,b,aq,agg,c,ao⟩:=p;refine ff hp rfl rfl ?_;have S:=aj.nil [];conv=>whnf
 intro k1 a1 eg er;replace S:=S.alloc eg er;conv=>whnf
 refine ae (fun g1=>?_) (fun g1=>?_)
 ·have:decide (ws.length<=3)=false:=by simp at g1⊢;omega
  rw[this];conv=>whnf
  exact eJ rfl
 ·have h3:ws.length<=3:=by simp at g1;omega
  have:decide (ws.length<=3)=true:=by simp[h3]
  rw[this,aay];refine aC (S.row 0 rfl) ?_;conv=>whnf
  refine⟨_,h1 _,?_⟩;conv=>whnf
  refine ae (fun g2=>?_) (fun g2=>?_)
  ·have:decide (many 6 (aA.mk au n aD cells a b aq agg c ao)<=10)=false:=by simp at g2⊢;omega
   rw[this];conv=>whnf
   exact eJ rfl
  ·have:decide (many 6 (aA.mk au n aD cells a b aq agg c ao)<=10)=true:=by simp at g2⊢;omega
   rw[this];refine aC (S.row 0 rfl) ?_;conv=>whnf
   refine⟨_,h2 h3 _,?_⟩;conv=>whnf
   exact eJ rfl
end Go.Proofs.YtfepbikckfehlaaGreat
set_option maxHeartbeats 4000000
namespace Go.Proofs.YtfepbikckfehlaaGreat
open Go Go.Am
theorem x6(w:Int):iD w= -1∨(1<=iD w/\iD w<=6):=by
 unfold iD;split
 ·rename_i h;simp only[xz,decide_eq_true_iff]at h;exact .inr h
 ·exact .inl rfl
theorem y7(ws:List Int)(p:aA):cr iD ws p= -1∨(1<=cr iD ws p/\cr iD ws p<=6):=by
 obtain⟨au,n,aD,cells,a,b,aq,agg,c,ao⟩:=p;rw[cr]
 repeat' split
 all_goals first|exact .inl rfl|exact x6 _
theorem Rb(ws:List Int): ∀(d:Nat)(p:aA),dep p<=d->du ws d p=cr iD ws p:=by
 intro d
 induction d with
 |zero=>intro p h;obtain⟨au,n,aD,cells,a,b,aq,agg,c,ao⟩:=p;simp only[dep]at h;omega
 |succ d ih=>
  intro p h;obtain⟨au,n,aD,cells,a,b,aq,agg,c,ao⟩:=p;simp only[dep]at h;have vU: ∀q∈ao,du ws d q=cr iD ws q:=fun q hq=>ih q (by have:=sW hq;omega)
  have xq:nG ws d ao=ic iD ws ao:=by
   clear h
   induction ao with
   |nil=>simp[nG,ic]
   |cons q qs KV=>
    have h1:=vU q (by simp);have h2:=KV fun r hr=>vU r (by simp[hr]);simp only[nG,ic,h1,h2];rcases y7 ws q with e|e
    ·rw[e];rfl
    ·have e1: ¬cr iD ws q<1:=by omega
     have e2:(cr iD ws q== -1)=false:=by simp;omega
     rw[if_neg e1,e2];rfl
  rw[du,cr]
  by_cases hs:shaped (.mk au n aD cells a b aq agg c ao)=true
  ·rw[if_pos hs,if_pos hs]
   by_cases hk:au=1
   ·rw[if_pos hk,if_pos hk]
    cases ws with
    |nil=>
     subst hk
     have:bU (.mk 1 n aD cells a b aq agg c ao) []= -1:=by
      show(if decide (0<=n)&&decide (n<(([]:List Int).length:Int))then nth [] n.toNat else-1)= -1;rw[if_neg];simp<;>omega
     rw[this]
     rfl
    |cons w ws=>rfl
   ·rw[if_neg hk,if_neg hk,xq]
    cases hw:ic iD ws ao with
    |none=>rfl
    |some l=>
     have mD:l.isEmpty=false:=by
      cases ao with
      |nil=>
       exfalso;simp only[shaped,aA.au,aA.ao,xz,beq_iff_eq]at hs;have:=hs.1;rcases fU au with rfl|rfl|rfl|rfl|rfl|rfl|rfl|⟨h1,h2,h3,h4,h5,h6,h7⟩
       ·exact hk rfl
       all_goals first|(simp[cU]at this;done)|(simp only[beq_eq_false_iff_ne,ne_eq]at*;simp[cU,h1,h2,h3,h4,h5,h6,h7]at this)
      |cons q qs=>
       simp only[ic]at hw;split at hw
       ·cases hw
       ·cases hq:ic iD ws qs with
        |none=>rw[hq]at hw;cases hw
        |some m=>rw[hq]at hw;simp only[aaL,Option.some.injEq]at hw;subst hw;rfl
     simp only[mD];rfl
  ·rw[if_neg hs,if_neg hs]
theorem KW(ws:List Int): ∀(d:Nat)(p:aA),d<dep p->du ws d p= -1:=by
 intro d
 induction d with
 |zero=>intro p h;simp[du]
 |succ d ih=>
  intro p h;obtain⟨au,n,aD,cells,a,b,aq,agg,c,ao⟩:=p;simp only[dep]at h
  have hw:nG ws d ao=none:=by
   have hd:d<dO ao:=by omega
   clear h
   induction ao with
   |nil=>simp[dO]at hd
   |cons q qs KV=>
    simp only[dO]at hd;simp only[nG]
    by_cases h1:d<dep q
    ·rw[ih q h1];rfl
    ·rw[KV (by omega)];split<;>rfl
  rw[du]
  by_cases hs:shaped (.mk au n aD cells a b aq agg c ao)=true
  ·rw[if_pos hs]
   by_cases hk:au=1
   ·exfalso;subst hk;simp only[shaped,aA.au,aA.ao,xz,beq_iff_eq]at hs;have h1:cU 1=0:=rfl;have:ao=[]:=aaM.1 (by omega);subst this;simp[dO]at h
   ·rw[if_neg hk,hw]
  ·rw[if_neg hs]
theorem Is(p:aA)(ws:List Int):dY p ws=iQ p ws:=by
 unfold dY iQ;rw[Bb]
 by_cases hd:dep p<=6
 ·rw[HQ 6 p (by omega),Rb ws 6 p hd];simp[hd]
 ·rw[KW ws 6 p (by omega)];simp[hd]
end Go.Proofs.YtfepbikckfehlaaGreat

/- How wide plans are over tables: the reference's. -/
import Derived.Test.YtfepbikckfehlaaGreatGH30
import Derived.Test.YtfepbikckfehlaaGreatGH13
import Derived.Test.YtfepbikckfehlaaGreatGH22
set_option linter.unusedVariables false
set_option linter.unusedSimpArgs false
set_option maxHeartbeats 4000000
namespace Go.Proofs.YtfepbikckfehlaaGreat
open Go Go.Am
variable{pr:bL}(hp:bV pr)
set_option maxRecDepth 100000
def gC(w:Int):Int:=if decide (1<=w)&&decide (w<=6)then w else-1
theorem GM(hp:bV pr)(w:Int):dm pr 31 [i64 w] (i64 (gC w)):=by
 have h:=fun ok=>lN hp ok w;refine bY hp rfl rfl ?_
 iterate 5
  all_goals(try(conv=>whnf))
  all_goals(first|(refine ae (fun hb=>?_) (fun hb=>?_))|(refine⟨_,h _ _,?_⟩)|skip)
 all_goals exact bR (by first|(simp_all[gC];done)|(simp_all[gC];omega))
def Xc:af:=.func (.func 31) [] []
theorem MF(hp:bV pr)(ws:List Int)(vG:ws.length<=1048576): ∀(N:Nat)(p:ax),SizeOf.sizeOf p<=N->p.small->dm pr 30 [p.enc,.sl (ws.map i64),Xc] (i64 (bQ gC ws p)):=by
 intro N
 induction N with
 |zero=>intro p h;exfalso;cases p;simp at h
 |succ N ih=>
 intro p hs fm;have sf:=GH hp p fm;have qV:=DJ hp;have xa:=GM hp;obtain⟨aw,n,aA,cells,a,b,ao,agg,c,al⟩:=p;obtain⟨qM,jK,fL,fB⟩:=dK fm;have eI: ∀q∈al,dm pr 30 [q.enc,.sl (ws.map i64),Xc] (i64 (bQ gC ws q)):=fun q hq=>ih q (by have:=List.sizeOf_lt_of_mem hq;simp at hs;omega) (fB q hq);clear ih hs;refine bY hp rfl rfl ?_;conv=>whnf
 refine⟨_,sf _,?_⟩;conv=>whnf
 refine ae (fun g0=>?_) (fun g0=>?_)
 ·have hlen:bX aw=al.length:=by simp only[shaped,ax.aw,ax.al,aj,beq_iff_eq]at g0;exact g0.1
  rcases eR aw with rfl|rfl|rfl|rfl|rfl|rfl|rfl|⟨h1,h2,h3,h4,h5,h6,h7⟩
  ·have hw:=fun h0=>xJ hp n aA cells a b ao agg c al ws h0 vG;have hP:bQ gC ws (.mk 1 n aA cells a b ao agg c al)=if ws.isEmpty then-1 else gC (bI (.mk 1 n aA cells a b ao agg c al) ws):=by rw[bQ,if_pos g0];rfl
   rw[hP];conv=>whnf
   refine ae (fun g1=>?_) (fun g1=>?_)
   ·conv=>whnf
    have:ws.isEmpty=true:=by simp at g1;simp[g1]
    exact bR (by rw[this];rfl)
   ·have kY:ws.isEmpty=false:=by simp at g1;simp[g1]
    conv=>whnf
    refine⟨_,qV _,?_⟩;conv=>whnf
    refine⟨_,hw (by simpa using kY) _,?_⟩;conv=>whnf
    refine⟨_,xa _ _,?_⟩;conv=>whnf
    exact bR (by rw[kY];rfl)
  ·match al,hlen,eI with
   | [q],_,eI=>
    have hq:=eI q (by simp);have hw:=fun w=>xK hp n aA cells a b ao agg c [q] w []
    have hP:bQ gC ws (.mk 2 n aA cells a b ao agg c [q])=if bQ gC ws q== -1 then-1 else gC (bI (.mk 2 n aA cells a b ao agg c [q]) [bQ gC ws q]):=by
     rw[bQ,if_pos g0];simp only[fY];cases(bQ gC ws q== -1)<;>rfl
    rw[hP];clear eI hP;generalize bQ gC ws q=wq at*;obtain⟨cd,n',cr,bK,a',b',cm,cX,c',bU⟩:=q;conv=>whnf
    refine cn ?_;conv=>whnf
    refine⟨_,rfl,by omega,rfl,?_⟩;conv=>whnf
    refine⟨_,hq _,?_⟩;conv=>whnf
    refine ae (fun g1=>?_) (fun g1=>?_)
    ·conv=>whnf
     exact bR (by rw[g1];rfl)
    ·conv=>whnf
     refine⟨trivial,?_⟩;conv=>whnf
     refine⟨rfl,?_⟩;conv=>whnf
     refine⟨by show 1<=4294967296;omega,?_⟩;conv=>whnf
     refine cn ?_;conv=>whnf
     refine⟨_,qV _,?_⟩;conv=>whnf
     refine⟨_,(hw wq).frozen rfl rfl rfl rfl,?_⟩;conv=>whnf
     refine⟨_,xa _ _,?_⟩;conv=>whnf
     exact bR (by rw[g1];rfl)
   | [],hk,_=>simp[bX]at hk
   |_::_::_,hk,_=>simp[bX]at hk;omega
  ·match al,hlen,eI with
   | [q],_,eI=>
    have hq:=eI q (by simp);have hw:=fun w=>Cj hp n aA cells a b ao agg c [q] w [] qM
    have hP:bQ gC ws (.mk 3 n aA cells a b ao agg c [q])=if bQ gC ws q== -1 then-1 else gC (bI (.mk 3 n aA cells a b ao agg c [q]) [bQ gC ws q]):=by
     rw[bQ,if_pos g0];simp only[fY];cases(bQ gC ws q== -1)<;>rfl
    rw[hP];clear eI hP;generalize bQ gC ws q=wq at*;obtain⟨cd,n',cr,bK,a',b',cm,cX,c',bU⟩:=q;conv=>whnf
    refine cn ?_;conv=>whnf
    refine⟨_,rfl,by omega,rfl,?_⟩;conv=>whnf
    refine⟨_,hq _,?_⟩;conv=>whnf
    refine ae (fun g1=>?_) (fun g1=>?_)
    ·conv=>whnf
     exact bR (by rw[g1];rfl)
    ·conv=>whnf
     refine⟨trivial,?_⟩;conv=>whnf
     refine⟨rfl,?_⟩;conv=>whnf
     refine⟨by show 1<=4294967296;omega,?_⟩;conv=>whnf
     refine cn ?_;conv=>whnf
     refine⟨_,qV _,?_⟩;conv=>whnf
     refine⟨_,(hw wq).frozen rfl rfl rfl rfl,?_⟩;conv=>whnf
     refine⟨_,xa _ _,?_⟩;conv=>whnf
     exact bR (by rw[g1];rfl)
   | [],hk,_=>simp[bX]at hk
   |_::_::_,hk,_=>simp[bX]at hk;omega
  ·match al,hlen,eI with
   | [q,q2],_,eI=>
    have hq:=eI q (by simp);have pg:=eI q2 (by simp);have hw:=fun w v=>Ad hp n aA cells a b ao agg c [q,q2] w v []
    have hP:bQ gC ws (.mk 4 n aA cells a b ao agg c [q,q2])=if bQ gC ws q== -1 then-1 else if bQ gC ws q2== -1 then-1 else gC (bI (.mk 4 n aA cells a b ao agg c [q,q2]) [bQ gC ws q,bQ gC ws q2]):=by
     rw[bQ,if_pos g0];simp only[fY];cases(bQ gC ws q== -1)<;>cases(bQ gC ws q2== -1)<;>rfl
    rw[hP];clear eI hP;generalize bQ gC ws q=wq at*;generalize bQ gC ws q2=UE at*;obtain⟨cd,n',cr,bK,a',b',cm,cX,c',bU⟩:=q;obtain⟨nv,n2,nx,jQ,a2,b2,nz,tO,c2,nA⟩:=q2;conv=>whnf
    refine cn ?_;conv=>whnf
    refine⟨_,rfl,by omega,rfl,?_⟩;conv=>whnf
    refine⟨_,hq _,?_⟩;conv=>whnf
    refine ae (fun g1=>?_) (fun g1=>?_)
    ·conv=>whnf
     exact bR (by rw[g1];rfl)
    ·conv=>whnf
     refine⟨trivial,?_⟩;conv=>whnf
     refine⟨rfl,?_⟩;conv=>whnf
     refine⟨by show 1<=4294967296;omega,?_⟩;conv=>whnf
     refine cn ?_;conv=>whnf
     refine⟨_,rfl,by decide,rfl,?_⟩;conv=>whnf
     refine⟨_,pg _,?_⟩;conv=>whnf
     refine ae (fun g2=>?_) (fun g2=>?_)
     ·conv=>whnf
      exact bR (by rw[g1,g2];rfl)
     ·conv=>whnf
      refine⟨trivial,?_⟩;conv=>whnf
      refine⟨rfl,?_⟩;conv=>whnf
      refine⟨rfl,rfl,by show 1<=1;omega,?_⟩;conv=>whnf
      refine⟨by show 1+1<=4294967296;omega,?_⟩;conv=>whnf
      refine cn ?_;conv=>whnf
      refine⟨_,qV _,?_⟩;conv=>whnf
      refine⟨_,(hw wq UE).frozen rfl rfl rfl rfl,?_⟩;conv=>whnf
      refine⟨_,xa _ _,?_⟩;conv=>whnf
      exact bR (by rw[g1,g2];rfl)
   | [],hk,_=>simp[bX]at hk
   | [_],hk,_=>simp[bX]at hk
   |_::_::_::_,hk,_=>simp[bX]at hk;omega
  ·match al,hlen,eI with
   | [q,q2],_,eI=>
    have hq:=eI q (by simp);have pg:=eI q2 (by simp);have hw:=fun w v=>Ae hp n aA cells a b ao agg c [q,q2] w v []
    have hP:bQ gC ws (.mk 5 n aA cells a b ao agg c [q,q2])=if bQ gC ws q== -1 then-1 else if bQ gC ws q2== -1 then-1 else gC (bI (.mk 5 n aA cells a b ao agg c [q,q2]) [bQ gC ws q,bQ gC ws q2]):=by
     rw[bQ,if_pos g0];simp only[fY];cases(bQ gC ws q== -1)<;>cases(bQ gC ws q2== -1)<;>rfl
    rw[hP];clear eI hP;generalize bQ gC ws q=wq at*;generalize bQ gC ws q2=UE at*;obtain⟨cd,n',cr,bK,a',b',cm,cX,c',bU⟩:=q;obtain⟨nv,n2,nx,jQ,a2,b2,nz,tO,c2,nA⟩:=q2;conv=>whnf
    refine cn ?_;conv=>whnf
    refine⟨_,rfl,by omega,rfl,?_⟩;conv=>whnf
    refine⟨_,hq _,?_⟩;conv=>whnf
    refine ae (fun g1=>?_) (fun g1=>?_)
    ·conv=>whnf
     exact bR (by rw[g1];rfl)
    ·conv=>whnf
     refine⟨trivial,?_⟩;conv=>whnf
     refine⟨rfl,?_⟩;conv=>whnf
     refine⟨by show 1<=4294967296;omega,?_⟩;conv=>whnf
     refine cn ?_;conv=>whnf
     refine⟨_,rfl,by decide,rfl,?_⟩;conv=>whnf
     refine⟨_,pg _,?_⟩;conv=>whnf
     refine ae (fun g2=>?_) (fun g2=>?_)
     ·conv=>whnf
      exact bR (by rw[g1,g2];rfl)
     ·conv=>whnf
      refine⟨trivial,?_⟩;conv=>whnf
      refine⟨rfl,?_⟩;conv=>whnf
      refine⟨rfl,rfl,by show 1<=1;omega,?_⟩;conv=>whnf
      refine⟨by show 1+1<=4294967296;omega,?_⟩;conv=>whnf
      refine cn ?_;conv=>whnf
      refine⟨_,qV _,?_⟩;conv=>whnf
      refine⟨_,(hw wq UE).frozen rfl rfl rfl rfl,?_⟩;conv=>whnf
      refine⟨_,xa _ _,?_⟩;conv=>whnf
      exact bR (by rw[g1,g2];rfl)
   | [],hk,_=>simp[bX]at hk
   | [_],hk,_=>simp[bX]at hk
   |_::_::_::_,hk,_=>simp[bX]at hk;omega
  ·match al,hlen,eI with
   | [q],_,eI=>
    have hq:=eI q (by simp);have hw:=fun w=>Af hp n aA cells a b ao agg c [q] w []
    have hP:bQ gC ws (.mk 6 n aA cells a b ao agg c [q])=if bQ gC ws q== -1 then-1 else gC (bI (.mk 6 n aA cells a b ao agg c [q]) [bQ gC ws q]):=by
     rw[bQ,if_pos g0];simp only[fY];cases(bQ gC ws q== -1)<;>rfl
    rw[hP];clear eI hP;generalize bQ gC ws q=wq at*;obtain⟨cd,n',cr,bK,a',b',cm,cX,c',bU⟩:=q;conv=>whnf
    refine cn ?_;conv=>whnf
    refine⟨_,rfl,by omega,rfl,?_⟩;conv=>whnf
    refine⟨_,hq _,?_⟩;conv=>whnf
    refine ae (fun g1=>?_) (fun g1=>?_)
    ·conv=>whnf
     exact bR (by rw[g1];rfl)
    ·conv=>whnf
     refine⟨trivial,?_⟩;conv=>whnf
     refine⟨rfl,?_⟩;conv=>whnf
     refine⟨by show 1<=4294967296;omega,?_⟩;conv=>whnf
     refine cn ?_;conv=>whnf
     refine⟨_,qV _,?_⟩;conv=>whnf
     refine⟨_,(hw wq).frozen rfl rfl rfl rfl,?_⟩;conv=>whnf
     refine⟨_,xa _ _,?_⟩;conv=>whnf
     exact bR (by rw[g1];rfl)
   | [],hk,_=>simp[bX]at hk
   |_::_::_,hk,_=>simp[bX]at hk;omega
  ·match al,hlen,eI with
   | [q],_,eI=>
    have hq:=eI q (by simp);have hw:=fun w=>xM hp n aA cells a b ao agg c [q] w [] jK
    have hP:bQ gC ws (.mk 7 n aA cells a b ao agg c [q])=if bQ gC ws q== -1 then-1 else gC (bI (.mk 7 n aA cells a b ao agg c [q]) [bQ gC ws q]):=by
     rw[bQ,if_pos g0];simp only[fY];cases(bQ gC ws q== -1)<;>rfl
    rw[hP];clear eI hP;generalize bQ gC ws q=wq at*;obtain⟨cd,n',cr,bK,a',b',cm,cX,c',bU⟩:=q;conv=>whnf
    refine cn ?_;conv=>whnf
    refine⟨_,rfl,by omega,rfl,?_⟩;conv=>whnf
    refine⟨_,hq _,?_⟩;conv=>whnf
    refine ae (fun g1=>?_) (fun g1=>?_)
    ·conv=>whnf
     exact bR (by rw[g1];rfl)
    ·conv=>whnf
     refine⟨trivial,?_⟩;conv=>whnf
     refine⟨rfl,?_⟩;conv=>whnf
     refine⟨by show 1<=4294967296;omega,?_⟩;conv=>whnf
     refine cn ?_;conv=>whnf
     refine⟨_,qV _,?_⟩;conv=>whnf
     refine⟨_,(hw wq).frozen rfl rfl rfl rfl,?_⟩;conv=>whnf
     refine⟨_,xa _ _,?_⟩;conv=>whnf
     exact bR (by rw[g1];rfl)
   | [],hk,_=>simp[bX]at hk
   |_::_::_,hk,_=>simp[bX]at hk;omega
  ·exfalso;simp only[beq_eq_false_iff_ne,ne_eq]at*;simp[bX,h1,h2,h3,h4,h5,h6,h7]at hlen
   try omega
 ·conv=>whnf
  exact bR (by rw[bQ,if_neg (by rw[g0];simp)])
def fq(p:ax)(ws:List Int):Int:=if decide (ws.length<=3)&&kE p then bQ gC ws p else-1
theorem xO(hs:B8 pr)(p:ax)(ws:List Int)(fm:p.small)(hl:ws.length<=1048576):dm pr 10 [p.enc,.sl (ws.map i64)] (i64 (fq p ws)):=by
 have h1:=hs.size p fm;have h2:=MF hs.tobV ws hl _ p (aB _) fm;unfold fq;obtain⟨aw,n,aA,cells,a,b,ao,agg,c,al⟩:=p;refine ea hs.tobV rfl rfl ?_;have S:ah [] []:=ah.nil [];conv=>whnf
 intro k1 a1 dw dC;replace S:=S.alloc dw dC;conv=>whnf
 refine ae (fun g1=>?_) (fun g1=>?_)
 ·have:decide (ws.length<=3)=false:=by simp at g1⊢;omega
  rw[this];conv=>whnf
  exact dO rfl
 ·have:decide (ws.length<=3)=true:=by simp at g1⊢;omega
  rw[this,aX];conv=>whnf
  refine aI (S.row 0 rfl) ?_;conv=>whnf
  refine⟨_,h1 _,?_⟩;conv=>whnf
  refine ae (fun g2=>?_) (fun g2=>?_)
  ·rw[g2];conv=>whnf
   refine aI (S.row 0 rfl) ?_;conv=>whnf
   refine⟨_,h2 _,?_⟩;conv=>whnf
   exact dO rfl
  ·rw[g2];conv=>whnf
   exact dO rfl
end Go.Proofs.YtfepbikckfehlaaGreat
set_option maxHeartbeats 4000000
namespace Go.Proofs.YtfepbikckfehlaaGreat
open Go Go.Am
variable{pr:bL}(hp:bV pr)
set_option maxRecDepth 100000
mutual
def cy(ws:List Int):Nat->ax->Int
 |0,_=>-1
 |d+1,.mk aw n aA cells a b ao agg c al=>
  if shaped (.mk aw n aA cells a b ao agg c al)then
   (if aw=1 then gC (bI (.mk aw n aA cells a b ao agg c al) ws)
   else match mc ws d al with
    |none=>-1
    |some l=>gC (bI (.mk aw n aA cells a b ao agg c al) l))
  else-1
def mc(ws:List Int):Nat->List ax->Option (List Int)
 |_,[]=>some []
 |d,p::ps=>if cy ws d p<1 then none else(mc ws d ps).map (cy ws d p:: ·)
end
theorem R0{ok:Bool}{w:Int}{x:Int}(h:x=if ok then w else-1):gC x=if !ok||(decide (w<1)||decide (w>6))then-1 else w:=by
 subst h;unfold gC
 cases ok with
 |false=>rfl
 |true=>
  by_cases h1:w<1
  ·have: ¬1<=w:=by omega
   simp[h1,this]
  ·have NS:1<=w:=by omega
   by_cases h2:w>6
   ·have: ¬w<=6:=by omega
    simp[h1,h2,this]
   ·have BF:w<=6:=by omega
    simp[h1,h2,NS,BF]
theorem GN{α:Type}{l:List α}(h:l.length=1): ∃q,l=[q]:=by
 match l,h with
 | [q],_=>exact⟨q,rfl⟩
theorem R4{α:Type}{l:List α}(h:l.length=2): ∃q r,l=[q,r]:=by
 match l,h with
 | [q,r],_=>exact⟨q,r,rfl⟩
theorem j4{ws:List Int}{d:Nat}{aw n:Int}{aA:Test}{cells:List Cell}{a b:Int}{ao:List Int}{agg c:Int}{q:ax}(sf:shaped (.mk aw n aA cells a b ao agg c [q])=true)(hk:aw≠1):
  cy ws (d+1) (.mk aw n aA cells a b ao agg c [q])=if cy ws d q<1 then-1 else gC (bI (.mk aw n aA cells a b ao agg c [q]) [cy ws d q]):=by
   rw[cy,if_pos sf,if_neg hk];simp only[mc]
   by_cases h:cy ws d q<1
   ·simp[h]
   ·simp[h]
theorem sx{ws:List Int}{d:Nat}{aw n:Int}{aA:Test}{cells:List Cell}{a b:Int}{ao:List Int}{agg c:Int}{q r:ax}(sf:shaped (.mk aw n aA cells a b ao agg c [q,r])=true)(hk:aw≠1):
  cy ws (d+1) (.mk aw n aA cells a b ao agg c [q,r])=if cy ws d q<1 then-1 else if cy ws d r<1 then-1 else gC (bI (.mk aw n aA cells a b ao agg c [q,r]) [cy ws d q,cy ws d r]):=by
   rw[cy,if_pos sf,if_neg hk];simp only[mc]
   by_cases h:cy ws d q<1
   ·simp[h]
   ·by_cases h2:cy ws d r<1
    ·simp[h,h2]
    ·simp[h,h2]
theorem KY{l:Nat}(h:l<=1048576):IntKind.i64.wrap ((l:Int)+1)=(l:Int)+1:=by rw[aY];omega
def HH:ax->List Int->Bool×Int
 | .mk aw n aA cells a b ao agg c _,ws=>
  if aw=1 then(decide (0<=n)&&(decide (n<ws.length)&&decide (n<3)),nth ws n.toNat)
  else if aw=2 then(jG aA (nth ws 0),nth ws 0)
  else if aw=3 then(ja cells (nth ws 0),cells.length)
  else if aw=4 then(col a (nth ws 0)&&col b (nth ws 1),IntKind.i64.wrap (nth ws 0+nth ws 1))
  else if aw=5 then(nth ws 0==nth ws 1,nth ws 0)
  else if aw=6 then(true,nth ws 0)
  else(dY ao (nth ws 0)&&(decide (0<=agg)&&(decide (agg<=3)&&col c (nth ws 0))),(ao.length:Int)+1)
theorem UI(p:ax)(ws:List Int)(hw:ws.length<=3):bI p ws=if(HH p ws).1 then(HH p ws).2 else-1:=by
 obtain⟨aw,n,aA,cells,a,b,ao,agg,c,al⟩:=p
 have e1:(decide (0<=n)&&decide (n<ws.length))=(decide (0<=n)&&(decide (n<ws.length)&&decide (n<3))):=by
  by_cases h:n<ws.length
  ·have:n<3:=by omega
   simp[h,this]
  ·simp[h]
 rcases eR aw with rfl|rfl|rfl|rfl|rfl|rfl|rfl|⟨h1,h2,h3,h4,h5,h6,h7⟩
 ·show(if decide (0<=n)&&decide (n<ws.length)then nth ws n.toNat else-1)=if decide (0<=n)&&(decide (n<ws.length)&&decide (n<3))then nth ws n.toNat else-1
  rw[e1]
 ·rfl
 ·show(if decide (1<=cells.length)&&(decide (cells.length<=6)&&cells.all (fun c=>d9 c (nth ws 0)))then(cells.length:Int)else-1)=if ja cells (nth ws 0)then(cells.length:Int)else-1
  have:(decide (1<=cells.length)&&(decide (cells.length<=6)&&cells.all (fun c=>d9 c (nth ws 0))))=ja cells (nth ws 0):=by
   unfold ja;rw[Bool.eq_iff_iff];simp only[aj];exact⟨fun h=>⟨h.2.2,h.1,h.2.1⟩,fun h=>⟨h.2.1,h.2.2,h.1⟩⟩
  rw[this]
 ·rfl
 ·rfl
 ·rfl
 ·show(if decide (0<=agg)&&(decide (agg<=3)&&(dY ao (nth ws 0)&&col c (nth ws 0)))then(ao.length:Int)+1 else-1)=if dY ao (nth ws 0)&&(decide (0<=agg)&&(decide (agg<=3)&&col c (nth ws 0)))then(ao.length:Int)+1 else-1
  have:(decide (0<=agg)&&(decide (agg<=3)&&(dY ao (nth ws 0)&&col c (nth ws 0))))=(dY ao (nth ws 0)&&(decide (0<=agg)&&(decide (agg<=3)&&col c (nth ws 0)))):=by
   rw[Bool.eq_iff_iff];simp only[aj];exact⟨fun h=>⟨h.2.2.1,h.1,h.2.1,h.2.2.2⟩,fun h=>⟨h.2.1,h.2.2.1,h.1,h.2.2.2⟩⟩
  rw[this]
 ·simp only[beq_eq_false_iff_ne,ne_eq]at h1 h2 h3 h4 h5 h6 h7
  have:(decide (0<=agg)&&(decide (agg<=3)&&(dY ao (nth ws 0)&&col c (nth ws 0))))=(dY ao (nth ws 0)&&(decide (0<=agg)&&(decide (agg<=3)&&col c (nth ws 0)))):=by
   rw[Bool.eq_iff_iff];simp only[aj];exact⟨fun h=>⟨h.2.2.1,h.1,h.2.1,h.2.2.2⟩,fun h=>⟨h.2.1,h.2.2.1,h.1,h.2.2.2⟩⟩
  simp only[bI,HH,h1,h2,h3,h4,h5,h6,if_false,this]
theorem tP(p:ax)(ws:List Int)(hw:ws.length<=3):gC (bI p ws)=if !(HH p ws).1||(decide ((HH p ws).2<1)||decide ((HH p ws).2>6))then-1 else(HH p ws).2:=R0 (UI p ws hw)
theorem MG(hp:bV pr)(ws:List Int)(vG:ws.length<=3)(d:Nat)(hd:d+1<=6)(n:Int)(aA:Test)(cells:List Cell)(a b:Int)(ao:List Int)(agg c:Int)(hc:clean (.mk 1 n aA cells a b ao agg c [])=true):
  dm pr 96 [(ax.mk 1 n aA cells a b ao agg c []).enc,.sl (ws.map i64),i64 ((d+1:Nat):Int)] (i64 (gC (bI (.mk 1 n aA cells a b ao agg c []) ws))):=by
   rw[tP _ _ vG];have dA:=kK hp 1;have iO:=jd hp (.mk 1 n aA cells a b ao agg c []);refine ea hp rfl rfl ?_;have S:ah [] []:=ah.nil [];conv=>whnf
   intro k1 a1 dw dC;replace S:=S.alloc dw dC;clear dw dC;conv=>whnf
   refine aI (S.row 0 rfl) ?_;conv=>whnf
   refine⟨_,dA _,?_⟩;conv=>whnf
   refine aI (S.row 0 rfl) ?_;conv=>whnf
   conv=>whnf
   refine aI (S.row 0 rfl) ?_;conv=>whnf
   refine⟨_,iO _,?_⟩;conv=>whnf
   refine eZ hc ?_;clear iO dA hc;conv=>whnf
   have S:ah a1 [.row k1 (.box (ax.mk 1 n aA cells a b ao agg c []).enc)]:=S;refine jl ?_;conv=>whnf
   refine aI (S.row 0 rfl) ?_;conv=>whnf
   refine aI (S.row 0 rfl) ?_;conv=>whnf
   iterate 18
    all_goals(try(conv=>whnf))
    all_goals(first|(refine⟨_,by simpa using I5,by omega,rfl,?_⟩)|(intro ke cg er bn;replace S:=S.alloc er bn)|(refine .inl ⟨_,S.row 0 rfl,rfl,?_⟩)|(refine .inl ⟨_,S.row 1 rfl,rfl,?_⟩)|(refine⟨_,rfl,rfl,rfl,.inl ⟨_,S.row 0 rfl,rfl,?_⟩⟩;(conv=>whnf);intro cg bn;replace S:=S.w0 bn)|(refine⟨_,rfl,rfl,rfl,.inl ⟨_,S.row 1 rfl,rfl,?_⟩⟩;(conv=>whnf);intro cg bn;replace S:=S.w1 bn)|(refine ae (fun hb=>?_) (fun hb=>?_))|skip)
   all_goals(try(conv=>whnf))
   all_goals first
    |(refine dO ?_;clear S;simp only[HH,nth,if_true];simp_all;done)
    |skip
   all_goals
    rename_i b1 b2;have h1:0<=n:=by simpa using b1
    have h2:n<ws.length:=by simpa using b2
    have h3:n<3:=by simpa using hb
    have cx:(ws.map i64)[n.toNat]?=some (i64 (nth ws n.toNat)):=by
     have:n.toNat<ws.length:=by omega
     simp[nth,this]
    refine⟨_,cx,h1,rfl,?_⟩;have hv:(HH (.mk 1 n aA cells a b ao agg c []) ws)=(true,nth ws n.toNat):=by simp[HH,h1,h2,h3]
    rw[hv];generalize nth ws n.toNat=v at*
    iterate 8
     all_goals(try(conv=>whnf))
     all_goals(first|(intro ke cg er bn;replace S:=S.alloc er bn)|(refine .inl ⟨_,S.row 0 rfl,rfl,?_⟩)|(refine .inl ⟨_,S.row 1 rfl,rfl,?_⟩)|(refine⟨_,rfl,rfl,rfl,.inl ⟨_,S.row 0 rfl,rfl,?_⟩⟩;(conv=>whnf);intro cg bn;replace S:=S.w0 bn)|(refine⟨_,rfl,rfl,rfl,.inl ⟨_,S.row 1 rfl,rfl,?_⟩⟩;(conv=>whnf);intro cg bn;replace S:=S.w1 bn)|(refine ae (fun hb=>?_) (fun hb=>?_))|skip)
    all_goals(try(conv=>whnf))
    all_goals(refine dO ?_;clear S;simp_all;try omega)
theorem MH(hp:bV pr)(ws:List Int)(vG:ws.length<=3)(d:Nat)(hd:d+1<=6)(n:Int)(aA:Test)(cells:List Cell)(a b:Int)(ao:List Int)(agg c:Int)(q:ax)(wq:Int)(hc:clean (.mk 2 n aA cells a b ao agg c [q])=true)(DM:cells.length<=1048576)(sY:ao.length<=1048576)
  (hq:dm pr 96 [q.enc,.sl (ws.map i64),.int .i64 (IntKind.i64.wrap (((d+1:Nat):Int)-1))] (i64 wq)):
  dm pr 96 [(ax.mk 2 n aA cells a b ao agg c [q]).enc,.sl (ws.map i64),i64 ((d+1:Nat):Int)] (i64 (if wq<1 then-1 else gC (bI (.mk 2 n aA cells a b ao agg c [q]) [wq]))):=by
   rw[tP _ _ (by simp)];have pF:=mJ hp aA;have ov:=fun w=>pt hp cells w DM;have oa:=fun w=>lM hp ao w sY;have nO:=fun n w=>jz hp n w;obtain⟨cd,n',cr,bK,a',b',cm,cX,c',bU⟩:=q;have dA:=kK hp 2;have iO:=jd hp (.mk 2 n aA cells a b ao agg c [ax.mk cd n' cr bK a' b' cm cX c' bU]);refine ea hp rfl rfl ?_;have S:ah [] []:=ah.nil [];conv=>whnf
   intro k1 a1 dw dC;replace S:=S.alloc dw dC;clear dw dC;conv=>whnf
   refine aI (S.row 0 rfl) ?_;conv=>whnf
   refine⟨_,dA _,?_⟩;conv=>whnf
   refine aI (S.row 0 rfl) ?_;conv=>whnf
   conv=>whnf
   refine aI (S.row 0 rfl) ?_;conv=>whnf
   refine⟨_,iO _,?_⟩;conv=>whnf
   refine eZ hc ?_;clear iO dA hc;conv=>whnf
   have S:ah a1 [.row k1 (.box (ax.mk 2 n aA cells a b ao agg c [ax.mk cd n' cr bK a' b' cm cX c' bU]).enc)]:=S;refine jl ?_;conv=>whnf
   refine aI (S.row 0 rfl) ?_;conv=>whnf
   refine aI (S.row 0 rfl) ?_;conv=>whnf
   refine⟨_,rfl,by omega,rfl,?_⟩;conv=>whnf
   refine⟨_,hq _,?_⟩;conv=>whnf
   refine ae (fun g2=>?_) (fun g2=>?_)
   ·conv=>whnf
    exact dO (by simp at g2;simp[g2])
   ·have sM: ¬wq<1:=by simpa using g2
    rw[if_neg sM];conv=>whnf
    intro nM nN de dg;replace S:=S.alloc de dg;conv=>whnf
    refine⟨trivial,?_⟩;conv=>whnf
    refine⟨[_],bG (S.row 0 rfl),cQ rfl rfl,?_⟩;replace S:=S.drop 0;dsimp only[List.eraseIdx]at S;refine m7 S (by simp) (by simp[br]) fun k3 a3 S3=>?_;have S4:ah a3 [.row k3 (.arr 1 [i64 wq]),.row k1 (.box (ax.mk 2 n aA cells a b ao agg c [ax.mk cd n' cr bK a' b' cm cX c' bU]).enc)]:=S3;clear S3 g2 hq S;have S:=S4;clear S4;conv=>whnf
    refine jl ?_
    iterate 22
     all_goals(try(conv=>whnf))
     all_goals(first|(refine⟨_,S.row 0 rfl,⟨by decide,by simp⟩,?_⟩)|(refine .inr ⟨_,_,_,S.row 0 rfl,rfl,?_⟩)|(intro ke cg er bn;replace S:=S.alloc er bn)|(refine .inl ⟨_,S.row 0 rfl,rfl,?_⟩)|(refine .inl ⟨_,S.row 1 rfl,rfl,?_⟩)|(refine⟨_,rfl,rfl,rfl,.inl ⟨_,S.row 0 rfl,rfl,?_⟩⟩;(conv=>whnf);intro cg bn;replace S:=S.w0 bn)|(refine⟨_,rfl,rfl,rfl,.inl ⟨_,S.row 1 rfl,rfl,?_⟩⟩;(conv=>whnf);intro cg bn;replace S:=S.w1 bn)|(refine ae (fun hb=>?_) (fun hb=>?_))|(refine⟨_,pF _ _,?_⟩)|skip)
    all_goals(try(conv=>whnf))
    all_goals(refine dO ?_;clear S pF ov oa nO;simp only[HH,nth,Int.reduceEq,if_true,if_false,List.getElem?_cons_zero,Option.getD_some];simp_all;try(have Ry:=KY sY;omega))
theorem MI(hp:bV pr)(ws:List Int)(vG:ws.length<=3)(d:Nat)(hd:d+1<=6)(n:Int)(aA:Test)(cells:List Cell)(a b:Int)(ao:List Int)(agg c:Int)(q:ax)(wq:Int)(hc:clean (.mk 3 n aA cells a b ao agg c [q])=true)(DM:cells.length<=1048576)(sY:ao.length<=1048576)
  (hq:dm pr 96 [q.enc,.sl (ws.map i64),.int .i64 (IntKind.i64.wrap (((d+1:Nat):Int)-1))] (i64 wq)):
  dm pr 96 [(ax.mk 3 n aA cells a b ao agg c [q]).enc,.sl (ws.map i64),i64 ((d+1:Nat):Int)] (i64 (if wq<1 then-1 else gC (bI (.mk 3 n aA cells a b ao agg c [q]) [wq]))):=by
   rw[tP _ _ (by simp)];have pF:=mJ hp aA;have ov:=fun w=>pt hp cells w DM;have oa:=fun w=>lM hp ao w sY;have nO:=fun n w=>jz hp n w;obtain⟨cd,n',cr,bK,a',b',cm,cX,c',bU⟩:=q;have dA:=kK hp 3;have iO:=jd hp (.mk 3 n aA cells a b ao agg c [ax.mk cd n' cr bK a' b' cm cX c' bU]);refine ea hp rfl rfl ?_;have S:ah [] []:=ah.nil [];conv=>whnf
   intro k1 a1 dw dC;replace S:=S.alloc dw dC;clear dw dC;conv=>whnf
   refine aI (S.row 0 rfl) ?_;conv=>whnf
   refine⟨_,dA _,?_⟩;conv=>whnf
   refine aI (S.row 0 rfl) ?_;conv=>whnf
   conv=>whnf
   refine aI (S.row 0 rfl) ?_;conv=>whnf
   refine⟨_,iO _,?_⟩;conv=>whnf
   refine eZ hc ?_;clear iO dA hc;conv=>whnf
   have S:ah a1 [.row k1 (.box (ax.mk 3 n aA cells a b ao agg c [ax.mk cd n' cr bK a' b' cm cX c' bU]).enc)]:=S;refine jl ?_;conv=>whnf
   refine aI (S.row 0 rfl) ?_;conv=>whnf
   refine aI (S.row 0 rfl) ?_;conv=>whnf
   refine⟨_,rfl,by omega,rfl,?_⟩;conv=>whnf
   refine⟨_,hq _,?_⟩;conv=>whnf
   refine ae (fun g2=>?_) (fun g2=>?_)
   ·conv=>whnf
    exact dO (by simp at g2;simp[g2])
   ·have sM: ¬wq<1:=by simpa using g2
    rw[if_neg sM];conv=>whnf
    intro nM nN de dg;replace S:=S.alloc de dg;conv=>whnf
    refine⟨trivial,?_⟩;conv=>whnf
    refine⟨[_],bG (S.row 0 rfl),cQ rfl rfl,?_⟩;replace S:=S.drop 0;dsimp only[List.eraseIdx]at S;refine m7 S (by simp) (by simp[br]) fun k3 a3 S3=>?_;have S4:ah a3 [.row k3 (.arr 1 [i64 wq]),.row k1 (.box (ax.mk 3 n aA cells a b ao agg c [ax.mk cd n' cr bK a' b' cm cX c' bU]).enc)]:=S3;clear S3 g2 hq S;have S:=S4;clear S4;conv=>whnf
    refine jl ?_
    iterate 22
     all_goals(try(conv=>whnf))
     all_goals(first|(refine⟨_,S.row 0 rfl,⟨by decide,by simp⟩,?_⟩)|(refine .inr ⟨_,_,_,S.row 0 rfl,rfl,?_⟩)|(intro ke cg er bn;replace S:=S.alloc er bn)|(refine .inl ⟨_,S.row 0 rfl,rfl,?_⟩)|(refine .inl ⟨_,S.row 1 rfl,rfl,?_⟩)|(refine⟨_,rfl,rfl,rfl,.inl ⟨_,S.row 0 rfl,rfl,?_⟩⟩;(conv=>whnf);intro cg bn;replace S:=S.w0 bn)|(refine⟨_,rfl,rfl,rfl,.inl ⟨_,S.row 1 rfl,rfl,?_⟩⟩;(conv=>whnf);intro cg bn;replace S:=S.w1 bn)|(refine ae (fun hb=>?_) (fun hb=>?_))|(refine⟨_,ov _ _,?_⟩)|skip)
    all_goals(try(conv=>whnf))
    all_goals(refine dO ?_;clear S pF ov oa nO;simp only[HH,nth,Int.reduceEq,if_true,if_false,List.getElem?_cons_zero,Option.getD_some];simp_all;try(have Ry:=KY sY;omega))
theorem MJ(hp:bV pr)(ws:List Int)(vG:ws.length<=3)(d:Nat)(hd:d+1<=6)(n:Int)(aA:Test)(cells:List Cell)(a b:Int)(ao:List Int)(agg c:Int)(q:ax)(wq:Int)(hc:clean (.mk 6 n aA cells a b ao agg c [q])=true)(DM:cells.length<=1048576)(sY:ao.length<=1048576)
  (hq:dm pr 96 [q.enc,.sl (ws.map i64),.int .i64 (IntKind.i64.wrap (((d+1:Nat):Int)-1))] (i64 wq)):
  dm pr 96 [(ax.mk 6 n aA cells a b ao agg c [q]).enc,.sl (ws.map i64),i64 ((d+1:Nat):Int)] (i64 (if wq<1 then-1 else gC (bI (.mk 6 n aA cells a b ao agg c [q]) [wq]))):=by
   rw[tP _ _ (by simp)];have pF:=mJ hp aA;have ov:=fun w=>pt hp cells w DM;have oa:=fun w=>lM hp ao w sY;have nO:=fun n w=>jz hp n w;obtain⟨cd,n',cr,bK,a',b',cm,cX,c',bU⟩:=q;have dA:=kK hp 6;have iO:=jd hp (.mk 6 n aA cells a b ao agg c [ax.mk cd n' cr bK a' b' cm cX c' bU]);refine ea hp rfl rfl ?_;have S:ah [] []:=ah.nil [];conv=>whnf
   intro k1 a1 dw dC;replace S:=S.alloc dw dC;clear dw dC;conv=>whnf
   refine aI (S.row 0 rfl) ?_;conv=>whnf
   refine⟨_,dA _,?_⟩;conv=>whnf
   refine aI (S.row 0 rfl) ?_;conv=>whnf
   conv=>whnf
   refine aI (S.row 0 rfl) ?_;conv=>whnf
   refine⟨_,iO _,?_⟩;conv=>whnf
   refine eZ hc ?_;clear iO dA hc;conv=>whnf
   have S:ah a1 [.row k1 (.box (ax.mk 6 n aA cells a b ao agg c [ax.mk cd n' cr bK a' b' cm cX c' bU]).enc)]:=S;refine jl ?_;conv=>whnf
   refine aI (S.row 0 rfl) ?_;conv=>whnf
   refine aI (S.row 0 rfl) ?_;conv=>whnf
   refine⟨_,rfl,by omega,rfl,?_⟩;conv=>whnf
   refine⟨_,hq _,?_⟩;conv=>whnf
   refine ae (fun g2=>?_) (fun g2=>?_)
   ·conv=>whnf
    exact dO (by simp at g2;simp[g2])
   ·have sM: ¬wq<1:=by simpa using g2
    rw[if_neg sM];conv=>whnf
    intro nM nN de dg;replace S:=S.alloc de dg;conv=>whnf
    refine⟨trivial,?_⟩;conv=>whnf
    refine⟨[_],bG (S.row 0 rfl),cQ rfl rfl,?_⟩;replace S:=S.drop 0;dsimp only[List.eraseIdx]at S;refine m7 S (by simp) (by simp[br]) fun k3 a3 S3=>?_;have S4:ah a3 [.row k3 (.arr 1 [i64 wq]),.row k1 (.box (ax.mk 6 n aA cells a b ao agg c [ax.mk cd n' cr bK a' b' cm cX c' bU]).enc)]:=S3;clear S3 g2 hq S;have S:=S4;clear S4;conv=>whnf
    refine jl ?_
    iterate 22
     all_goals(try(conv=>whnf))
     all_goals(first|(refine⟨_,S.row 0 rfl,⟨by decide,by simp⟩,?_⟩)|(refine .inr ⟨_,_,_,S.row 0 rfl,rfl,?_⟩)|(intro ke cg er bn;replace S:=S.alloc er bn)|(refine .inl ⟨_,S.row 0 rfl,rfl,?_⟩)|(refine .inl ⟨_,S.row 1 rfl,rfl,?_⟩)|(refine⟨_,rfl,rfl,rfl,.inl ⟨_,S.row 0 rfl,rfl,?_⟩⟩;(conv=>whnf);intro cg bn;replace S:=S.w0 bn)|(refine⟨_,rfl,rfl,rfl,.inl ⟨_,S.row 1 rfl,rfl,?_⟩⟩;(conv=>whnf);intro cg bn;replace S:=S.w1 bn)|(refine ae (fun hb=>?_) (fun hb=>?_))|skip)
    all_goals(try(conv=>whnf))
    all_goals(refine dO ?_;clear S pF ov oa nO;simp only[HH,nth,Int.reduceEq,if_true,if_false,List.getElem?_cons_zero,Option.getD_some];simp_all;try(have Ry:=KY sY;omega))
theorem MK(hp:bV pr)(ws:List Int)(vG:ws.length<=3)(d:Nat)(hd:d+1<=6)(n:Int)(aA:Test)(cells:List Cell)(a b:Int)(ao:List Int)(agg c:Int)(q:ax)(wq:Int)(hc:clean (.mk 7 n aA cells a b ao agg c [q])=true)(DM:cells.length<=1048576)(sY:ao.length<=1048576)
  (hq:dm pr 96 [q.enc,.sl (ws.map i64),.int .i64 (IntKind.i64.wrap (((d+1:Nat):Int)-1))] (i64 wq)):
  dm pr 96 [(ax.mk 7 n aA cells a b ao agg c [q]).enc,.sl (ws.map i64),i64 ((d+1:Nat):Int)] (i64 (if wq<1 then-1 else gC (bI (.mk 7 n aA cells a b ao agg c [q]) [wq]))):=by
   rw[tP _ _ (by simp)];have pF:=mJ hp aA;have ov:=fun w=>pt hp cells w DM;have oa:=fun w=>lM hp ao w sY;have nO:=fun n w=>jz hp n w;obtain⟨cd,n',cr,bK,a',b',cm,cX,c',bU⟩:=q;have dA:=kK hp 7;have iO:=jd hp (.mk 7 n aA cells a b ao agg c [ax.mk cd n' cr bK a' b' cm cX c' bU]);refine ea hp rfl rfl ?_;have S:ah [] []:=ah.nil [];conv=>whnf
   intro k1 a1 dw dC;replace S:=S.alloc dw dC;clear dw dC;conv=>whnf
   refine aI (S.row 0 rfl) ?_;conv=>whnf
   refine⟨_,dA _,?_⟩;conv=>whnf
   refine aI (S.row 0 rfl) ?_;conv=>whnf
   conv=>whnf
   refine aI (S.row 0 rfl) ?_;conv=>whnf
   refine⟨_,iO _,?_⟩;conv=>whnf
   refine eZ hc ?_;clear iO dA hc;conv=>whnf
   have S:ah a1 [.row k1 (.box (ax.mk 7 n aA cells a b ao agg c [ax.mk cd n' cr bK a' b' cm cX c' bU]).enc)]:=S;refine jl ?_;conv=>whnf
   refine aI (S.row 0 rfl) ?_;conv=>whnf
   refine aI (S.row 0 rfl) ?_;conv=>whnf
   refine⟨_,rfl,by omega,rfl,?_⟩;conv=>whnf
   refine⟨_,hq _,?_⟩;conv=>whnf
   refine ae (fun g2=>?_) (fun g2=>?_)
   ·conv=>whnf
    exact dO (by simp at g2;simp[g2])
   ·have sM: ¬wq<1:=by simpa using g2
    rw[if_neg sM];conv=>whnf
    intro nM nN de dg;replace S:=S.alloc de dg;conv=>whnf
    refine⟨trivial,?_⟩;conv=>whnf
    refine⟨[_],bG (S.row 0 rfl),cQ rfl rfl,?_⟩;replace S:=S.drop 0;dsimp only[List.eraseIdx]at S;refine m7 S (by simp) (by simp[br]) fun k3 a3 S3=>?_;have S4:ah a3 [.row k3 (.arr 1 [i64 wq]),.row k1 (.box (ax.mk 7 n aA cells a b ao agg c [ax.mk cd n' cr bK a' b' cm cX c' bU]).enc)]:=S3;clear S3 g2 hq S;have S:=S4;clear S4;conv=>whnf
    refine jl ?_
    iterate 22
     all_goals(try(conv=>whnf))
     all_goals(first|(refine⟨_,S.row 0 rfl,⟨by decide,by simp⟩,?_⟩)|(refine .inr ⟨_,_,_,S.row 0 rfl,rfl,?_⟩)|(intro ke cg er bn;replace S:=S.alloc er bn)|(refine .inl ⟨_,S.row 0 rfl,rfl,?_⟩)|(refine .inl ⟨_,S.row 1 rfl,rfl,?_⟩)|(refine⟨_,rfl,rfl,rfl,.inl ⟨_,S.row 0 rfl,rfl,?_⟩⟩;(conv=>whnf);intro cg bn;replace S:=S.w0 bn)|(refine⟨_,rfl,rfl,rfl,.inl ⟨_,S.row 1 rfl,rfl,?_⟩⟩;(conv=>whnf);intro cg bn;replace S:=S.w1 bn)|(refine ae (fun hb=>?_) (fun hb=>?_))|(refine⟨_,oa _ _,?_⟩)|(refine⟨_,nO _ _ _,?_⟩)|skip)
    all_goals(try(conv=>whnf))
    all_goals(refine dO ?_;clear S pF ov oa nO;simp only[HH,nth,Int.reduceEq,if_true,if_false,List.getElem?_cons_zero,Option.getD_some];simp_all;try(have Ry:=KY sY;omega))
theorem ML(hp:bV pr)(ws:List Int)(vG:ws.length<=3)(d:Nat)(hd:d+1<=6)(n:Int)(aA:Test)(cells:List Cell)(a b:Int)(ao:List Int)(agg c:Int)(q q2:ax)(wq wr:Int)(hc:clean (.mk 4 n aA cells a b ao agg c [q,q2])=true)(DM:cells.length<=1048576)(sY:ao.length<=1048576)
  (hq:dm pr 96 [q.enc,.sl (ws.map i64),.int .i64 (IntKind.i64.wrap (((d+1:Nat):Int)-1))] (i64 wq))
  (pg:dm pr 96 [q2.enc,.sl (ws.map i64),.int .i64 (IntKind.i64.wrap (((d+1:Nat):Int)-1))] (i64 wr)):
  dm pr 96 [(ax.mk 4 n aA cells a b ao agg c [q,q2]).enc,.sl (ws.map i64),i64 ((d+1:Nat):Int)] (i64 (if wq<1 then-1 else if wr<1 then-1 else gC (bI (.mk 4 n aA cells a b ao agg c [q,q2]) [wq,wr]))):=by
   rw[tP _ _ (by simp)];generalize hR:(if wq<1 then _ else _)=R;have nO:=fun n w=>jz hp n w;obtain⟨cd,n',cr,bK,a',b',cm,cX,c',bU⟩:=q;obtain⟨nv,n2,nx,jQ,Md,b2,nz,tO,c2,nA⟩:=q2;have dA:=kK hp 4;have iO:=jd hp (.mk 4 n aA cells a b ao agg c [ax.mk cd n' cr bK a' b' cm cX c' bU,ax.mk nv n2 nx jQ Md b2 nz tO c2 nA]);refine ea hp rfl rfl ?_;have S:ah [] []:=ah.nil [];conv=>whnf
   intro k1 a1 dw dC;replace S:=S.alloc dw dC;clear dw dC;conv=>whnf
   refine aI (S.row 0 rfl) ?_;conv=>whnf
   refine⟨_,dA _,?_⟩;conv=>whnf
   refine aI (S.row 0 rfl) ?_;conv=>whnf
   conv=>whnf
   refine aI (S.row 0 rfl) ?_;conv=>whnf
   refine⟨_,iO _,?_⟩;conv=>whnf
   refine eZ hc ?_;clear iO dA hc;conv=>whnf
   have S:ah a1 [.row k1 (.box (ax.mk 4 n aA cells a b ao agg c [ax.mk cd n' cr bK a' b' cm cX c' bU,ax.mk nv n2 nx jQ Md b2 nz tO c2 nA]).enc)]:=S;refine jl ?_;conv=>whnf
   refine aI (S.row 0 rfl) ?_;conv=>whnf
   refine aI (S.row 0 rfl) ?_;conv=>whnf
   refine⟨_,rfl,by omega,rfl,?_⟩;conv=>whnf
   refine⟨_,hq _,?_⟩;conv=>whnf
   refine ae (fun g2=>?_) (fun g2=>?_)
   ·conv=>whnf
    exact dO (by rw[<-hR];simp at g2;simp[g2])
   ·have sM: ¬wq<1:=by simpa using g2
    rw[if_neg sM]at hR;conv=>whnf
    intro nM nN de dg;replace S:=S.alloc de dg;conv=>whnf
    refine⟨trivial,?_⟩;conv=>whnf
    refine⟨[_],bG (S.row 0 rfl),cQ rfl rfl,?_⟩;replace S:=S.drop 0;dsimp only[List.eraseIdx]at S;refine m7 S (by simp) (by simp[br]) fun k3 a3 S3=>?_;have S4:ah a3 [.row k3 (.arr 1 [i64 wq]),.row k1 (.box (ax.mk 4 n aA cells a b ao agg c [ax.mk cd n' cr bK a' b' cm cX c' bU,ax.mk nv n2 nx jQ Md b2 nz tO c2 nA]).enc)]:=S3;clear S3 g2 hq S;have S:=S4;clear S4;conv=>whnf
    refine jl ?_;conv=>whnf
    refine aI (S.row 1 rfl) ?_;conv=>whnf
    refine aI (S.row 1 rfl) ?_;conv=>whnf
    refine⟨_,rfl,by decide,rfl,?_⟩;conv=>whnf
    refine⟨_,pg _,?_⟩;conv=>whnf
    refine ae (fun g3=>?_) (fun g3=>?_)
    ·conv=>whnf
     exact dO (by rw[<-hR];simp at g3;simp[g3])
    ·have ZZ: ¬wr<1:=by simpa using g3
     rw[if_neg ZZ]at hR;conv=>whnf
     intro nM nN de dg;replace S:=S.alloc de dg;conv=>whnf
     refine⟨trivial,?_⟩;conv=>whnf
     refine⟨[_],bG (S.row 0 rfl),cQ rfl rfl,?_⟩;replace S:=S.drop 0;dsimp only[List.eraseIdx]at S;refine lP S (by simp) (by simp[br]) fun k4 a4 S4=>?_;have S5:ah a4 [.row k4 (.arr 1 [i64 wq,i64 wr]),.row k1 (.box (ax.mk 4 n aA cells a b ao agg c [ax.mk cd n' cr bK a' b' cm cX c' bU,ax.mk nv n2 nx jQ Md b2 nz tO c2 nA]).enc)]:=S4;clear S4 g3 pg S;have S:=S5;clear S5;conv=>whnf
     refine jl ?_
     iterate 24
      all_goals(try(conv=>whnf))
      all_goals(first|(refine⟨_,S.row 0 rfl,⟨by decide,by simp⟩,?_⟩)|(refine .inr ⟨_,_,_,S.row 0 rfl,rfl,?_⟩)|(intro ke cg er bn;replace S:=S.alloc er bn)|(refine .inl ⟨_,S.row 0 rfl,rfl,?_⟩)|(refine .inl ⟨_,S.row 1 rfl,rfl,?_⟩)|(refine⟨_,rfl,rfl,rfl,.inl ⟨_,S.row 0 rfl,rfl,?_⟩⟩;(conv=>whnf);intro cg bn;replace S:=S.w0 bn)|(refine⟨_,rfl,rfl,rfl,.inl ⟨_,S.row 1 rfl,rfl,?_⟩⟩;(conv=>whnf);intro cg bn;replace S:=S.w1 bn)|(refine ae (fun hb=>?_) (fun hb=>?_))|(refine⟨_,nO _ _ _,?_⟩)|skip)
     all_goals(try(conv=>whnf))
     all_goals(refine dO ?_;rw[<-hR];clear S nO hR;simp only[HH,nth,Int.reduceEq,if_true,if_false,List.getElem?_cons_zero,List.getElem?_cons_succ,Option.getD_some];simp_all;try omega)
theorem MM(hp:bV pr)(ws:List Int)(vG:ws.length<=3)(d:Nat)(hd:d+1<=6)(n:Int)(aA:Test)(cells:List Cell)(a b:Int)(ao:List Int)(agg c:Int)(q q2:ax)(wq wr:Int)(hc:clean (.mk 5 n aA cells a b ao agg c [q,q2])=true)(DM:cells.length<=1048576)(sY:ao.length<=1048576)
  (hq:dm pr 96 [q.enc,.sl (ws.map i64),.int .i64 (IntKind.i64.wrap (((d+1:Nat):Int)-1))] (i64 wq))
  (pg:dm pr 96 [q2.enc,.sl (ws.map i64),.int .i64 (IntKind.i64.wrap (((d+1:Nat):Int)-1))] (i64 wr)):
  dm pr 96 [(ax.mk 5 n aA cells a b ao agg c [q,q2]).enc,.sl (ws.map i64),i64 ((d+1:Nat):Int)] (i64 (if wq<1 then-1 else if wr<1 then-1 else gC (bI (.mk 5 n aA cells a b ao agg c [q,q2]) [wq,wr]))):=by
   rw[tP _ _ (by simp)];generalize hR:(if wq<1 then _ else _)=R;have nO:=fun n w=>jz hp n w;obtain⟨cd,n',cr,bK,a',b',cm,cX,c',bU⟩:=q;obtain⟨nv,n2,nx,jQ,Md,b2,nz,tO,c2,nA⟩:=q2;have dA:=kK hp 5;have iO:=jd hp (.mk 5 n aA cells a b ao agg c [ax.mk cd n' cr bK a' b' cm cX c' bU,ax.mk nv n2 nx jQ Md b2 nz tO c2 nA]);refine ea hp rfl rfl ?_;have S:ah [] []:=ah.nil [];conv=>whnf
   intro k1 a1 dw dC;replace S:=S.alloc dw dC;clear dw dC;conv=>whnf
   refine aI (S.row 0 rfl) ?_;conv=>whnf
   refine⟨_,dA _,?_⟩;conv=>whnf
   refine aI (S.row 0 rfl) ?_;conv=>whnf
   conv=>whnf
   refine aI (S.row 0 rfl) ?_;conv=>whnf
   refine⟨_,iO _,?_⟩;conv=>whnf
   refine eZ hc ?_;clear iO dA hc;conv=>whnf
   have S:ah a1 [.row k1 (.box (ax.mk 5 n aA cells a b ao agg c [ax.mk cd n' cr bK a' b' cm cX c' bU,ax.mk nv n2 nx jQ Md b2 nz tO c2 nA]).enc)]:=S;refine jl ?_;conv=>whnf
   refine aI (S.row 0 rfl) ?_;conv=>whnf
   refine aI (S.row 0 rfl) ?_;conv=>whnf
   refine⟨_,rfl,by omega,rfl,?_⟩;conv=>whnf
   refine⟨_,hq _,?_⟩;conv=>whnf
   refine ae (fun g2=>?_) (fun g2=>?_)
   ·conv=>whnf
    exact dO (by rw[<-hR];simp at g2;simp[g2])
   ·have sM: ¬wq<1:=by simpa using g2
    rw[if_neg sM]at hR;conv=>whnf
    intro nM nN de dg;replace S:=S.alloc de dg;conv=>whnf
    refine⟨trivial,?_⟩;conv=>whnf
    refine⟨[_],bG (S.row 0 rfl),cQ rfl rfl,?_⟩;replace S:=S.drop 0;dsimp only[List.eraseIdx]at S;refine m7 S (by simp) (by simp[br]) fun k3 a3 S3=>?_;have S4:ah a3 [.row k3 (.arr 1 [i64 wq]),.row k1 (.box (ax.mk 5 n aA cells a b ao agg c [ax.mk cd n' cr bK a' b' cm cX c' bU,ax.mk nv n2 nx jQ Md b2 nz tO c2 nA]).enc)]:=S3;clear S3 g2 hq S;have S:=S4;clear S4;conv=>whnf
    refine jl ?_;conv=>whnf
    refine aI (S.row 1 rfl) ?_;conv=>whnf
    refine aI (S.row 1 rfl) ?_;conv=>whnf
    refine⟨_,rfl,by decide,rfl,?_⟩;conv=>whnf
    refine⟨_,pg _,?_⟩;conv=>whnf
    refine ae (fun g3=>?_) (fun g3=>?_)
    ·conv=>whnf
     exact dO (by rw[<-hR];simp at g3;simp[g3])
    ·have ZZ: ¬wr<1:=by simpa using g3
     rw[if_neg ZZ]at hR;conv=>whnf
     intro nM nN de dg;replace S:=S.alloc de dg;conv=>whnf
     refine⟨trivial,?_⟩;conv=>whnf
     refine⟨[_],bG (S.row 0 rfl),cQ rfl rfl,?_⟩;replace S:=S.drop 0;dsimp only[List.eraseIdx]at S;refine lP S (by simp) (by simp[br]) fun k4 a4 S4=>?_;have S5:ah a4 [.row k4 (.arr 1 [i64 wq,i64 wr]),.row k1 (.box (ax.mk 5 n aA cells a b ao agg c [ax.mk cd n' cr bK a' b' cm cX c' bU,ax.mk nv n2 nx jQ Md b2 nz tO c2 nA]).enc)]:=S4;clear S4 g3 pg S;have S:=S5;clear S5;conv=>whnf
     refine jl ?_
     iterate 24
      all_goals(try(conv=>whnf))
      all_goals(first|(refine⟨_,S.row 0 rfl,⟨by decide,by simp⟩,?_⟩)|(refine .inr ⟨_,_,_,S.row 0 rfl,rfl,?_⟩)|(intro ke cg er bn;replace S:=S.alloc er bn)|(refine .inl ⟨_,S.row 0 rfl,rfl,?_⟩)|(refine .inl ⟨_,S.row 1 rfl,rfl,?_⟩)|(refine⟨_,rfl,rfl,rfl,.inl ⟨_,S.row 0 rfl,rfl,?_⟩⟩;(conv=>whnf);intro cg bn;replace S:=S.w0 bn)|(refine⟨_,rfl,rfl,rfl,.inl ⟨_,S.row 1 rfl,rfl,?_⟩⟩;(conv=>whnf);intro cg bn;replace S:=S.w1 bn)|(refine ae (fun hb=>?_) (fun hb=>?_))|skip)
     all_goals(try(conv=>whnf))
     all_goals(refine dO ?_;rw[<-hR];clear S nO hR;simp only[HH,nth,Int.reduceEq,if_true,if_false,List.getElem?_cons_zero,List.getElem?_cons_succ,Option.getD_some];simp_all;try omega)
theorem PU(hp:bV pr)(ws:List Int)(vG:ws.length<=3): ∀(d:Nat)(p:ax),p.small->d<=6->dm pr 96 [p.enc,.sl (ws.map i64),i64 d] (i64 (cy ws d p)):=by
 intro d
 induction d with
 |zero=>
  intro p fm hd;obtain⟨aw,n,aA,cells,a,b,ao,agg,c,al⟩:=p;refine ea hp rfl rfl ?_;have S:ah [] []:=ah.nil [];conv=>whnf
  intro k1 a1 dw dC;replace S:=S.alloc dw dC;conv=>whnf
  exact dO (by simp[cy])
 |succ d ih=>
  intro p fm hd;obtain⟨aw,n,aA,cells,a,b,ao,agg,c,al⟩:=p;obtain⟨qM,jK,fL,fB⟩:=dK fm;have hw:=wI d (by omega);have eI:=fun(q:ax)(hq:q∈al)=>hw▸ih q (fB q hq) (by omega);clear ih hw
  by_cases sf:shaped (.mk aw n aA cells a b ao agg c al)=true
  ·have Xd:=sf;simp only[shaped,ax.aw,ax.al,aj,beq_iff_eq]at Xd;obtain⟨hlen,hc⟩:=Xd;rcases eR aw with rfl|rfl|rfl|rfl|rfl|rfl|rfl|⟨h1,h2,h3,h4,h5,h6,h7⟩
   ·have Nm:al=[]:=by have h:bX 1=0:=rfl;exact bk.1 (by omega)
    subst Nm;have hP:cy ws (d+1) (.mk 1 n aA cells a b ao agg c [])=gC (bI (.mk 1 n aA cells a b ao agg c []) ws):=by rw[cy,if_pos sf];rfl
    rw[hP];exact MG hp ws vG d hd n aA cells a b ao agg c hc
   ·obtain⟨q,rfl⟩:=GN (l:=al) (by have h:bX 2=1:=rfl;omega);rw[j4 sf (by decide)];exact MH hp ws vG d hd n aA cells a b ao agg c q _ hc qM jK (eI q (by simp))
   ·obtain⟨q,rfl⟩:=GN (l:=al) (by have h:bX 3=1:=rfl;omega);rw[j4 sf (by decide)];exact MI hp ws vG d hd n aA cells a b ao agg c q _ hc qM jK (eI q (by simp))
   ·obtain⟨q,q2,rfl⟩:=R4 (l:=al) (by have h:bX 4=2:=rfl;omega);rw[sx sf (by decide)];exact ML hp ws vG d hd n aA cells a b ao agg c q q2 _ _ hc qM jK (eI q (by simp)) (eI q2 (by simp))
   ·obtain⟨q,q2,rfl⟩:=R4 (l:=al) (by have h:bX 5=2:=rfl;omega);rw[sx sf (by decide)];exact MM hp ws vG d hd n aA cells a b ao agg c q q2 _ _ hc qM jK (eI q (by simp)) (eI q2 (by simp))
   ·obtain⟨q,rfl⟩:=GN (l:=al) (by have h:bX 6=1:=rfl;omega);rw[j4 sf (by decide)];exact MJ hp ws vG d hd n aA cells a b ao agg c q _ hc qM jK (eI q (by simp))
   ·obtain⟨q,rfl⟩:=GN (l:=al) (by have h:bX 7=1:=rfl;omega);rw[j4 sf (by decide)];exact MK hp ws vG d hd n aA cells a b ao agg c q _ hc qM jK (eI q (by simp))
   ·exfalso;simp only[beq_eq_false_iff_ne,ne_eq]at*;simp[bX,h1,h2,h3,h4,h5,h6,h7]at hlen
    try omega
  ·have UJ:shaped (.mk aw n aA cells a b ao agg c al)=false:=by simpa using sf
   have hP:cy ws (d+1) (.mk aw n aA cells a b ao agg c al)= -1:=by rw[cy,UJ];rfl
   rw[hP];have dA:=kK hp aw;have iO:=jd hp (.mk aw n aA cells a b ao agg c al);have ji:=dM al;refine ea hp rfl rfl ?_;have S:ah [] []:=ah.nil [];conv=>whnf
   intro k1 a1 dw dC;replace S:=S.alloc dw dC;conv=>whnf
   refine aI (S.row 0 rfl) ?_;conv=>whnf
   refine⟨_,dA _,?_⟩;conv=>whnf
   refine aI (S.row 0 rfl) ?_;conv=>whnf
   refine ae (fun g0=>?_) (fun g0=>?_)
   ·conv=>whnf
    exact dO rfl
   ·rw[ji]at g0;conv=>whnf
    refine aI (S.row 0 rfl) ?_;conv=>whnf
    refine⟨_,iO _,?_⟩;conv=>whnf
    refine bf ?_ ?_
    ·simp only[shaped,ax.aw,ax.al,Bool.and_eq_false_iff]at UJ;rcases UJ with h|h
     ·simp at g0;simp[g0]at h
     ·exact h
    conv=>whnf
    exact dO rfl
def dq(p:ax)(ws:List Int):Int:=if decide (ws.length<=3)&&decide (many 6 p<=10)then cy ws 6 p else-1
theorem ox(hp:bV pr)(p:ax)(ws:List Int)(fm:p.small):dm pr 60 [p.enc,.sl (ws.map i64)] (i64 (dq p ws)):=by
 have h1:=Fu hp 6 p fm (by omega);have h2:ws.length<=3->_:=fun h=>PU hp ws h 6 p fm (by omega);unfold dq;obtain⟨aw,n,aA,cells,a,b,ao,agg,c,al⟩:=p;refine ea hp rfl rfl ?_;have S:ah [] []:=ah.nil [];conv=>whnf
 intro k1 a1 dw dC;replace S:=S.alloc dw dC;conv=>whnf
 refine ae (fun g1=>?_) (fun g1=>?_)
 ·have:decide (ws.length<=3)=false:=by simp at g1⊢;omega
  rw[this];conv=>whnf
  exact dO rfl
 ·have h3:ws.length<=3:=by simp at g1;omega
  have:decide (ws.length<=3)=true:=by simp[h3]
  rw[this,aX];conv=>whnf
  refine aI (S.row 0 rfl) ?_;conv=>whnf
  refine⟨_,h1 _,?_⟩;conv=>whnf
  refine ae (fun g2=>?_) (fun g2=>?_)
  ·have:decide (many 6 (ax.mk aw n aA cells a b ao agg c al)<=10)=false:=by simp at g2⊢;omega
   rw[this];conv=>whnf
   exact dO rfl
  ·have:decide (many 6 (ax.mk aw n aA cells a b ao agg c al)<=10)=true:=by simp at g2⊢;omega
   rw[this];conv=>whnf
   refine aI (S.row 0 rfl) ?_;conv=>whnf
   refine⟨_,h2 h3 _,?_⟩;conv=>whnf
   exact dO rfl
end Go.Proofs.YtfepbikckfehlaaGreat

/- The last two runs merged: the reference's. -/
import Derived.Test.YtfepbikckfehlaaGreatGH24
import Derived.Test.YtfepbikckfehlaaGreatGH14
set_option linter.unusedVariables false
set_option linter.unusedSimpArgs false
set_option maxHeartbeats 4000000
namespace Go.Proofs.YtfepbikckfehlaaGreat
open Go Go.Am
variable{pr:bL}(hp:bV pr)
set_option maxRecDepth 100000
def keyOf(r ao:List Int):List Int:=ao.map (A3 r)
theorem yA(hp:bV pr)(r ao:List Int)(hk: ∀k∈ao,0<=k/\k<r.length)(hl:ao.length<=100):tE pr 164 [.sl (r.map i64),.sl (ao.map i64)] 1 ((keyOf r ao).map ba.i):=by
 refine rJ hp rfl ?_;have S:ah [] []:=ah.nil [];conv=>whnf
 replace S:=ah.ma i64 1 S;refine dh (fun m tm hp=>∃(j:Nat)(D:af),j+m=ao.length/\tm 5=D/\tm 6=i64 (j:Nat)/\ah hp [.acc i64 1 (keyOf r (ao.take j)) D]) (fun m tm hq bz hI=>?_) (ao.length) ⟨0,.nil,by simp,rfl,rfl,S⟩;obtain⟨j,D,hj,e5,e6,S2⟩:=hI;have k0:=bz 0 (by kernel_rfl);conv at k0=>rhs;whnf
 have k1:=bz 1 (by kernel_rfl);conv at k1=>rhs;whnf
 refine⟨[(0,_),(1,_),(5,_),(6,_)],⟨k0,k1,e5,e6,trivial⟩,?_⟩;clear bz k0 k1 e5 e6;replace S:=S2;clear S2;conv=>whnf
 have fw:j<4611686018427387904:=by omega
 refine ae (fun h1=>?_) (fun h1=>?_)
 ·have bq:j<ao.length:=by simpa using h1
  have cx:(ao.map i64)[((j:Nat):Int).toNat]?=some (i64 ao[j]):=by rw[aq];simp[bq]
  have cY:keyOf r (ao.take (j+1))=keyOf r (ao.take j)++[A3 r ao[j]]:=js (A3 r) bq;have PC:=hk _ (ay bq);have hlen:(keyOf r (ao.take j)).length<=100:=by simp[keyOf];omega
  generalize ao[j]=k at cx cY PC;have Ye:=qm PC.1 PC.2;conv=>whnf
  refine⟨_,cx,by omega,rfl,?_⟩;conv=>whnf
  refine⟨_,Ye,PC.1,rfl,?_⟩;conv=>whnf
  intro nM nN de dg;replace S:=S.alloc de dg;conv=>whnf
  refine⟨trivial,?_⟩;conv=>whnf
  refine⟨[_],bG (S.row 0 rfl),cQ rfl rfl,?_⟩;replace S:=S.drop 0;dsimp only[List.eraseIdx]at S;refine oQ (f:=i64) (x:=A3 r k) S (by simp[br];omega) fun k2 h2 S2 _=>?_;conv=>whnf
  exact⟨m-1,by omega,j+1,_,by omega,rfl,aQ j fw,by rw[cY];exact S2⟩
 ·have bq:j=ao.length:=by
   have: ¬j<ao.length:=by simpa using h1
   omega
  subst bq;rw[aS]at S;conv=>whnf
  exact⟨_,rfl,_,_,_,rfl,(ah.DB S).get 0 rfl,((ah.DB S).get' 0 _ rfl).2⟩
def qu(agg v w n:Int)(first:Bool):Int:=
 if agg=0 then j8 n w else if agg=1 then j8 n (RQ w v)else if first||(agg==2&&decide (v<n)||agg==3&&decide (v>n))then v else n
def xF(agg c:Int):Bool->Int->List Item->Int
 |_,n,[]=>n
 |first,n,x::xs=>xF agg c false (qu agg (A3 x.row c) x.w n first) xs
theorem RR(hp:bV pr)(z:List Item)(agg c:Int)(hz:z.length<=cM)(hc: ∀x∈z,0<=c/\c<x.row.length):dm pr 165 [aE.enc z,i64 agg,i64 c] (i64 (xF agg c true 0 z)):=by
 generalize aN:xF agg c true 0 z=res;refine xC hp rfl rfl ?_;have S:ah [] []:=ah.nil [];conv=>whnf
 refine dh (fun m tm hp=>∃(j:Nat)(n:Int),j+m=z.length/\tm 7=i64 n/\tm 8=i64 (j:Nat)/\(res=xF agg c (j==0) n (z.drop j))) (fun m tm hq bz hI=>?_) (z.length) ⟨0,0,by simp,rfl,rfl,(aN.symm)⟩;obtain⟨j,n,hj,e7,e8,aD⟩:=hI;have k0:=bz 0 (by kernel_rfl);conv at k0=>rhs;whnf
 have k1:=bz 1 (by kernel_rfl);conv at k1=>rhs;whnf
 have k2:=bz 2 (by kernel_rfl);conv at k2=>rhs;whnf
 refine⟨[(0,_),(1,_),(2,_),(7,_),(8,_)],⟨k0,k1,k2,e7,e8,trivial⟩,?_⟩;clear bz k0 k1 k2 e7 e8;have S:ah hq []:=ah.nil hq;conv=>whnf
 have fw:j<4611686018427387904:=by simp[cM]at hz;omega
 refine ae (fun h1=>?_) (fun h1=>?_)
 ·have bq:j<z.length:=by simpa using h1
  have cx:(z.map Item.enc)[((j:Nat):Int).toNat]?=some (Item.enc z[j]):=by rw[aq];simp[bq]
  rw[ar bq]at aD;have BD:=hc _ (ay bq);generalize z[j]=x at cx aD BD;obtain⟨row,w⟩:=x;replace aD:res=xF agg c false (qu agg (A3 row c) w n (j==0)) (z.drop (j+1)):=aD;simp only at BD;have Ye:=qm BD.1 BD.2;have fR: ∀n',n'=qu agg (A3 row c) w n (j==0)->res=xF agg c (j+1==0) n' (z.drop (j+1)):=fun n' e=>by rw[e,aD];rfl
  clear aD;have KR:(((j:Nat):Int)==0)=(j==0):=by cases j<;>rfl
  generalize hv:A3 row c=v at Ye fR;conv=>whnf
  refine⟨_,cx,by omega,rfl,?_⟩;conv=>whnf
  refine⟨_,Ye,BD.1,rfl,?_⟩;conv=>whnf
  refine ae (fun a0=>?_) (fun a0=>?_)
  ·have a0:agg=0:=by simpa using a0
   conv=>whnf
   refine⟨_,cx,by omega,rfl,?_⟩;conv=>whnf
   exact⟨m-1,by omega,j+1,j8 n w,by omega,rfl,aQ j fw,fR _ (by simp[qu,a0])⟩
  ·have a0: ¬agg=0:=by simpa using a0
   conv=>whnf
   refine ae (fun a1=>?_) (fun a1=>?_)
   ·have a1:agg=1:=by simpa using a1
    conv=>whnf
    refine⟨_,cx,by omega,rfl,?_⟩;conv=>whnf
    exact⟨m-1,by omega,j+1,j8 n (RQ w v),by omega,rfl,aQ j fw,fR _ (by simp[qu,a1])⟩
   ·have a1: ¬agg=1:=by simpa using a1
    iterate 8
     all_goals(try(conv=>whnf))
     all_goals(first|(intro ke cg er bn;replace S:=S.alloc er bn)|(refine ae (fun hb=>?_) (fun hb=>?_))|skip)
    all_goals(try(conv=>whnf))
    all_goals first
     |exact⟨m-1,by omega,j+1,v,by omega,rfl,aQ j fw,fR _ (by simp only[qu,a0,a1,if_false];first|(simp_all;done)|(simp_all;omega))⟩
     |exact⟨m-1,by omega,j+1,n,by omega,rfl,aQ j fw,fR _ (by simp only[qu,a0,a1,if_false];first|(simp_all;done)|(simp_all;omega))⟩
 ·have bq:j=z.length:=by
   have: ¬j<z.length:=by simpa using h1
   omega
  subst bq;rw[aL]at aD;conv=>whnf
  exact dO aD.symm
def uY(z:List Item)(ao:List Int)(c:Int):Bool:=z.all fun x=>dY ao x.row.length&&col c x.row.length
theorem zZ(hp:bV pr)(z:List Item)(ao:List Int)(c:Int)(hz:z.length<=cM)(hl:ao.length<=1048576):dm pr 158 [aE.enc z,.sl (ao.map i64),i64 c] (.bool (uY z ao c)):=by
 have h2:=fun wide=>lM hp ao wide hl;have h3:=fun wide=>jz hp c wide;have aN:uY z ao c=uY z ao c:=rfl;conv at aN=>rhs;unfold uY
 generalize uY z ao c=res at aN⊢;refine xC hp rfl rfl ?_;have S:ah [] []:=ah.nil [];conv=>whnf
 refine dh (fun m tm hp=>∃(j:Nat),j+m=z.length/\tm 7=i64 (j:Nat)/\((z.take j).all (fun x=>dY ao x.row.length&&col c x.row.length)=true)) (fun m tm hq bz hI=>?_) (z.length) ⟨0,by simp,rfl,(rfl)⟩;obtain⟨j,hj,e7,aD⟩:=hI;have k0:=bz 0 (by kernel_rfl);conv at k0=>rhs;whnf
 have k1:=bz 1 (by kernel_rfl);conv at k1=>rhs;whnf
 have k2:=bz 2 (by kernel_rfl);conv at k2=>rhs;whnf
 refine⟨[(0,_),(1,_),(2,_),(7,_)],⟨k0,k1,k2,e7,trivial⟩,?_⟩;clear bz k0 k1 k2 e7;have S:ah hq []:=ah.nil hq;conv=>whnf
 have fw:j<4611686018427387904:=by simp[cM]at hz;omega
 refine ae (fun h1=>?_) (fun h1=>?_)
 ·have bq:j<z.length:=by simpa using h1
  have cx:(z.map Item.enc)[((j:Nat):Int).toNat]?=some (Item.enc z[j]):=by rw[aq];simp[bq]
  have eM:=lz (fun x:Item=>dY ao x.row.length&&col c x.row.length) bq;have fC:=nq (Q:=fun x:Item=>dY ao x.row.length&&col c x.row.length) bq;generalize z[j]=x at cx eM fC;obtain⟨row,w⟩:=x;rw[aD,aX]at eM;simp only at eM fC;conv=>whnf
  refine⟨_,cx,by omega,rfl,?_⟩;conv=>whnf
  rw[aO];refine⟨_,h2 _ _,?_⟩;conv=>whnf
  refine ae (fun g2=>?_) (fun g2=>?_)
  ·conv=>whnf
   refine⟨_,cx,by omega,rfl,?_⟩;conv=>whnf
   rw[aO];refine⟨_,h3 _ _,?_⟩;conv=>whnf
   refine ae (fun g3=>?_) (fun g3=>?_)
   ·conv=>whnf
    exact⟨m-1,by omega,j+1,by omega,aQ j fw,by rw[eM,g2,g3];rfl⟩
   ·conv=>whnf
    exact bH (by rw[aN,fC (by rw[g2,g3];rfl)])
  ·conv=>whnf
   exact bH (by rw[aN,fC (by rw[g2];rfl)])
 ·have bq:j=z.length:=by
   have: ¬j<z.length:=by simpa using h1
   omega
  subst bq;rw[aS]at aD;conv=>whnf
  exact bH (by rw[aN,aD])
def PD(z:List Item)(ao key:List Int):List Item:=z.filter fun x=>decide (0<x.w)&&eS (keyOf x.row ao) key
theorem uZ{h:aC}{L:List Chunk}{xs:List Int}{v:af}{F:List Nat}(S:ah h (.iA 1 (xs.map ba.i) v F::L)):Am.snap h v=some (.sl (xs.map i64)):=gq.snap ((ah.dv S).get 0 rfl)
theorem Ut(hp:bV pr)(z:List Item)(ao key:List Int)(kv:af)(hz:z.length<=cM)(hk: ∀x∈z,∀k∈ao,0<=k/\k<x.row.length)(hl:ao.length<=100)(sY:key.length<=100){h:aC}{L:List Chunk}(S:ah h L)
  (ZO: ∀h',ah h' L->Am.snap h' kv=some (.sl (key.map i64))) {K:dz->Prop} (hK: ∀v h',ah h' (.acc Item.enc 2 (PD z ao key) v::L)->K (.ret v h')):
  ∃r,bN (du pr) (call (du pr)) 166 [aE.enc z,.sl (ao.map i64),kv] h=some r/\K r:=by
   rw[mh rfl];refine cS (hp.out _ rfl) ?_;conv=>whnf
   replace S:=ah.ma Item.enc 2 S;refine dh (fun m tm hp=>∃(j:Nat)(D:af),j+m=z.length/\tm 7=D/\tm 8=i64 (j:Nat)/\ah hp (.acc Item.enc 2 (PD (z.take j) ao key) D::L)) (fun m tm hq bz hI=>?_) (z.length) ⟨0,.nil,by simp,rfl,rfl,S⟩;obtain⟨j,D,hj,e7,e8,S2⟩:=hI;have k0:=bz 0 (by kernel_rfl);conv at k0=>rhs;whnf
   have k1:=bz 1 (by kernel_rfl);conv at k1=>rhs;whnf
   have k2:=bz 2 (by kernel_rfl);conv at k2=>rhs;whnf
   refine⟨[(0,_),(1,_),(2,_),(7,_),(8,_)],⟨k0,k1,k2,e7,e8,trivial⟩,?_⟩;clear bz k0 k1 k2 e7 e8;replace S:=S2;clear S2;conv=>whnf
   have fw:j<4611686018427387904:=by simp[cM]at hz;omega
   refine ae (fun h1=>?_) (fun h1=>?_)
   ·have bq:j<z.length:=by simpa using h1
    have cx:(z.map Item.enc)[((j:Nat):Int).toNat]?=some (Item.enc z[j]):=by rw[aq];simp[bq]
    have cY:PD (z.take (j+1)) ao key=if decide (0<z[j].w)&&eS (keyOf z[j].row ao) key then PD (z.take j) ao key++[z[j]]else PD (z.take j) ao key:=qt _ bq
    have hlen:(PD (z.take j) ao key).length<=z.length:=bw (List.length_filter_le _ _) (by simp;omega);have Mc:=yA hp z[j].row ao (hk _ (ay bq)) hl;generalize z[j]=x at cx cY Mc;obtain⟨row,w⟩:=x;simp only at cY Mc;have uj:=qj hp (keyOf row ao) key (by simp[keyOf,cM];omega) (by simp[cM];omega);conv=>whnf
    refine⟨_,cx,by omega,rfl,?_⟩;conv=>whnf
    refine ae (fun g1=>?_) (fun g1=>?_)
    ·have W4:decide (0<w)=true:=by simpa using g1
     rw[W4,aX]at cY;conv=>whnf
     refine⟨_,cx,by omega,rfl,?_⟩;conv=>whnf
     refine cI S Mc rfl rfl fun A q1 F1 S1=>?_;clear S;conv=>whnf
     have hq:=uj.here (args:=[A,kv]) (jI (uZ S1) (ZO _ ((S1.drop 0).drop 0))) rfl rfl;refine⟨_,hq,?_⟩;clear hq;have S:=S1.drop 0;dsimp only[List.eraseIdx]at S;clear S1;conv=>whnf
     refine ae (fun g2=>?_) (fun g2=>?_)
     ·rw[if_pos g2]at cY;conv=>whnf
      refine⟨_,cx,by omega,rfl,?_⟩;conv=>whnf
      intro nM nN de dg;replace S:=S.alloc de dg;conv=>whnf
      refine⟨trivial,?_⟩;conv=>whnf
      refine⟨[_],bG (S.row 0 rfl),ef rfl rfl,?_⟩;replace S:=S.drop 0;dsimp only[List.eraseIdx]at S;refine oQ (f:=Item.enc) (x:=⟨row,w⟩) S (by simp[br,cM]at*;omega) fun k2 h2 S2 _=>?_;conv=>whnf
      exact⟨m-1,by omega,j+1,_,by omega,rfl,aQ j fw,by rw[cY];exact S2⟩
     ·rw[if_neg (by rw[g2];simp)]at cY;conv=>whnf
      exact⟨m-1,by omega,j+1,_,by omega,rfl,aQ j fw,by rw[cY];exact S⟩
    ·have W4:decide (0<w)=false:=by simpa using g1
     rw[W4,Bool.false_and,if_neg (by simp)]at cY;conv=>whnf
     exact⟨m-1,by omega,j+1,_,by omega,rfl,aQ j fw,by rw[cY];exact S⟩
   ·have bq:j=z.length:=by
     have: ¬j<z.length:=by simpa using h1
     omega
    subst bq;rw[aS]at S;conv=>whnf
    exact⟨_,rfl,hK _ _ S⟩
theorem Mu{h:aC}{L:List Chunk}{z:List Item}{v:af}(S:ah h (.acc Item.enc 2 z v::L)):Am.snap h v=some (aE.enc z):=by
 have h0:m8 Item.enc 2 h z v:=S.get 0 rfl;rcases h0 with⟨rfl,rfl⟩|⟨id,rfl,h1⟩
 ·rfl
 ·have:=pk (es:=z.map Item.enc) h1 (fun x hx=>by obtain⟨y,_,rfl⟩:=bj.1 hx;rfl);rw[aO]at this;exact this
def wB(z:List Item)(ao:List Int)(agg c:Int)(x:Item):Int:=xF agg c true 0 (PD z ao (keyOf x.row ao))
def dV(z:List Item)(ao:List Int)(agg c:Int)(acc:List Item)(x:Item):List Item:=
 if decide (x.w<0)then acc else if Jb acc (keyOf x.row ao++[wB z ao agg c x])==0 then fT acc (keyOf x.row ao++[wB z ao agg c x]) 1 else acc
def rM(z:List Item)(ao:List Int)(agg c:Int)(x:Item):Bool:=decide (x.w<0)||bE (wB z ao agg c x)
def kJ(z:List Item)(ao:List Int)(agg c:Int):Option (List Item):=
 if c7 z&&(decide (0<=agg)&&(decide (agg<=3)&&(dY ao 6&&uY z ao c)))&&z.all (rM z ao agg c)then ot (z.foldl (dV z ao agg c) [])else none
theorem qv{z:List Item}{ao:List Int}{agg c:Int}(hl:ao.length<=100): ∀(l:List Item)(acc:List Item),(∀x∈acc,x.row.length<=cM)->(l.foldl (dV z ao agg c) acc).length<=acc.length+l.length/\ ∀x∈l.foldl (dV z ao agg c) acc,x.row.length<=cM
 | [],acc,h=>⟨by simp,h⟩
 |y::l,acc,h=>by
  have h1:(dV z ao agg c acc y).length<=acc.length+1/\ ∀x∈dV z ao agg c acc y,x.row.length<=cM:=by
   unfold dV
   repeat' split
   ·exact⟨by omega,h⟩
   ·exact⟨uQ _ _ _,Gj h (by simp[keyOf,cM];omega)⟩
   ·exact⟨by omega,h⟩
  have h2:=qv (z:=z) (agg:=agg) (c:=c) hl l _ h1.2;simp only[List.foldl_cons,aJ];exact⟨by omega,h2.2⟩
theorem Je{α β:Type}(f:β->α->β)(b:β){z:List α}{j:Nat}(h:j<z.length):(z.take (j+1)).foldl f b=f ((z.take j).foldl f b) z[j]:=by
 rw[dn h,List.foldl_append];rfl
theorem sq{ao:List Int}{n:Int}(h:dY ao n=true):(∀k∈ao,0<=k/\k<n)/\ao.length<6:=by
 unfold dY at h;simp only[aj,decide_eq_true_iff]at h;refine⟨?_,h.2⟩
 have key: ∀(ks pre:List Int),jJ pre n ks=true-> ∀k∈ks,0<=k/\k<n:=by
  intro ks
  induction ks with
  |nil=>intro pre _ k hk;simp at hk
  |cons x xs ih=>
   intro pre hx k hk;simp only[jJ,aj]at hx;rcases aW.1 hk with rfl|hk
   ·have:=hx.1;simp[col]at this;omega
   ·exact ih _ (by first|exact hx.2|exact hx.2.2) k hk
 exact key ao [] h.1
theorem z4(hp:bV pr)(z:List Item)(ao:List Int)(agg c:Int)(hz:gi z)(sY:ao.length<=1048576):lu pr 159 [aE.enc z,.sl (ao.map i64),i64 agg,i64 c] [aE.d (nV (kJ z ao agg c)).1,.b (nV (kJ z ao agg c)).2]:=by
 have h1:=gu hp z hz;have h2:=lM hp ao 6 sY;have h3:=zZ hp z ao c hz.1 sY;have rm:=fun n=>uF hp n;have aN:kJ z ao agg c=kJ z ao agg c:=rfl;conv at aN=>rhs;unfold kJ
 generalize kJ z ao agg c=res at aN⊢;refine fN hp rfl ?_;have S:ah [] []:=ah.nil [];conv=>whnf
 refine⟨_,h1 _,?_⟩;conv=>whnf
 refine ae (fun g1=>?_) (fun g1=>?_)
 rotate_left
 ·have i4:res=none:=by rw[aN,if_neg];simp[g1]
  subst i4;conv=>whnf
  exact⟨_,rfl,_,_,_,rfl,jn _⟩
 conv=>whnf
 refine ae (fun g2=>?_) (fun g2=>?_)
 ·have i4:res=none:=by rw[aN,if_neg];simp at g2;simp;omega
  subst i4;conv=>whnf
  exact⟨_,rfl,_,_,_,rfl,jn _⟩
 conv=>whnf
 refine ae (fun g3=>?_) (fun g3=>?_)
 ·have i4:res=none:=by rw[aN,if_neg];simp at g3;simp;omega
  subst i4;conv=>whnf
  exact⟨_,rfl,_,_,_,rfl,jn _⟩
 conv=>whnf
 refine⟨_,h2 _,?_⟩;conv=>whnf
 refine ae (fun g4=>?_) (fun g4=>?_)
 rotate_left
 ·have i4:res=none:=by rw[aN,if_neg];simp[g4]
  subst i4;conv=>whnf
  exact⟨_,rfl,_,_,_,rfl,jn _⟩
 conv=>whnf
 refine⟨_,h3 _,?_⟩;conv=>whnf
 refine ae (fun g5=>?_) (fun g5=>?_)
 rotate_left
 ·have i4:res=none:=by rw[aN,if_neg];simp[g5]
  subst i4;conv=>whnf
  exact⟨_,rfl,_,_,_,rfl,jn _⟩
 rw[g1,g4,g5]at aN;have e2:decide (0<=agg)=true:=by simp at g2;simp;omega
 have e3:decide (agg<=3)=true:=by simp at g3;simp;omega
 rw[e2,e3]at aN;simp only[aX]at aN;obtain⟨-,k6⟩:=sq g4
 have Uu: ∀x∈z,(∀k∈ao,0<=k/\k<x.row.length)/\0<=c/\c<x.row.length:=fun x hx=>by
  have:=aG.1 g5 x hx;simp only[aj]at this;exact⟨(sq this.1).1,by have:=this.2;simp[col]at this;omega⟩
 have Bd:=(cE g1).1
 have DE: ∀key kv(h:aC)(L:List Chunk)(K:dz->Prop),key.length<=100->ah h L->(∀h',ah h' L->Am.snap h' kv=some (.sl (key.map i64)))->(∀v h',ah h' (.acc Item.enc 2 (PD z ao key) v::L)->K (.ret v h'))->
   ∃r,bN (du pr) (call (du pr)) 166 [aE.enc z,.sl (ao.map i64),kv] h=some r/\K r:=fun key kv h L K sY S hs hK=>
    Ut hp z ao key kv hz.1 (fun x hx=>(Uu x hx).1) (by omega) sY S hs hK
 have TF:=fun key=>RR hp (PD z ao key) agg c (by
  have:(PD z ao key).length<=z.length:=List.length_filter_le _ _;simp[cM];omega) (fun x hx=>(Uu x (List.mem_filter.1 hx).1).2)
 clear h1 h2 h3 g2 g3 e2 e3;conv=>whnf
 replace S:=ah.j7 2 S;refine dh (fun m tm hp=>∃(j:Nat)(D:af)(F:List Nat),j+m=z.length/\tm 10=D/\tm 11=i64 (j:Nat)/\ah hp [.iA 2 (((z.take j).foldl (dV z ao agg c) []).map Item.d) D F]/\((z.take j).all (rM z ao agg c)=true)) (fun m tm hq bz hI=>?_) (z.length) ⟨0,.nil,[],by simp,rfl,rfl,S,(rfl)⟩;obtain⟨j,D,F,hj,qX,IQ,S2,aD⟩:=hI;have k0:=bz 0 (by kernel_rfl);conv at k0=>rhs;whnf
 have k1:=bz 1 (by kernel_rfl);conv at k1=>rhs;whnf
 have k2:=bz 2 (by kernel_rfl);conv at k2=>rhs;whnf
 have k3:=bz 3 (by kernel_rfl);conv at k3=>rhs;whnf
 refine⟨[(0,_),(1,_),(2,_),(3,_),(10,_),(11,_)],⟨k0,k1,k2,k3,qX,IQ,trivial⟩,?_⟩;clear bz k0 k1 k2 k3 qX IQ;replace S:=S2;clear S2;conv=>whnf
 have fw:j<4611686018427387904:=by omega
 refine ae (fun h1=>?_) (fun h1=>?_)
 ·have bq:j<z.length:=by simpa using h1
  have cx:(z.map Item.enc)[((j:Nat):Int).toNat]?=some (Item.enc z[j]):=by rw[aq];simp[bq]
  have cY:=Je (dV z ao agg c) [] bq;have eM:=lz (rM z ao agg c) bq;have fC:=nq (Q:=rM z ao agg c) bq;have je:=qv (z:=z) (agg:=agg) (c:=c) (ao:=ao) (by omega) (z.take j) [] (by simp);have HN:(z.take j).length<=100:=by simp;omega
  have Mc:=yA hp z[j].row ao (Uu _ (ay bq)).1 (by omega);generalize z[j]=x at cx cY eM fC Mc;obtain⟨row,w⟩:=x;rw[aD,aX]at eM;have PC:(keyOf row ao).length<=6:=by simp[keyOf];omega
  unfold dV at cY;have X6:rM z ao agg c ⟨row,w⟩=(decide (w<0)||bE (wB z ao agg c ⟨row,w⟩)):=rfl;rw[X6]at eM fC;clear X6;have hn:wB z ao agg c ⟨row,w⟩=xF agg c true 0 (PD z ao (keyOf row ao)):=rfl;have hA:=TF (keyOf row ao);rw[<-hn]at hA;have hO:=DE (keyOf row ao);generalize wB z ao agg c ⟨row,w⟩=n at cY eM fC hA hn;simp only at cY eM fC Mc;have RS:gi ((z.take j).foldl (dV z ao agg c) [])/\((z.take j).foldl (dV z ao agg c) []).length<=100:=⟨⟨by simp[cM];simp at je;omega,je.2⟩,by simp at je;omega⟩;clear je aD hn;replace cY:(z.take (j+1)).foldl (dV z ao agg c) []=if decide (w<0)then(z.take j).foldl (dV z ao agg c) []else if Jb ((z.take j).foldl (dV z ao agg c) []) (keyOf row ao++[n])==0 then fT ((z.take j).foldl (dV z ao agg c) []) (keyOf row ao++[n]) 1 else(z.take j).foldl (dV z ao agg c) []:=cY
  generalize(z.take j).foldl (dV z ao agg c) []=acc at cY RS S;have qQ:=RP hp acc (keyOf row ao++[n]) RS.1 (by simp[cM];omega);conv=>whnf
  refine⟨_,cx,by omega,rfl,?_⟩;conv=>whnf
  refine ae (fun g6=>?_) (fun g6=>?_)
  ·rw[if_pos (by simpa using g6)]at cY;conv=>whnf
   exact⟨m-1,by omega,j+1,_,_,by omega,rfl,aQ j fw,by rw[cY];exact S,by rw[eM];simp at g6;simp[g6]⟩
  rw[if_neg (by simpa using g6)]at cY;conv=>whnf
  refine⟨_,cx,by omega,rfl,?_⟩;conv=>whnf
  refine cI S Mc rfl rfl fun A q1 F1 S1=>?_;clear S;conv=>whnf
  refine hO A _ _ _ (by omega) S1 (fun h' S'=>uZ S') (fun v2 BF S2=>?_);clear S1;conv=>whnf
  have hq:=hA.here (args:=[v2,i64 agg,i64 c]) (bm (Mu S2) rfl) rfl rfl;refine⟨_,hq,?_⟩;clear hq;have S:=S2.drop 0;dsimp only[List.eraseIdx]at S;clear S2;conv=>whnf
  refine⟨_,rm _ _,?_⟩;conv=>whnf
  refine ae (fun g7=>?_) (fun g7=>?_)
  rotate_left
  ·have i4:res=none:=by rw[aN,fC (by simp at g6;simp[g6,g7])];rfl
   subst i4;conv=>whnf
   exact⟨_,rfl,_,_,_,rfl,jn _⟩
  conv=>whnf
  intro nM nN de dg;replace S:=S.alloc de dg;conv=>whnf
  refine⟨trivial,?_⟩;conv=>whnf
  refine⟨[_],bG (S.row 0 rfl),cQ rfl rfl,?_⟩;replace S:=S.drop 0;dsimp only[List.eraseIdx]at S;refine oQ (f:=i64) (x:=n) (ah.Py S) (by simp[br];omega) fun k2 h2 S3 _=>?_;clear S;conv=>whnf
  have hq:=qQ.here (args:=[D,.own k2 0 (keyOf row ao++[n]).length]) (jI (pB (S3.drop 0)) (gq.snap ((ah.jc S3).get 0 rfl))) rfl rfl;refine⟨_,hq,?_⟩;clear hq;conv=>whnf
  refine ae (fun g8=>?_) (fun g8=>?_)
  ·rw[if_pos g8]at cY;conv=>whnf
   refine kG hp acc (keyOf row ao++[n]) 1 _ RS.1.1 RS.1.2 (by simp[cM];omega) S3.swap (fun h' S'=>gq.snap ((ah.jc S').get 0 rfl)) fun v' h' F' S4=>?_;conv=>whnf
   exact⟨m-1,by omega,j+1,_,_,by omega,rfl,aQ j fw,by rw[cY];exact S4.drop 1,by rw[eM,g7];simp⟩
  ·rw[if_neg (by rw[g8];simp)]at cY;conv=>whnf
   exact⟨m-1,by omega,j+1,_,_,by omega,rfl,aQ j fw,by rw[cY];exact S3.drop 0,by rw[eM,g7];simp⟩
 ·have bq:j=z.length:=by
   have: ¬j<z.length:=by simpa using h1
   omega
  subst bq;rw[aS]at S aD;rw[aD,if_pos rfl]at aN;have sI:=qv (z:=z) (agg:=agg) (c:=c) (ao:=ao) (by omega) z [] (by simp);conv=>whnf
  refine pC hp ⟨by simp[cM];simp at sI;omega,sI.2⟩ S (fun g=>?_) (fun g=>?_)
  ·have i4:=aN.trans (nr g);subst i4;conv=>whnf
   exact⟨_,rfl,_,_,_,rfl,Bl S true⟩
  ·have i4:=aN.trans (ns g);subst i4;conv=>whnf
   exact⟨_,rfl,_,_,_,rfl,jn _⟩
theorem PE{b:List Item}: ∀{a:List Item},∀x∈ct a b,∃y,(y∈a∨y∈b)/\x.row=y.row:=by
 induction b with
 |nil=>intro a x hx;exact⟨x,.inl hx,rfl⟩
 |cons c b ih=>
  intro a x hx;obtain⟨y,hy,e⟩:=ih (a:=fT a c.row c.w) x hx;rcases hy with hy|hy
  ·rcases pz y hy with h|⟨u,hu,h⟩
   ·exact⟨c,.inr (by simp),e.trans h⟩
   ·exact⟨u,.inl hu,e.trans h⟩
  ·exact⟨y,.inr (by simp[hy]),e⟩
def Uv(d:List Item)(ao r:List Int):Bool:=d.any fun x=>eS (keyOf x.row ao) (keyOf r ao)
theorem Mv{α:Type}(Q:α->Bool){z:List α}{j:Nat}(h:j<z.length):(z.take (j+1)).any Q=((z.take j).any Q||Q z[j]):=by
 rw[dn h,List.any_append];simp
theorem Uw(hp:bV pr)(d:List Item)(ao r:List Int)(hd:d.length<=cM)(hl:ao.length<=100)(hk: ∀x∈d,∀k∈ao,0<=k/\k<x.row.length)(hr: ∀k∈ao,0<=k/\k<r.length):
  dm pr 168 [aE.enc d,.sl (ao.map i64),.sl (r.map i64)] (.bool (Uv d ao r)):=by
   have h2:=yA hp r ao hr hl;have aN:Uv d ao r=Uv d ao r:=rfl;conv at aN=>rhs;unfold Uv
   generalize Uv d ao r=res at aN⊢;refine xC hp rfl rfl ?_;have S:ah [] []:=ah.nil [];conv=>whnf
   refine dh (fun m tm hp=>∃(j:Nat),j+m=d.length/\tm 7=i64 (j:Nat)/\((d.take j).any (fun x=>eS (keyOf x.row ao) (keyOf r ao))=false)) (fun m tm hq bz hI=>?_) (d.length) ⟨0,by simp,rfl,(rfl)⟩;obtain⟨j,hj,e7,aD⟩:=hI;have k0:=bz 0 (by kernel_rfl);conv at k0=>rhs;whnf
   have k1:=bz 1 (by kernel_rfl);conv at k1=>rhs;whnf
   have k2:=bz 2 (by kernel_rfl);conv at k2=>rhs;whnf
   refine⟨[(0,_),(1,_),(2,_),(7,_)],⟨k0,k1,k2,e7,trivial⟩,?_⟩;clear bz k0 k1 k2 e7;have S:ah hq []:=ah.nil hq;conv=>whnf
   have fw:j<4611686018427387904:=by simp[cM]at hd;omega
   refine ae (fun h1=>?_) (fun h1=>?_)
   ·have bq:j<d.length:=by simpa using h1
    have cx:(d.map Item.enc)[((j:Nat):Int).toNat]?=some (Item.enc d[j]):=by rw[aq];simp[bq]
    have cY:=Mv (fun x:Item=>eS (keyOf x.row ao) (keyOf r ao)) bq;have Ux:eS (keyOf d[j].row ao) (keyOf r ao)=true->res=true:=fun h=>by rw[aN,List.any_eq_true];exact⟨_,ay bq,h⟩
    have Mc:=yA hp d[j].row ao (hk _ (ay bq)) hl;generalize d[j]=x at cx cY Ux Mc;obtain⟨row,w⟩:=x;simp only at cY Ux Mc;rw[aD,Bool.false_or]at cY;have uj:=qj hp (keyOf row ao) (keyOf r ao) (by simp[keyOf,cM];omega) (by simp[keyOf,cM];omega);conv=>whnf
    refine⟨_,cx,by omega,rfl,?_⟩;conv=>whnf
    refine cI S Mc rfl rfl fun A q1 F1 S1=>?_;conv=>whnf
    refine cI S1 h2 rfl rfl fun B q2 F2 S2=>?_;conv=>whnf
    have hq:=uj.here (args:=[A,B]) (jI (uZ (S2.drop 0)) (uZ S2)) rfl rfl;refine⟨_,hq,?_⟩;clear hq;conv=>whnf
    refine ae (fun g1=>?_) (fun g1=>?_)
    ·conv=>whnf
     exact bH (Ux g1).symm
    ·conv=>whnf
     exact⟨m-1,by omega,j+1,by omega,aQ j fw,by rw[cY];exact g1⟩
   ·have bq:j=d.length:=by
     have: ¬j<d.length:=by simpa using h1
     omega
    subst bq;rw[aS]at aD;conv=>whnf
    exact bH (by rw[aN,aD])
def pD(z d:List Item)(ao:List Int):List Item:=z.filter fun x=>Uv d ao x.row
theorem Gt(hp:bV pr)(z d:List Item)(ao:List Int)(hz:gi z)(hd:d.length<=cM)(hl:ao.length<=100)(hk: ∀x∈d,∀k∈ao,0<=k/\k<x.row.length)(hr: ∀x∈z,∀k∈ao,0<=k/\k<x.row.length):
  tE pr 160 [aE.enc z,aE.enc d,.sl (ao.map i64)] 2 ((pD z d ao).map Item.d):=by
   have Bd:=hz.1;refine rJ hp rfl ?_;have S:ah [] []:=ah.nil [];conv=>whnf
   replace S:=ah.j7 2 S;refine dh (fun m tm hp=>∃(j:Nat)(D:af)(F:List Nat),j+m=z.length/\tm 7=D/\tm 8=i64 (j:Nat)/\ah hp [.iA 2 ((pD (z.take j) d ao).map Item.d) D F]) (fun m tm hq bz hI=>?_) (z.length) ⟨0,.nil,[],by simp,rfl,rfl,S⟩;obtain⟨j,D,F,hj,e7,e8,S2⟩:=hI;have k0:=bz 0 (by kernel_rfl);conv at k0=>rhs;whnf
   have k1:=bz 1 (by kernel_rfl);conv at k1=>rhs;whnf
   have k2:=bz 2 (by kernel_rfl);conv at k2=>rhs;whnf
   refine⟨[(0,_),(1,_),(2,_),(7,_),(8,_)],⟨k0,k1,k2,e7,e8,trivial⟩,?_⟩;clear bz k0 k1 k2 e7 e8;replace S:=S2;clear S2;conv=>whnf
   have fw:j<4611686018427387904:=by simp[cM]at Bd;omega
   refine ae (fun h1=>?_) (fun h1=>?_)
   ·have bq:j<z.length:=by simpa using h1
    have cx:(z.map Item.enc)[((j:Nat):Int).toNat]?=some (Item.enc z[j]):=by rw[aq];simp[bq]
    have cY:pD (z.take (j+1)) d ao=if Uv d ao z[j].row then pD (z.take j) d ao++[z[j]]else pD (z.take j) d ao:=qt _ bq
    have hlen:(pD (z.take j) d ao).length<=z.length:=bw (List.length_filter_le _ _) (by simp;omega);have SJ:=Uw hp d ao z[j].row hd hl hk (hr _ (ay bq));have eI:=px hp z[j].row (hz.2 _ (ay bq));generalize z[j]=x at cx cY SJ eI;obtain⟨row,w⟩:=x;simp only at cY SJ eI;conv=>whnf
    refine⟨_,cx,by omega,rfl,?_⟩;conv=>whnf
    refine⟨_,SJ _,?_⟩;conv=>whnf
    refine ae (fun g1=>?_) (fun g1=>?_)
    ·rw[if_pos g1]at cY;conv=>whnf
     refine⟨_,cx,by omega,rfl,?_⟩;conv=>whnf
     refine ek S eI rfl rfl fun A q1 F1 o1 S1=>?_;replace S:=S1;clear S1;conv=>whnf
     refine⟨_,cx,by omega,rfl,?_⟩;conv=>whnf
     refine dE o1.cell.1 ?_;conv=>whnf
     intro nM nN de dg;replace S:=S.alloc de dg;conv=>whnf
     refine⟨trivial,?_⟩;conv=>whnf
     refine⟨[_],bG (S.row 0 rfl),ef rfl (bC o1.cell.2 rfl),?_⟩;replace S:=S.drop 0;dsimp only[List.eraseIdx]at S;replace S:=(qh (w:=w) S).swap;refine jM S (by simp[br,cM]at*;omega) fun k_ h2 F2 S2=>?_;conv=>whnf
     exact⟨m-1,by omega,j+1,_,_,by omega,rfl,aQ j fw,by rw[cY,bd];exact S2⟩
    ·rw[if_neg (by rw[g1];simp)]at cY;conv=>whnf
     exact⟨m-1,by omega,j+1,_,_,by omega,rfl,aQ j fw,by rw[cY];exact S⟩
   ·have bq:j=z.length:=by
     have: ¬j<z.length:=by simpa using h1
     omega
    subst bq;rw[aS]at S;conv=>whnf
    exact⟨_,rfl,_,_,_,rfl,S.get 0 rfl,(S.get' 0 _ rfl).2⟩
def gd(z d:List Item)(ao:List Int)(agg c:Int):Option (List Item):=match lR z d with
 |none=>none
 |some now=>if dY ao 6&&(uY z ao c&&uY d ao c)then match kJ (pD z d ao) ao agg c,kJ (pD now d ao) ao agg c with
  |some a,some b=>ot (nt b a)
  |_,_=>none
  else none
theorem PF{z d now:List Item}(h:lR z d=some now):c7 z=true/\c7 d=true/\c7 now=true/\now=ct z d:=by
 unfold lR at h;split at h
 ·rename_i g;simp only[aj]at g;unfold ot at h;split at h
  ·cases h;exact⟨g.1,g.2,by assumption,rfl⟩
  ·cases h
 ·cases h
theorem PG{z w:List Item}(h:ot z=some w):c7 w=true:=by
 unfold ot at h;split at h
 ·cases h;assumption
 ·cases h
theorem Cf{z w:List Item}{ao:List Int}{agg c:Int}(h:kJ z ao agg c=some w):c7 w=true:=by
 unfold kJ at h;split at h
 ·exact PG h
 ·cases h
theorem Gu{z:List Item}{ao:List Int}{c:Int}(h:uY z ao c=true): ∀x∈z,∀k∈ao,0<=k/\k<x.row.length:=fun x hx=>by
 have:=aG.1 h x hx;simp only[aj]at this;exact(sq this.1).1
theorem Cg{z d:List Item}{ao:List Int}(hz:gi z):gi (pD z d ao):=⟨bw (List.length_filter_le _ _) hz.1,fun x hx=>hz.2 x (List.mem_filter.1 hx).1⟩
theorem Bm(hp:bV pr)(z d:List Item)(ao:List Int)(agg c:Int)(hz:gi z)(hd:gi d)(sY:ao.length<=1048576):
  lu pr 149 [aE.enc z,aE.enc d,.sl (ao.map i64),i64 agg,i64 c] [aE.d (nV (gd z d ao agg c)).1,.b (nV (gd z d ao agg c)).2]:=by
   have h1:=Dz hp z d hz hd;have h2:=lM hp ao 6 sY;have h3:=zZ hp z ao c hz.1 sY;have h4:=zZ hp d ao c hd.1 sY;have Yb:=@PF z d;have aN:gd z d ao agg c=gd z d ao agg c:=rfl;conv at aN=>rhs;unfold gd
   generalize gd z d ao agg c=res at aN⊢;refine fN hp rfl ?_;have S:ah [] []:=ah.nil [];conv=>whnf
   refine gA S h1 rfl rfl fun vs q F1 S1=>?_;obtain⟨v1,F2,rfl,S2⟩:=ah.jZ S1;clear S S1;have S:=S2;clear S2 h1;rcases hx:lR z d with _|now
   ·rw[hx]at aN S;subst aN;conv=>whnf
    exact⟨_,rfl,_,_,_,rfl,jn _⟩
   rw[hx]at aN S;obtain⟨o1,o2,o3,o4⟩:=Yb hx;simp only at aN;conv=>whnf
   refine⟨_,h2 _,?_⟩;conv=>whnf
   refine ae (fun g1=>?_) (fun g1=>?_)
   rotate_left
   ·have i4:res=none:=by rw[aN,if_neg];simp[g1]
    subst i4;conv=>whnf
    exact⟨_,rfl,_,_,_,rfl,jn _⟩
   conv=>whnf
   refine⟨_,h3 _,?_⟩;conv=>whnf
   refine ae (fun g2=>?_) (fun g2=>?_)
   rotate_left
   ·have i4:res=none:=by rw[aN,if_neg];simp[g2]
    subst i4;conv=>whnf
    exact⟨_,rfl,_,_,_,rfl,jn _⟩
   conv=>whnf
   refine⟨_,h4 _,?_⟩;conv=>whnf
   refine ae (fun g3=>?_) (fun g3=>?_)
   rotate_left
   ·have i4:res=none:=by rw[aN,if_neg];simp[g3]
    subst i4;conv=>whnf
    exact⟨_,rfl,_,_,_,rfl,jn _⟩
   rw[g1,g2,g3]at aN;simp only[Bool.and_self,if_true]at aN;have Nx:=(sq g1).2;have f1:=Gu g2;have f2:=Gu g3
   have f3: ∀x∈now,∀k∈ao,0<=k/\k<x.row.length:=fun x hxm=>by
    rw[o4]at hxm;obtain⟨y,hy,e⟩:=PE x hxm;rw[e];rcases hy with hy|hy
    ·exact f1 y hy
    ·exact f2 y hy
   have Px:=cF o3;have n1:=Gt hp z d ao hz hd.1 (by omega) f2 f1;have n2:=Gt hp now d ao Px hd.1 (by omega) f2 f3;have k1:=z4 hp (pD z d ao) ao agg c (Cg hz) sY;have k2:=z4 hp (pD now d ao) ao agg c (Cg Px) sY;clear h2 h3 h4 g1 g2 g3 f1 f2 f3 Yb;generalize pD z d ao=za at n1 k1 aN;generalize pD now d ao=zb at n2 k2 aN;have w1:=@Cf za;have w2:=@Cf zb;have e1: ∀h,cj h [aE.enc d,.sl (ao.map i64)]=some [aE.enc d,.sl (ao.map i64)]:=fun h=>rfl;have e2: ∀h,cj h [.sl (ao.map i64),i64 agg,i64 c]=some [.sl (ao.map i64),i64 agg,i64 c]:=fun h=>rfl;rcases ha:kJ za ao agg c with _|a<;>rcases hb:kJ zb ao agg c with _|b
   all_goals
    rw[ha]at k1;rw[hb]at k2;rw[ha,hb]at aN;simp only at aN;conv=>whnf
    refine cI S n1 rfl rfl fun v2 q2 F3 S3=>?_;conv=>whnf
    refine gA S3 k1 rfl (bm (pB S3) (e2 _)) fun vs q3 F4 S4=>?_;obtain⟨v3,F5,rfl,S5⟩:=ah.jZ S4;conv=>whnf
    refine cI S5 n2 rfl (bm (aE.fU (S5.get 2 rfl)) (e1 _)) fun v4 q4 F6 S6=>?_;conv=>whnf
    refine gA S6 k2 rfl (bm (pB S6) (e2 _)) fun vs q5 F7 S7=>?_;obtain⟨v5,F8,rfl,S8⟩:=ah.jZ S7;conv=>whnf
    try(first|(subst aN
               exact⟨_,rfl,_,_,_,rfl,jn _⟩))
   have r1:=cE (w1 ha);have r2:=cE (w2 hb);have d1:=Cd hp b a (cF (w2 hb)) (cF (w1 ha)) (by simp[cM];omega);have h7:=fp (a:=b) (b:=rL a) (cF (w2 hb)).2 (zW (cF (w1 ha))).2;have h8:(rL a).length<=100:=by simp[rL];omega
   have h9:gi (nt b a):=⟨by have:=h7.1;unfold nt;simp[cM];omega,h7.2⟩;refine cI S8 d1 rfl (jI (aE.fU (S8.get 0 rfl)) (aE.fU (S8.get 2 rfl))) fun v6 q6 F9 S9=>?_;conv=>whnf
   refine pC hp h9 S9 (fun g=>?_) (fun g=>?_)
   ·have i4:=aN.trans (nr g);subst i4;conv=>whnf
    exact⟨_,rfl,_,_,_,rfl,Bl S9 true⟩
   ·have i4:=aN.trans (ns g);subst i4;conv=>whnf
    exact⟨_,rfl,_,_,_,rfl,jn _⟩
def xG(bx:List (List Item)):Bool:=bx.all c7
theorem PH(hp:bV pr)(bx:List (List Item))(hr:xD bx):dm pr 161 [.agg [bM.enc bx]] (.bool (xG bx)):=by
 have e1:=fun(z:List Item)(h:z∈bx)=>gu hp z (hr.2 z h);have hl:=hr.1;have aN:xG bx=xG bx:=rfl;conv at aN=>rhs;unfold xG
 generalize xG bx=res at aN⊢;refine xC hp rfl rfl ?_;have S:ah [] []:=ah.nil [];conv=>whnf
 intro k1 a1 dw dC;replace S:=S.alloc dw dC;conv=>whnf
 refine dh (fun m tm hp=>∃(j:Nat),j+m=bx.length/\tm 3=i64 (j:Nat)/\ah hp [.row k1 (.box (.agg [bM.enc bx]))]/\((bx.take j).all c7=true)) (fun m tm hq bz hI=>?_) (bx.length) ⟨0,by simp,rfl,S,(rfl)⟩;obtain⟨j,hj,e3,S2,aD⟩:=hI;have k1:=bz 1 (by kernel_rfl);conv at k1=>rhs;whnf
 refine⟨[(1,_),(3,_)],⟨k1,e3,trivial⟩,?_⟩;clear bz k1 e3;replace S:=S2;clear S2;conv=>whnf
 have fw:j<4611686018427387904:=by simp[cM]at hl;omega
 refine aI (S.row 0 rfl) ?_;conv=>whnf
 refine ae (fun h1=>?_) (fun h1=>?_)
 ·have bq:j<bx.length:=by simpa using h1
  have cx:(bx.map aE.enc)[((j:Nat):Int).toNat]?=some (aE.enc bx[j]):=by rw[aq];simp[bq]
  have cY:=lz c7 bq;have fC:=nq (Q:=c7) bq;have hz:=e1 _ (ay bq);generalize bx[j]=z at cx cY fC hz;rw[aD,aX]at cY;conv=>whnf
  refine aI (S.row 0 rfl) ?_;conv=>whnf
  refine⟨_,cx,by omega,rfl,?_⟩;conv=>whnf
  refine⟨_,hz _,?_⟩;conv=>whnf
  refine ae (fun g1=>?_) (fun g1=>?_)
  ·conv=>whnf
   exact⟨m-1,by omega,j+1,by omega,aQ j fw,S,by rw[cY];exact g1⟩
  ·conv=>whnf
   exact bH (by rw[aN,fC g1])
 ·have bq:j=bx.length:=by
   have: ¬j<bx.length:=by simpa using h1
   omega
  subst bq;rw[aS]at aD;conv=>whnf
  exact bH (by rw[aN,aD])
theorem z5(hp:bV pr)(bx:List (List Item))(hr:xD bx):kC pr 140 [.agg [bM.enc bx]] (.g [bM.d bx]):=by
 have e1:=fun(z:List Item)(h:z∈bx)=>kF hp z (hr.2 z h);have hl:=hr.1;refine lQ hp rfl ?_;have S:ah [] []:=ah.nil [];conv=>whnf
 intro k1 a1 dw dC;replace S:=S.alloc dw dC;conv=>whnf
 intro k2 a2 jf iB;replace S:=S.alloc jf iB;conv=>whnf
 intro k3 a3 kS jN;replace S:=S.alloc kS jN;conv=>whnf
 refine⟨_,rfl,rfl,rfl,.inl ⟨_,S.row 0 rfl,rfl,?_⟩⟩;conv=>whnf
 intro a4 Gv;replace S:=S.w0 Gv;conv=>whnf
 replace S:=ah.j7 1 S;refine dh (fun m tm hp=>∃(j:Nat)(D:af)(F:List Nat),j+m=bx.length/\tm 4=i64 (j:Nat)/\ah hp [.iA 1 ((bx.take j).map aE.d) D F,.row k3 (.box (.agg [D])),.row k2 (.box (.agg [.nil])),.row k1 (.box (.agg [bM.enc bx]))]) (fun m tm hq bz hI=>?_) (bx.length) ⟨0,.nil,[],by simp,rfl,S⟩;obtain⟨j,D,F,hj,e4,S2⟩:=hI;have k1:=bz 1 (by kernel_rfl);conv at k1=>rhs;whnf
 have k2:=bz 2 (by kernel_rfl);conv at k2=>rhs;whnf
 have k3:=bz 3 (by kernel_rfl);conv at k3=>rhs;whnf
 refine⟨[(1,_),(2,_),(3,_),(4,_)],⟨k1,k2,k3,e4,trivial⟩,?_⟩;clear bz k1 k2 k3 e4;replace S:=S2;clear S2;conv=>whnf
 have fw:j<4611686018427387904:=by simp[cM]at hl;omega
 refine aI (S.row 3 rfl) ?_;conv=>whnf
 refine ae (fun h1=>?_) (fun h1=>?_)
 ·have bq:j<bx.length:=by simpa using h1
  have cx:(bx.map aE.enc)[((j:Nat):Int).toNat]?=some (aE.enc bx[j]):=by rw[aq];simp[bq]
  have cY:=js aE.d bq;have hz:=e1 _ (ay bq);generalize bx[j]=z at cx cY hz;conv=>whnf
  refine aI (S.row 1 rfl) ?_;conv=>whnf
  refine aI (S.row 3 rfl) ?_;conv=>whnf
  refine⟨_,cx,by omega,rfl,?_⟩;conv=>whnf
  refine cI S hz rfl rfl fun A q1 F1 S1=>?_;have o1:bP q1 (aE.d z) A F1:=(ah.dv S1).get 0 rfl;replace S:=(ah.dv S1).swap;clear S1;conv=>whnf
  refine dE o1.cell.1 ?_;conv=>whnf
  intro nM nN de dg;replace S:=S.alloc de dg;conv=>whnf
  refine⟨trivial,?_⟩;conv=>whnf
  refine⟨[_],bG (S.row 0 rfl),cQ o1.cell.1 o1.cell.2,?_⟩;replace S:=S.drop 0;dsimp only[List.eraseIdx]at S;refine jM (sz:=1) (d:=aE.d z) S (by simp[br,cM]at*;omega) fun k5 h5 F5 S2=>?_;clear S;have S:=S2;clear S2;conv=>whnf
  refine⟨_,rfl,rfl,rfl,.inl ⟨_,S.row 1 rfl,rfl,?_⟩⟩;conv=>whnf
  intro h6 fO;replace S:=S.w1 fO;conv=>whnf
  exact⟨m-1,by omega,j+1,_,_,by omega,aQ j fw,by rw[cY];exact S⟩
 ·have bq:j=bx.length:=by
   have: ¬j<bx.length:=by simpa using h1
   omega
  subst bq;rw[aS]at S;conv=>whnf
  refine aI (S.row 1 rfl) ?_;conv=>whnf
  have o1:=(ah.dv S).get 0 rfl;refine⟨_,rfl,rfl,bC o1.cell.2 rfl,.inl ⟨_,S.row 2 rfl,rfl,?_⟩⟩;conv=>whnf
  intro h6 fO;replace S:=S.w2 fO;conv=>whnf
  exact yx rfl rfl (S.row 2 rfl) rfl (iF ((ah.dv S).get 0 rfl) gE) (by rw[aU];exact((ah.dv S).get' 0 _ rfl).2)
def Ny(x:af):af:=x
theorem DF(vs:List af):vs.map Ny=vs:=List.map_id' vs
theorem ah.PI{h:aC}{L:List Chunk}{sz:Nat}{xs:List ba}{vs:List af}{v:af}{Fs:List Nat}(S:ah h (.acc Ny sz vs v:: .dy xs vs Fs::L)): ∃F,ah h (.iA sz xs v F::L):=by
 have h0:m8 Ny sz h vs v:=S.get 0 rfl;have hl:vs.length=xs.length:=gb (S.get 1 rfl);rcases h0 with⟨rfl,rfl⟩|⟨id,rfl,h1⟩
 ·have hx:xs=[]:=bk.1 hl.symm;subst hx;exact⟨[],ah.j7 sz ((S.drop 0).drop 0)⟩
 ·rw[DF]at h1;have S1:=S.is (c':=.row id (.arr sz vs)) h1 rfl;exact⟨_,ah.iV S1 hl⟩
theorem ah.at{h:aC}{L:List Chunk}{A B:List ba}{d:ba}{vs:List af}{F:List Nat}(S:ah h (.dy (A++d::B) vs F::L)): ∃VA v VB G,vs=VA++v::VB/\VA.length=A.length/\bP h d v G:=by
 obtain⟨v1,v2,F1,F2,rfl,rfl,h1,h2⟩:=nf (show bZ h (A++d::B) vs F from S.get 0 rfl);simp only[bZ]at h2;obtain⟨v,eo,G1,G2,rfl,rfl,h3,h4⟩:=h2;exact⟨v1,v,eo,G1,rfl,gb h1,h3⟩
end Go.Proofs.YtfepbikckfehlaaGreat

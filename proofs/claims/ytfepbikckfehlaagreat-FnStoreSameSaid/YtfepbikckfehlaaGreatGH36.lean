/- The plain law: a step keeps flows right. -/
import Derived.Test.YtfepbikckfehlaaGreatGH35
import Derived.Test.YtfepbikckfehlaaGreatGH28
set_option linter.unusedVariables false
set_option linter.unusedSimpArgs false
set_option maxHeartbeats 4000000
namespace Go.Proofs.YtfepbikckfehlaaGreat
open Go Go.Am
variable{pr:bW}(hp:cF pr)
set_option maxRecDepth 100000
def RD(l:List (List Item))(d:bg):Prop:=d.CP=true/\d.dep<=20/\d.enc=bX.enc l
mutual
def FD:bz->bg->Prop
 | .mk p l r ks,d=>∃dl dr ur,d= .g [.p p,.g [dl],.g [dr],.s 22 ur]/\RD l dl/\RD r dr/\yl ks ur
def yl:List bz->List bg->Prop
 | [],ds=>ds=[]
 |f::fs,ds=>∃d Uc,ds=d::Uc/\FD f d/\yl fs Uc
end
mutual
theorem ym: ∀(f:bz)(d:bg),FD f d->d.enc=f.enc
 | .mk (.mk au n aD cells a b aq agg col ao) l r ks,d,h=>by
  obtain⟨dl,dr,ur,rfl,⟨_,_,h1⟩,⟨_,_,h2⟩,h3⟩:=h;simp only[bz.enc,bg.enc,bg.uo,MY ks ur h3,h1,h2,aaw];rfl
theorem MY: ∀(fs:List bz)(ds:List bg),yl fs ds->bg.dv ds=bz.dv fs
 | [],ds,h=>by simp only[yl]at h;subst h;rfl
 |f::fs,ds,h=>by
  obtain⟨d,Uc,rfl,h1,h2⟩:=h;simp only[bg.dv,bz.dv,ym f d h1,MY fs Uc h2]
end
mutual
theorem tp: ∀(f:bz)(d:bg),FD f d->d.dep<=f.d.dep+20
 | .mk p l r ks,d,h=>by
  obtain⟨dl,dr,ur,rfl,⟨_,h1,_⟩,⟨_,h2,_⟩,h3⟩:=h;have:=MZ ks ur h3;simp only[bz.d,bg.dep,bg.dO];omega
theorem MZ: ∀(fs:List bz)(ds:List bg),yl fs ds->bg.dO ds<=bg.dO (bz.ds fs)+20
 | [],ds,h=>by simp only[yl]at h;subst h;simp[bg.dO]
 |f::fs,ds,h=>by
  obtain⟨d,Uc,rfl,h1,h2⟩:=h;have:=tp f d h1;have:=MZ fs Uc h2;simp only[bg.dO,bz.ds];omega
end
mutual
theorem w9: ∀f:bz,FD f f.d
 | .mk p l r ks=>⟨_,_,_,rfl,⟨BL l,iW l,bX.fG l⟩,⟨BL r,iW r,bX.fG r⟩,IW ks⟩
theorem IW: ∀fs:List bz,yl fs (bz.ds fs)
 | []=>rfl
 |f::fs=>⟨_,_,rfl,w9 f,IW fs⟩
end
theorem xa: ∀{fs:List bz}{ds:List bg},yl fs ds->ds.length=fs.length
 | [],ds,h=>by simp only[yl]at h;subst h;rfl
 |f::fs,ds,h=>by obtain⟨d,Uc,rfl,_,h2⟩:=h;simp[xa h2]
theorem FG: ∀{fs gs:List bz}{a b:List bg},yl fs a->yl gs b->yl (fs++gs) (a++b)
 | [],gs,a,b,h,hb=>by simp only[yl]at h;subst h;exact hb
 |f::fs,gs,a,b,h,hb=>by
  obtain⟨d,Uc,rfl,h1,h2⟩:=h;exact⟨d,Uc++b,rfl,h1,FG h2 hb⟩
theorem aj.uC{h:aG}{Q:List Chunk}{au n:Int}{aD:Test}{cells:List Cell}{a b:Int}{aq:List Int}{agg col:Int}{ao:List aA}{l r:List (List Item)}{ks:List bz}{d:bg}{v:af}{F:List Nat}
  (hd:FD (.mk (.mk au n aD cells a b aq agg col ao) l r ks) d) (S:aj h (.dL d v F::Q)):
  ∃C K D L R KS Fp F1 F2 F3 ur,v= .agg (bL au n aD C a b K agg col D [L,R,KS])/\yl ks ur/\C.bQ=true/\K.bQ=true/\D.bQ=true/\
   aj h (.dL (.p (.mk au n aD cells a b aq agg col ao)) (nb au n aD C a b K agg col D) Fp:: .xr l L F1:: .xr r R F2:: .dL (.s 22 ur) KS F3::Q):=by
    obtain⟨dl,dr,ur,rfl,h1,h2,h3⟩:=hd;obtain⟨vv,rfl,hu⟩:=iF.1 (show cq h _ v F from S.get 0 rfl);obtain⟨C,K,D,Fc,Fk,Fd,w1,G1,rfl,g1,g2,g3,rfl,Wr⟩:=QY.1 hu;obtain⟨u2,w2,H2,G2,rfl,rfl,DC,TQ⟩:=E5.1 Wr;simp only[fy]at DC;obtain⟨L,x2,H3,H4,rfl,rfl,gL,rfl,rfl⟩:=DC;obtain⟨u4,w4,H5,G4,rfl,rfl,Z1,ho6⟩:=E5.1 TQ;simp only[fy]at Z1;obtain⟨R,x3,H6,H7,rfl,rfl,gR,rfl,rfl⟩:=Z1;obtain⟨KS,u6,H8,G6,rfl,rfl,gK,ho8⟩:=l6.1 ho6;obtain⟨rfl,rfl⟩:=fO.1 ho8;have xL:XR h l L H3:=⟨dl,gL,h1⟩;have xR:XR h r R H6:=⟨dr,gR,h2⟩;refine⟨C,K,D,L,R,KS,Fc++(Fk++Fd),H3,H6,H8,ur,by rw[xL.cell.1,xR.cell.1];rfl,h3,g1.cell.2,g2.cell.2,g3.cell.2,S.Q2 [.dL (.p (.mk au n aD cells a b aq agg col ao)) (nb au n aD C a b K agg col D) (Fc++(Fk++Fd)),.xr l L H3,.xr r R H6,.dL (.s 22 ur) KS H8] (by simp[Chunk.dL,Chunk.xr]) ?_⟩;intro e he;simp only[aaz,List.not_mem_nil,or_false]at he;rcases he with rfl|rfl|rfl|rfl
    ·show cq _ _ _ _;unfold cq;exact lh.of g1 g2 g3
    ·exact xL
    ·exact xR
    ·exact gK
theorem aj.xb{h:aG}{Q:List Chunk}{au n:Int}{aD:Test}{cells:List Cell}{a b:Int}{aq:List Int}{agg col:Int}{ao:List aA}{l r:List (List Item)}{ks:List bz}{ur:List bg}{C K D L R KS:af}{Fp F1 F2 F3:List Nat}
  (hk:yl ks ur) (S:aj h (.dL (.p (.mk au n aD cells a b aq agg col ao)) (nb au n aD C a b K agg col D) Fp:: .xr l L F1:: .xr r R F2:: .dL (.s 22 ur) KS F3::Q)):
  ∃d F,FD (.mk (.mk au n aD cells a b aq agg col ao) l r ks) d/\aj h (.dL d (.agg (bL au n aD C a b K agg col D [L,R,KS])) F::Q):=by
   obtain⟨dl,gL,h1⟩:=(show XR h l L F1 from S.get 1 rfl);obtain⟨dr,gR,h2⟩:=(show XR h r R F2 from S.get 2 rfl);have xL:XR h l L F1:=S.get 1 rfl;have xR:XR h r R F2:=S.get 2 rfl;have hP:cq h (.p (.mk au n aD cells a b aq agg col ao)) (nb au n aD C a b K agg col D) Fp:=S.get 0 rfl;have hK:cq h (.s 22 ur) KS F3:=S.get 3 rfl;refine⟨.g [.p (.mk au n aD cells a b aq agg col ao),.g [dl],.g [dr],.s 22 ur],Fp++((F1++[])++((F2++[])++(F3++[]))),⟨dl,dr,ur,rfl,h1,h2,hk⟩,aj.U5 [.dL (.p (.mk au n aD cells a b aq agg col ao)) (nb au n aD C a b K agg col D) Fp,.xr l L F1,.xr r R F2,.dL (.s 22 ur) KS F3] S ?_ (by simp[Chunk.dL,Chunk.xr])⟩;refine iF.2 ⟨_,rfl,E6 hP ?_⟩;have e1:cq h (.g [dl]) (.agg [L]) (F1++[]):=iF.2 ⟨_,rfl,by have:=iS (ds:=[]) (vs:=[]) (F2:=[]) gL (fO.2 ⟨rfl,rfl⟩);rw[xL.cell.1]at this;exact this⟩;have e2:cq h (.g [dr]) (.agg [R]) (F2++[]):=iF.2 ⟨_,rfl,by have:=iS (ds:=[]) (vs:=[]) (F2:=[]) gR (fO.2 ⟨rfl,rfl⟩);rw[xR.cell.1]at this;exact this⟩;exact iS e1 (iS e2 (jD hK iL))
theorem xc(hp:cF pr){l:List (List Item)}{z:List Item}{L m0:af}{F G:List Nat}{h:aG}{Q:List Chunk}(hl:l.length<=5)(hr: ∀r∈l,dS r=true)(hz:dS z=true)(S:aj h (.xr l L F:: .dL (aI.d z) m0 G::Q)):
  ∃h2,cj (dZ pr) (call (dZ pr)) 150 [.agg [L],m0] h=some (.ret (.eT [.agg [bX.enc (pS l z).1],.bool (pS l z).2]) h2)/\aj h2 Q/\h.length<=h2.length:=by
   obtain⟨d,ho,h1,h2,he,_⟩:=(show XR h l L F from S.get 0 rfl).dL;have oz:cq h (aI.d z) m0 G:=S.get 1 rfl;have S1:aj h (.ed [.g [d],aI.d z] [.agg [L],m0] (F++G)::Q):=aj.U5 [.xr l L F,.dL (aI.d z) m0 G] S (iH ho oz) (by simp[Chunk.ed,Chunk.xr,Chunk.dL]);refine RI (ds:=[.g [d],aI.d z]) rfl S1 (by simp[bg.pR,bg.CP,h1,yh]) (by have:=lG z;simp only[bg.dO,bg.dep];omega) ?_;rw[show bg.dv [.g [d],aI.d z]=[.agg [bX.enc l],aI.enc z]from by simp only[bg.dv,he,aI.fG]];exact T8 hp l z hl hr hz
def hZ(au:Int)(l r ao:List (List Item)):List (List Item)×List (List Item)×Bool:=
 if au=4 then((pS l (iJ ao 0)).1,(pS r (iJ ao 1)).1,(pS l (iJ ao 0)).2&&(pS r (iJ ao 1)).2)
 else if au=6∨au=7 then((pS l (iJ ao 0)).1,r,(pS l (iJ ao 0)).2)
 else(l,r,true)
theorem FH{outs:List (List Item)}{i:Nat}(h:i<outs.length):outs[i]?=some (iJ outs i):=by simp[iJ,h]
theorem xd{outs:List (List Item)}{i:Nat}(h:i<outs.length):iJ outs i∈outs:=by simp[iJ,h]
theorem IX{outs:List (List Item)}{i:Nat}(h:i<outs.length):outs.drop i=iJ outs i::outs.drop (i+1):=by
 rw[aaf h];simp[iJ,h]
theorem aj.RS{h:aG}{Q:List Chunk}{outs:List (List Item)}{M:af}{FM:List Nat}(S:aj h (.jA 1 (outs.map aI.d) M FM::Q))(hl:1<=outs.length):
  ∃id v0 vs G0 Gs,M= .own id 0 outs.length/\aj h (.dL (aI.d (iJ outs 0)) v0 G0:: .ed ((outs.drop 1).map aI.d) vs Gs:: .row id (.arr 1 (v0::vs))::Q):=by
   rcases aj.wH S with⟨h0,_,_⟩|⟨id,vs,Fs,rfl,S1⟩
   ·simp at h0;subst h0;simp at hl
   ·rw[show outs.map aI.d=aI.d (iJ outs 0)::(outs.drop 1).map aI.d by
     have:=IX (outs:=outs) (i:=0) (by omega);rw[List.drop_zero]at this;rw[<-aao,<-this]]at S1
    obtain⟨v0,fx,G0,G1,rfl,rfl,S2⟩:=aj.uZ S1.swap;exact⟨id,v0,fx,G0,G1,by simp,S2⟩
theorem BP(hp:cF pr){au n:Int}{aD:Test}{cells:List Cell}{a b:Int}{aq:List Int}{agg col:Int}{ao:List aA}{l r outs:List (List Item)}{ur:List bg}{C K0 D L R KS M:af}{Fp F1 F2 F3 FM:List Nat}{h:aG}{Q:List Chunk}
  (hl:l.length<=5/\ ∀z∈l,dS z=true) (hr:r.length<=5/\ ∀z∈r,dS z=true) (ho: ∀z∈outs,dS z=true) (h4:au=4->2<=outs.length) (h6:au=6∨au=7->1<=outs.length) (c1:C.bQ=true) (c2:K0.bQ=true) (c3:D.bQ=true)
  (S:aj h (.jA 1 (outs.map aI.d) M FM:: .dL (.p (.mk au n aD cells a b aq agg col ao)) (nb au n aD C a b K0 agg col D) Fp:: .xr l L F1:: .xr r R F2:: .dL (.s 22 ur) KS F3::Q)) {K:ef->Prop}
  (hK: ∀L' R' G1 G2 h',aj h' (.dL (.p (.mk au n aD cells a b aq agg col ao)) (nb au n aD C a b K0 agg col D) Fp:: .xr (hZ au l r outs).1 L' G1:: .xr (hZ au l r outs).2.1 R' G2:: .dL (.s 22 ur) KS F3::Q)->K (.ret (.eT [.agg (bL au n aD C a b K0 agg col D [L',R',KS]),.bool (hZ au l r outs).2.2]) h')):
  ∃r,cj (dZ pr) (call (dZ pr)) 134 [.agg (bL au n aD C a b K0 agg col D [L,R,KS]),M] h=some r/\K r:=by
   have aQ:hZ au l r outs=hZ au l r outs:=rfl;conv at aQ=>rhs;unfold hZ
   generalize hZ au l r outs=res at aQ hK;have cL:=(show XR h l L F1 from S.get 2 rfl).cell;have cR:=(show XR h r R F2 from S.get 3 rfl).cell;have cK:=(show cq h (.s 22 ur) KS F3 from S.get 4 rfl).cell;have aF:(bL au n aD C a b K0 agg col D [L,R,KS]).all af.bQ=true:=pP c1 c2 c3 (bM cL.2 (bM cR.2 (bM cK.2 rfl)));rw[nN rfl];refine dJ (hp.out _ rfl) ?_;conv=>whnf
   intro k1 a1 eg er;replace S:=S.alloc eg er;conv=>whnf
   intro k2 a2 jS jb;replace S:=S.alloc jS jb;refine aC (S.row 1 rfl) ?_;conv=>whnf
   refine ae (fun g1=>?_) (fun g1=>?_)
   ·have n4:au≠4:=by simpa using g1
    rw[if_neg n4]at aQ;conv=>whnf
    refine ae (fun g2=>?_) (fun g2=>?_)
    ·have n6:au≠6:=by simpa using g2
     conv=>whnf
     refine ae (fun g3=>?_) (fun g3=>?_)
     ·have n7:au≠7:=by simpa using g3
      rw[if_neg (by omega)]at aQ;subst aQ;refine aC (S.row 1 rfl) ?_;conv=>whnf
      refine⟨(bL au n aD C a b K0 agg col D [L,R,KS]),(by kernel_rfl),rfl,aF,.inl ⟨_,S.row 0 rfl,rfl,?_⟩⟩;conv=>whnf
      intro a8 fH;replace S:=S.w0 fH;conv=>whnf
      exact⟨_,aS rfl rfl (S.row 0 rfl) rfl rfl,hK L R _ _ _ (((S.drop 0).drop 0).drop 0)⟩
     ·have e7:au=7:=by simpa using g3
      subst e7;have n1:=h6 (.inr rfl);conv=>whnf
      replace S:=S.q2;obtain⟨idm,v0,vs,G0,Gs,rfl,S1⟩:=aj.RS S n1;replace S:=S1;clear S1;have wW:fZ (dZ pr).P 30 v0 0=some v0:=by rcases(show cq _ (.s 2 ((iJ outs 0).map Item.d)) v0 G0 from S.get 0 rfl).slice with rfl|rfl|⟨_,_,rfl⟩<;>rfl
      refine aC (S.row 4 rfl) ?_;conv=>whnf
      refine⟨v0::vs,S.row 2 rfl,⟨by omega,by simp;omega⟩,?_⟩;conv=>whnf
      refine .inr ⟨_,_,v0,S.row 2 rfl,rfl,gH (v:=v0) wW ?_⟩;conv=>whnf
      intro k3 a3 mF lI;replace S:=S.alloc mF lI;replace S:=S.q7;replace S:=S.q2;obtain⟨q3,rV,S3,_⟩:=xc hp hl.1 hl.2 (ho _ (xd (by omega))) S.swap;generalize pS l (iJ outs 0)=pq at aQ rV;obtain⟨pl,pb⟩:=pq;dsimp only at aQ rV;cases pb
      all_goals
       conv=>whnf
       refine⟨_,rV,?_⟩;clear S rV;have S:=aj.OQ pl S3;clear S3;conv=>whnf
       refine⟨?_,?_⟩
       ·conv=>whnf
        refine⟨?_,?_⟩
        ·conv=>whnf
         exact⟨k3,rfl,S.row 1 rfl⟩
        ·trivial
       conv=>whnf
       refine⟨_,rfl,rfl,rfl,.inl ⟨_,S.row 1 rfl,rfl,?_⟩⟩;conv=>whnf
       intro b1 fw;replace S:=S.w1 fw;refine aC (S.row 1 rfl) ?_;conv=>whnf
       refine⟨_,rfl,rfl,rfl,.inl ⟨_,S.row 5 rfl,rfl,?_⟩⟩;conv=>whnf
       intro b2 ea;replace S:=S.w5 ea;conv=>whnf
       rw[if_pos (by decide)]at aQ;subst aQ;refine aC (S.row 5 rfl) ?_;conv=>whnf
       refine⟨(bL 7 n aD C a b K0 agg col D [bX.enc pl,R,KS]),(by kernel_rfl),rfl,(pP c1 c2 c3 (bM rfl (bM cR.2 (bM cK.2 rfl)))),.inl ⟨_,S.row 4 rfl,rfl,?_⟩⟩;conv=>whnf
       intro b3 fY;replace S:=S.w4 fY;conv=>whnf
       exact⟨_,aS rfl rfl (S.row 4 rfl) rfl rfl,hK (bX.enc pl) R _ _ _ (((((S.drop 1).drop 1).drop 1).drop 1).drop 1).swap⟩
    ·have e6:au=6:=by simpa using g2
     subst e6;have n1:=h6 (.inl rfl);conv=>whnf
     replace S:=S.q2;obtain⟨idm,v0,vs,G0,Gs,rfl,S1⟩:=aj.RS S n1;replace S:=S1;clear S1;have wW:fZ (dZ pr).P 30 v0 0=some v0:=by rcases(show cq _ (.s 2 ((iJ outs 0).map Item.d)) v0 G0 from S.get 0 rfl).slice with rfl|rfl|⟨_,_,rfl⟩<;>rfl
     refine aC (S.row 4 rfl) ?_;conv=>whnf
     refine⟨v0::vs,S.row 2 rfl,⟨by omega,by simp;omega⟩,?_⟩;conv=>whnf
     refine .inr ⟨_,_,v0,S.row 2 rfl,rfl,gH (v:=v0) wW ?_⟩;conv=>whnf
     intro k3 a3 mF lI;replace S:=S.alloc mF lI;replace S:=S.q7;replace S:=S.q2;obtain⟨q3,rV,S3,_⟩:=xc hp hl.1 hl.2 (ho _ (xd (by omega))) S.swap;generalize pS l (iJ outs 0)=pq at aQ rV;obtain⟨pl,pb⟩:=pq;dsimp only at aQ rV;cases pb
     all_goals
      conv=>whnf
      refine⟨_,rV,?_⟩;clear S rV;have S:=aj.OQ pl S3;clear S3;conv=>whnf
      refine⟨?_,?_⟩
      ·conv=>whnf
       refine⟨?_,?_⟩
       ·conv=>whnf
        exact⟨k3,rfl,S.row 1 rfl⟩
       ·trivial
      conv=>whnf
      refine⟨_,rfl,rfl,rfl,.inl ⟨_,S.row 1 rfl,rfl,?_⟩⟩;conv=>whnf
      intro b1 fw;replace S:=S.w1 fw;refine aC (S.row 1 rfl) ?_;conv=>whnf
      refine⟨_,rfl,rfl,rfl,.inl ⟨_,S.row 5 rfl,rfl,?_⟩⟩;conv=>whnf
      intro b2 ea;replace S:=S.w5 ea;conv=>whnf
      rw[if_pos (by decide)]at aQ;subst aQ;refine aC (S.row 5 rfl) ?_;conv=>whnf
      refine⟨(bL 6 n aD C a b K0 agg col D [bX.enc pl,R,KS]),(by kernel_rfl),rfl,(pP c1 c2 c3 (bM rfl (bM cR.2 (bM cK.2 rfl)))),.inl ⟨_,S.row 4 rfl,rfl,?_⟩⟩;conv=>whnf
      intro b3 fY;replace S:=S.w4 fY;conv=>whnf
      exact⟨_,aS rfl rfl (S.row 4 rfl) rfl rfl,hK (bX.enc pl) R _ _ _ (((((S.drop 1).drop 1).drop 1).drop 1).drop 1).swap⟩
   ·have e4:au=4:=by simpa using g1
    subst e4;have n1:=h4 rfl;rw[if_pos rfl]at aQ;conv=>whnf
    replace S:=S.q2;obtain⟨idm,v0,vs,G0,Gs,rfl,S1⟩:=aj.RS S (by omega);replace S:=S1;clear S1;have wW:fZ (dZ pr).P 30 v0 0=some v0:=by rcases(show cq _ (.s 2 ((iJ outs 0).map Item.d)) v0 G0 from S.get 0 rfl).slice with rfl|rfl|⟨_,_,rfl⟩<;>rfl
    refine aC (S.row 4 rfl) ?_;conv=>whnf
    refine⟨v0::vs,S.row 2 rfl,⟨by omega,by simp;omega⟩,?_⟩;conv=>whnf
    refine .inr ⟨_,_,v0,S.row 2 rfl,rfl,gH (v:=v0) wW ?_⟩;conv=>whnf
    intro k3 a3 mF lI;replace S:=S.alloc mF lI;replace S:=S.q7;replace S:=S.q2;obtain⟨q3,rV,S3,_⟩:=xc hp hl.1 hl.2 (ho _ (xd (by omega))) S.swap;generalize pS l (iJ outs 0)=pq at aQ rV;obtain⟨pl,pb⟩:=pq;dsimp only at aQ rV;cases pb
    all_goals
     conv=>whnf
     refine⟨_,rV,?_⟩;clear S rV;have S:=aj.OQ pl S3;clear S3;conv=>whnf
     refine⟨?_,?_⟩
     ·conv=>whnf
      refine⟨?_,?_⟩
      ·conv=>whnf
       exact⟨k3,rfl,S.row 1 rfl⟩
      ·trivial
     conv=>whnf
     refine⟨_,rfl,rfl,rfl,.inl ⟨_,S.row 1 rfl,rfl,?_⟩⟩;conv=>whnf
     intro b1 fw;replace S:=S.w1 fw;refine aC (S.row 1 rfl) ?_;conv=>whnf
     refine⟨_,rfl,rfl,rfl,.inl ⟨_,S.row 5 rfl,rfl,?_⟩⟩;conv=>whnf
     intro b2 ea;replace S:=S.w5 ea;conv=>whnf
     conv=>whnf
     rw[IX (outs:=outs) (i:=1) (by omega)]at S;replace S:=S.q2;obtain⟨v9,vs9,G9,H9,rfl,rfl,S9⟩:=aj.uZ S;clear S;have S:=S9;clear S9;have WL:fZ (dZ pr).P 30 v9 0=some v9:=by rcases(show cq _ (.s 2 ((iJ outs 1).map Item.d)) v9 G9 from S.get 0 rfl).slice with rfl|rfl|⟨_,_,rfl⟩<;>rfl
     refine aC (S.row 6 rfl) ?_;conv=>whnf
     refine⟨v0::v9::vs9,S.row 4 rfl,⟨by omega,by omega⟩,?_⟩;conv=>whnf
     refine .inr ⟨_,_,v9,S.row 4 rfl,rfl,gH (v:=v9) WL ?_⟩;conv=>whnf
     intro k4 a4 vp qX;replace S:=S.alloc vp qX;replace S:=S.q9;replace S:=S.q2;obtain⟨q4,WM,S4,_⟩:=xc hp hr.1 hr.2 (ho _ (xd (by omega))) S.swap;generalize pS r (iJ outs 1)=pq2 at aQ WM;obtain⟨ql,qb⟩:=pq2;dsimp only at aQ WM;cases qb
     all_goals
      conv=>whnf
      refine⟨_,WM,?_⟩;clear S WM;have S:=aj.OQ ql S4;clear S4;conv=>whnf
      refine⟨?_,?_⟩
      ·conv=>whnf
       refine⟨?_,?_⟩
       ·conv=>whnf
        exact⟨k4,rfl,S.row 1 rfl⟩
       ·trivial
      conv=>whnf
      refine⟨_,rfl,rfl,rfl,.inl ⟨_,S.row 1 rfl,rfl,?_⟩⟩;conv=>whnf
      intro b4 gX;replace S:=S.w1 gX;refine aC (S.row 1 rfl) ?_;conv=>whnf
      refine⟨_,rfl,rfl,rfl,.inl ⟨_,S.row 7 rfl,rfl,?_⟩⟩;conv=>whnf
      intro b5 jF;replace S:=S.w7 jF;conv=>whnf
      subst aQ;refine aC (S.row 7 rfl) ?_;conv=>whnf
      refine⟨(bL 4 n aD C a b K0 agg col D [bX.enc pl,bX.enc ql,KS]),(by kernel_rfl),rfl,(pP c1 c2 c3 (bM rfl (bM rfl (bM cK.2 rfl)))),.inl ⟨_,S.row 6 rfl,rfl,?_⟩⟩;conv=>whnf
      intro b6 tq;replace S:=S.w6 tq;conv=>whnf
      exact⟨_,aS rfl rfl (S.row 6 rfl) rfl rfl,hK (bX.enc pl) (bX.enc ql) _ _ _ (((((((S.drop 1).drop 1).drop 2).drop 2).drop 2).drop 2).swap.front 2 rfl)⟩
end Go.Proofs.YtfepbikckfehlaaGreat
set_option maxHeartbeats 4000000
namespace Go.Proofs.YtfepbikckfehlaaGreat
open Go Go.Am
theorem lF.ab5{z:List Item}(P:Item->Bool)(h:lF z):lF (z.filter P):=by
 induction z with
 |nil=>exact h
 |cons x xs ih=>
  rw[List.filter_cons];split
  ·exact⟨fun y hy=>h.1 y (List.mem_filter.1 hy).1,ih h.2⟩
  ·exact ih h.2
theorem M0: ∀{z:List Item}{q:Option (List Int)},lF z->(∀x∈z,o8 x.row=true/\Pk x.w=true)->(∀r,q=some r-> ∀y∈z,fl r y.row=true)->DJ q z=true
 | [],_,_,_,_=>rfl
 |x::xs,q,h1,h2,h3=>by
  simp only[DJ,xz];refine⟨⟨(h2 x (by simp)).1,(h2 x (by simp)).2,?_⟩,M0 h1.2 (fun y hy=>h2 y (by simp[hy])) fun r hr y hy=>?_⟩
  ·cases q with
   |none=>rfl
   |some r=>exact h3 r rfl x (by simp)
  ·cases hr;exact h1.1 y hy
theorem IY{z:List Item}(h:dS z=true): ∀x∈z,o8 x.row=true/\Pk x.w=true:=by
 simp only[dS,xz]at h
 have key: ∀(z:List Item)(q:Option (List Int)),DJ q z=true-> ∀x∈z,o8 x.row=true/\Pk x.w=true:=by
  intro z
  induction z with
  |nil=>intro q _ x hx;simp at hx
  |cons y ys ih=>
   intro q hq x hx;simp only[DJ,xz]at hq;rcases aaz.1 hx with rfl|hx
   ·exact⟨hq.1.1,hq.1.2.1⟩
   ·exact ih _ hq.2 x hx
 exact key z none h.2
theorem RT{z:List Item}(P:Item->Bool)(h:dS z=true):dS (z.filter P)=true:=by
 unfold dS;rw[decide_eq_true (aa3 (abH _ _) (dA h).1),aay];exact M0 ((qO h).ab5 P) (fun x hx=>IY h x (List.mem_filter.1 hx).1) fun r hr=>by cases hr
theorem OV{z w:List Item}{t:Test}(h:rO z t=some w):dS w=true/\ ∀x∈w,x∈z:=by
 unfold rO at h;split at h
 ·rename_i g;simp only[xz]at g;have h1:=RT (fun x=>(jZ t x.row).1) g.1;rw[md (qO h1) (MN h1)]at h;cases h
  exact⟨h1,fun x hx=>(List.mem_filter.1 hx).1⟩
 ·cases h
def eB(w:Int)(z:List Item):Prop:=∀x∈z,(x.row.length:Int)=w
theorem tu(w:Int):eB w []:=fun x hx=>by simp at hx
theorem IZ{w:Int}{z:List Item}{r:List Int}{k:Int}(hz:eB w z)(hr:(r.length:Int)=w):eB w (hY z r k):=fun x hx=>by
 rcases qM x hx with h|⟨y,hy,h⟩
 ·rw[h];exact hr
 ·rw[h];exact hz y hy
theorem jG{w:Int}{a b:List Item}(ha:eB w a)(hb:eB w b):eB w (dt a b):=by
 induction b generalizing a with
 |nil=>exact ha
 |cons y ys ih=>exact ih (IZ ha (hb y (by simp))) fun x hx=>hb x (by simp[hx])
theorem og{w:Int}{z v:List Item}(h:qf z=some v)(hz:eB w z):dS v=true/\eB w v:=by
 unfold qf at h;split at h
 ·cases h;exact⟨by assumption,hz⟩
 ·cases h
theorem I0{w:Int}{z:List Item}(hz:eB w z):eB w (tf z):=fun x hx=>by
 obtain⟨y,hy,rfl⟩:=aaO.1 hx;exact hz y hy
theorem I1{w:Int}{z:List Item}(hz:eB w z):eB w (rP z):=fun x hx=>by
 obtain⟨y,hy,rfl⟩:=aaO.1 hx;exact hz y (List.mem_filter.1 hy).1
theorem DZ{w:Int}{a b v:List Item}(h:np a b=some v)(ha:eB w a)(hb:eB w b):dS v=true/\eB w v:=by
 unfold np at h;split at h
 ·exact og h (jG ha hb)
 ·cases h
theorem BQ{w:Int}{a b v:List Item}(h:ju a b=some v)(ha:eB w a)(hb:eB w b):dS v=true/\eB w v:=by
 unfold ju at h;split at h
 ·rename_i now hn;exact og h (jG (I1 (DZ hn ha hb).2) (I0 (I1 ha)))
 ·cases h
theorem RU{z v:List Item}{cells:List Cell}(h:Fo z cells=some v):dS v=true/\eB (cells.length:Int) v:=by
 unfold Fo at h;split at h
 ·rename_i g;simp only[xz]at g;refine og h (jG (tu _) fun y hy=>?_);obtain⟨x,hx,rfl⟩:=aaO.1 hy;have:=aaj.1 g.2 x hx;simp only;unfold cellsOf at this⊢;split
  ·simp
  ·rename_i hn;rw[if_neg hn]at this;simp at this
 ·cases h
theorem yn{a b:List Item}{x y wa wb:Int}(ha:eB wa a)(hb:eB wb b):eB (wa+wb) (dt [] (jE a b x y)):=by
 refine jG (tu _) fun u hu=>?_;obtain⟨p,hp,hu⟩:=List.mem_flatMap.1 hu;obtain⟨q,hq,rfl⟩:=aaO.1 hu;have h1:=ha p hp;have h2:=hb q (List.mem_filter.1 hq).1;simp only[z4,abv];omega
theorem BR{a da b db v:List Item}{x y wa wb:Int}(h:jw a da b db x y=some v)(ha:eB wa a)(ZX:eB wa da)(hb:eB wb b)(ZY:eB wb db):dS v=true/\eB (wa+wb) v:=by
 unfold jw at h;split at h
 ·exact og h (jG (jG (yn ZX hb) (yn ha ZY)) (yn ZX ZY))
 ·cases h
theorem BS{z v:List Item}{aq:List Int}{agg c:Int}(h:mn z aq agg c=some v):dS v=true/\eB ((aq.length:Int)+1) v:=by
 have key: ∀(l acc:List Item),eB ((aq.length:Int)+1) acc->eB ((aq.length:Int)+1) (l.foldl (eS z aq agg c) acc):=by
  intro l
  induction l with
  |nil=>intro acc h;exact h
  |cons y ys ih=>
   intro acc h;refine ih _ ?_;unfold eS
   repeat' split
   ·exact h
   ·exact IZ h (by simp[keyOf])
   ·exact h
 unfold mn at h;split at h
 ·exact og h (key z [] (tu _))
 ·cases h
theorem zK{z d v:List Item}{aq:List Int}{agg c:Int}(h:iy z d aq agg c=some v):dS v=true/\eB ((aq.length:Int)+1) v:=by
 unfold iy at h;split at h
 ·cases h
 ·split at h
  ·split at h
   ·rename_i a b ha hb;exact og h (jG (BS hb).2 (I0 (BS ha).2))
   ·cases h
  ·cases h
theorem BT{w:Int}{l:List (List Item)}(h: ∀z∈l,eB w z):eB w (jd l):=by
 have key: ∀(rs:List (List Item))(a:List Item),(∀z∈rs,eB w z)->eB w a->eB w (rs.foldl dt a):=by
  intro rs
  induction rs with
  |nil=>intro a _ ha;exact ha
  |cons z zs ih=>intro a hz ha;exact ih _ (fun y hy=>hz y (by simp[hy])) (jG ha (hz z (by simp)))
 exact key l [] h (tu w)
theorem D4{P:List Item->Prop}{xs:List (List Item)}(h2:2<=xs.length)(h: ∀z∈xs,P z)(ha: ∀y z,P y->P z->dt y z≠[]->P (dt y z)): ∀z∈gW xs,P z:=by
 obtain⟨A,y,z,rfl⟩:=rU h2;rw[wZ];intro u hu;split at hu
 ·exact h u (by rw[aaw]at hu;simp[hu])
 ·rename_i mD;rcases aaS.1 hu with hu|hu
  ·exact h u (by simp[hu])
  ·simp at hu;subst hu;exact ha y z (h y (by simp)) (h z (by simp)) mD
theorem BU{P:List Item->Prop}(ha: ∀y z,P y->P z->dt y z≠[]->P (dt y z)): ∀(n:Nat)(xs:List (List Item)),(∀z∈xs,P z)-> ∀z∈j5 n xs,P z
 |0,xs,h=>h
 |n+1,xs,h=>by
  unfold j5;split
  ·rename_i hc;exact BU ha n _ (D4 (by omega) h ha)
  ·exact h
theorem BV: ∀(n:Nat)(xs:List (List Item)),xs.length<=n-> ¬(5<(j5 n xs).length∨(1<(j5 n xs).length/\fq (j5 n xs)=false))
 |0,xs,h=>by
  have:xs=[]:=aaM.1 (by omega);subst this
  simp[j5]
 |n+1,xs,h=>by
  by_cases hc:5<xs.length∨(1<xs.length/\fq xs=false)
  ·unfold j5;rw[if_pos hc];have:=px (xs:=xs) (by omega);exact BV n _ (by omega)
  ·unfold j5;rw[if_neg hc];exact hc
theorem z6{w:Int}{l:List (List Item)}{z:List Item}(hl:fq l=true)(hw: ∀y∈l,eB w y)(hz:eB w z)(h:(pS l z).2=true):fq (pS l z).1=true/\ ∀y∈(pS l z).1,eB w y:=by
 unfold pS at h⊢;split at h
 ·rw[if_pos (by assumption)];exact⟨hl,hw⟩
 ·rename_i mD;rw[if_neg mD];split at h
  ·rename_i h1;rw[if_pos h1];split at h
   ·rename_i h2;rw[if_pos h2];have hn:=IQ hl
    have hA:=BU (P:=fun y=>eB w y/\y≠[]) (fun y z hy hz mD=>⟨jG hy.1 hz.1,mD⟩) (l.length+1) (l++[z]) (fun y hy=>by
     rcases aaS.1 hy with hy|hy
     ·exact⟨hw y hy,hn y hy⟩
     ·simp at hy;subst hy;exact⟨hz,mD⟩)
    have hE:=BV (l.length+1) (l++[z]) (by simp);generalize j5 (l.length+1) (l++[z])=T at h2 hA hE⊢;refine⟨?_,fun y hy=>(hA y hy).1⟩
    by_cases h3:1<T.length
    ·cases hT:fq T with
     |true=>rfl
     |false=>exact absurd (.inr ⟨h3,hT⟩) hE
    ·match T,h3 with
     | [],_=>rfl
     | [y],_=>
      have hy:dS y=true:=by simpa[zk]using h2
      have Yr:=(hA y (by simp)).2
      simp[fq,qe,hy,Yr]
     |_::_::_,h3=>simp at h3
   ·cases h
  ·cases h
theorem oh{o:Option (List Item)}(h:(pQ o).2=true):o=some (pQ o).1:=by
 cases o with
 |none=>cases h
 |some z=>rfl
def yp(ws:List Int)(au n:Int)(cells:List Cell)(aq:List Int)(l r:List (List Item))(wk:List Int)(w:Int):Prop:=
 (au=1/\0<=n/\wk=[]/\ws[n.toNat]?=some w)∨(au=2/\wk=[w])∨(au=3/\wk.length=1/\w=cells.length)∨
 (au=4/\ ∃a b,wk=[a,b]/\w=a+b/\(∀z∈l,eB a z)/\ ∀z∈r,eB b z)∨(au=5/\wk=[w,w])∨(au=6/\wk=[w]/\ ∀z∈l,eB w z)∨
 (au=7/\w=(aq.length:Int)+1/\ ∃a,wk=[a]/\ ∀z∈l,eB a z)
theorem Ud{ws:List Int}{au n:Int}{aD:Test}{cells:List Cell}{a b:Int}{aq:List Int}{agg col:Int}{l r aK outs:List (List Item)}{wk:List Int}{w:Int}(hn:yp ws au n cells aq l r wk w)
  (ht: ∀(i:Nat) z v,aK[i]?=some z->ws[i]?=some v->dS z=true/\eB v z) (ho:outs.length=wk.length) (hk: ∀(i:Nat) z v,outs[i]?=some z->wk[i]?=some v->dS z=true/\eB v z)
  (h:(kQ au n aD cells a b aq agg col l r aK outs).2=true):dS (kQ au n aD cells a b aq agg col l r aK outs).1=true/\eB w (kQ au n aD cells a b aq agg col l r aK outs).1:=by
   have h0: ∀(i:Nat) v,wk[i]?=some v->dS (iJ outs i)=true/\eB v (iJ outs i):=fun i v hv=>by
    have hi:i<outs.length:=by rw[ho];exact(aag.1 hv).1
    exact hk i _ v (FH hi) hv
   unfold kQ at h⊢;rcases hn with⟨rfl,KA,rfl,hw⟩|⟨rfl,rfl⟩|⟨rfl,_,rfl⟩|⟨rfl,a',b',rfl,rfl,hl,hr⟩|⟨rfl,rfl⟩|⟨rfl,rfl,hl⟩|⟨rfl,rfl,a',rfl,hl⟩
   ·rw[if_pos rfl];split
    ·exact⟨rfl,tu _⟩
    ·rename_i fK;have hi:n.toNat<aK.length:=by omega
     exact ht n.toNat _ w (FH hi) hw
   ·rw[if_neg (by decide),if_pos rfl]at h⊢;obtain⟨h1,h2⟩:=OV (oh h);exact⟨h1,fun x hx=>(h0 0 w rfl).2 x (h2 x hx)⟩
   ·rw[if_neg (by decide),if_neg (by decide),if_pos rfl]at h⊢;exact RU (oh h)
   ·rw[if_neg (by decide),if_neg (by decide),if_neg (by decide),if_pos rfl]at h⊢;exact BR (oh h) (BT hl) (h0 0 a' rfl).2 (BT hr) (h0 1 b' rfl).2
   ·rw[if_neg (by decide),if_neg (by decide),if_neg (by decide),if_neg (by decide),if_pos rfl]at h⊢;exact DZ (oh h) (h0 0 w rfl).2 (h0 1 w rfl).2
   ·rw[if_neg (by decide),if_neg (by decide),if_neg (by decide),if_neg (by decide),if_neg (by decide),if_pos rfl]at h⊢;exact BQ (oh h) (BT hl) (h0 0 w rfl).2
   ·rw[if_neg (by decide),if_neg (by decide),if_neg (by decide),if_neg (by decide),if_neg (by decide),if_neg (by decide)]at h⊢;exact zK (oh h)
theorem Ue{ws:List Int}{au n:Int}{cells:List Cell}{aq:List Int}{l r outs:List (List Item)}{wk:List Int}{w:Int}(hn:yp ws au n cells aq l r wk w)(hl:fq l=true)(hr:fq r=true)
  (ho:outs.length=wk.length) (hk: ∀(i:Nat) z v,outs[i]?=some z->wk[i]?=some v->dS z=true/\eB v z) (h:(hZ au l r outs).2.2=true):
  yp ws au n cells aq (hZ au l r outs).1 (hZ au l r outs).2.1 wk w/\fq (hZ au l r outs).1=true/\fq (hZ au l r outs).2.1=true/\(au≠4->(hZ au l r outs).2.1=r)/\(au≠4->au≠6->au≠7->(hZ au l r outs).1=l):=by
   have h0: ∀(i:Nat) v,wk[i]?=some v->dS (iJ outs i)=true/\eB v (iJ outs i):=fun i v hv=>by
    have hi:i<outs.length:=by rw[ho];exact(aag.1 hv).1
    exact hk i _ v (FH hi) hv
   unfold hZ at h⊢;rcases hn with⟨rfl,KA,rfl,hw⟩|⟨rfl,rfl⟩|⟨rfl,h3,rfl⟩|⟨rfl,a',b',rfl,rfl,gl,gr⟩|⟨rfl,rfl⟩|⟨rfl,rfl,gl⟩|⟨rfl,rfl,a',rfl,gl⟩
   ·rw[if_neg (by decide),if_neg (by decide)];exact⟨.inl ⟨rfl,KA,rfl,hw⟩,hl,hr,fun _=>rfl,fun _ _ _=>rfl⟩
   ·rw[if_neg (by decide),if_neg (by decide)];exact⟨.inr (.inl ⟨rfl,rfl⟩),hl,hr,fun _=>rfl,fun _ _ _=>rfl⟩
   ·rw[if_neg (by decide),if_neg (by decide)];exact⟨.inr (.inr (.inl ⟨rfl,h3,rfl⟩)),hl,hr,fun _=>rfl,fun _ _ _=>rfl⟩
   ·rw[if_pos rfl]at h⊢;simp only[xz]at h;obtain⟨p1,p2⟩:=z6 hl gl (h0 0 a' rfl).2 h.1;obtain⟨p3,p4⟩:=z6 hr gr (h0 1 b' rfl).2 h.2;exact⟨.inr (.inr (.inr (.inl ⟨rfl,a',b',rfl,rfl,p2,p4⟩))),p1,p3,fun h=>absurd rfl h,fun h=>absurd rfl h⟩
   ·rw[if_neg (by decide),if_neg (by decide)];exact⟨.inr (.inr (.inr (.inr (.inl ⟨rfl,rfl⟩)))),hl,hr,fun _=>rfl,fun _ _ _=>rfl⟩
   ·rw[if_neg (by decide),if_pos (by decide)]at h⊢;obtain⟨p1,p2⟩:=z6 hl gl (h0 0 w rfl).2 h;exact⟨.inr (.inr (.inr (.inr (.inr (.inl ⟨rfl,rfl,p2⟩))))),p1,hr,fun _=>rfl,fun _ h=>absurd rfl h⟩
   ·rw[if_neg (by decide),if_pos (by decide)]at h⊢;obtain⟨p1,p2⟩:=z6 hl gl (h0 0 a' rfl).2 h;exact⟨.inr (.inr (.inr (.inr (.inr (.inr ⟨rfl,rfl,a',rfl,p2⟩))))),p1,hr,fun _=>rfl,fun _ _ h=>absurd rfl h⟩
def mT(ws:List Int):Nat->bz->Int->Prop
 |0,_,_=>False
 |d+1,.mk (.mk au n aD cells a b aq agg col qs) l r ks,w=>(aA.mk au n aD cells a b aq agg col qs).sz<=300/\fq l=true/\fq r=true/\(au≠4->r=[])/\(au≠4->au≠6->au≠7->l=[])/\ks.map bz.ez=qs/\
  ∃wk:List Int,wk.length=ks.length/\yp ws au n cells aq l r wk w/\ ∀(i:Nat) k v,ks[i]?=some k->wk[i]?=some v->mT ws d k v
mutual
def jg:bz->List (List Item)->Option (bz×List Item)
 | .mk (.mk au n aD cells a b aq agg col qs) l r ks,aK=>match jx ks aK with
  |none=>none
  |some (kC,outs)=>if(kQ au n aD cells a b aq agg col l r aK outs).2=false then none else
   if(hZ au l r outs).2.2=false then none else some (.mk (.mk au n aD cells a b aq agg col qs) (hZ au l r outs).1 (hZ au l r outs).2.1 kC,(kQ au n aD cells a b aq agg col l r aK outs).1)
def jx:List bz->List (List Item)->Option (List bz×List (List Item))
 | [],_=>some ([],[])
 |k::ks,aK=>match jg k aK with
  |none=>none
  |some (k',o)=>match jx ks aK with
   |none=>none
   |some (kC,outs)=>some (k'::kC,o::outs)
end
theorem pA{aK:List (List Item)}: ∀{ks kC:List bz}{outs:List (List Item)},jx ks aK=some (kC,outs)->kC.length=ks.length/\outs.length=ks.length/\ ∀(i:Nat) k,ks[i]?=some k-> ∃k' o,jg k aK=some (k',o)/\kC[i]?=some k'/\outs[i]?=some o
 | [],kC,outs,h=>by simp only[jx,Option.some.injEq,Prod.mk.injEq]at h;obtain⟨rfl,rfl⟩:=h;exact⟨rfl,rfl,fun i k h=>by simp at h⟩
 |k::ks,kC,outs,h=>by
  simp only[jx]at h;split at h
  ·cases h
  ·rename_i k1 o1 h1;split at h
   ·cases h
   ·rename_i ks1 adQ h2;simp only[Option.some.injEq,Prod.mk.injEq]at h;obtain⟨rfl,rfl⟩:=h;obtain⟨g1,g2,g3⟩:=pA h2;refine⟨by simp[g1],by simp[g2],fun i k2 hi=>?_⟩
    cases i with
    |zero=>simp at hi;subst hi;exact⟨_,_,h1,rfl,rfl⟩
    |succ i=>exact g3 i k2 (by simpa using hi)
theorem ud{ws:List Int}{aK:List (List Item)}(ht: ∀(i:Nat) z v,aK[i]?=some z->ws[i]?=some v->dS z=true/\eB v z): ∀(d:Nat)(f f':bz)(w:Int)(out:List Item),mT ws d f w->jg f aK=some (f',out)->mT ws d f' w/\dS out=true/\eB w out/\f'.ez=f.ez:=by
 intro d
 induction d with
 |zero=>intro f f' w out h;exact h.elim
 |succ d ih=>
  intro f f' w out hf hs;obtain⟨⟨au,n,aD,cells,a,b,aq,agg,col,qs⟩,l,r,ks⟩:=f;obtain⟨h1,h2,h3,h4,h5,h6,wk,h7,h8,h9⟩:=hf;simp only[jg]at hs;split at hs
  ·cases hs
  ·rename_i kC outs vU;split at hs
   ·cases hs
   ·rename_i hm;split at hs
    ·cases hs
    ·rename_i Xk;simp only[Option.some.injEq,Prod.mk.injEq]at hs;obtain⟨rfl,rfl⟩:=hs;simp only[Bool.not_eq_false]at hm Xk;obtain⟨g1,g2,g3⟩:=pA vU
     have Lu: ∀(i:Nat) v,wk[i]?=some v-> ∃k k' o,ks[i]?=some k/\kC[i]?=some k'/\outs[i]?=some o/\mT ws d k' v/\dS o=true/\eB v o/\k'.ez=k.ez:=fun i v hv=>by
      have hi:i<ks.length:=by rw[<-h7];exact(aag.1 hv).1
      obtain⟨k',o,e1,e2,e3⟩:=g3 i ks[i] (aab hi);obtain⟨q1,q2,q3,q4⟩:=ih _ _ v _ (h9 i _ v (aab hi) hv) e1;exact⟨_,_,_,aab hi,e2,e3,q1,q2,q3,q4⟩
     have ho: ∀(i:Nat) z v,outs[i]?=some z->wk[i]?=some v->dS z=true/\eB v z:=fun i z v hz hv=>by
      obtain⟨k,k',o,_,_,e3,_,q2,q3,_⟩:=Lu i v hv;rw[hz]at e3;cases e3;exact⟨q2,q3⟩
     have OW:outs.length=wk.length:=by rw[g2,h7]
     obtain⟨m1,m2⟩:=Ud (aD:=aD) (a:=a) (b:=b) (agg:=agg) (col:=col) h8 ht OW ho hm;obtain⟨p1,p2,p3,p4,p5⟩:=Ue h8 h2 h3 OW ho Xk;refine⟨⟨h1,p2,p3,fun h=>by rw[p4 h,h4 h],fun ha hb hc=>by rw[p5 ha hb hc,h5 ha hb hc],?_,wk,by rw[g1,h7],p1,fun i k v hk hv=>?_⟩,m1,m2,rfl⟩
     ·rw[<-h6];apply List.ext_getElem?;intro i;rw[aba,aba]
      by_cases hi:i<ks.length
      ·obtain⟨k,k',o,e1,e2,_,_,_,_,q4⟩:=Lu i wk[i] (aab (by omega));rw[e1,e2];simp[q4]
      ·rw[List.getElem?_eq_none (by omega),List.getElem?_eq_none (by omega)]
     ·obtain⟨k2,k',o,_,e2,_,q1,_⟩:=Lu i v hv;rw[hk]at e2;cases e2;exact q1
end Go.Proofs.YtfepbikckfehlaaGreat

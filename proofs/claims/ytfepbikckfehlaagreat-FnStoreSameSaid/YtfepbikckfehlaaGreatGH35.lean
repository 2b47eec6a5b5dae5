/- By how much a view is turned: the reference's. -/
import Derived.Test.YtfepbikckfehlaaGreatGH33
import Derived.Test.YtfepbikckfehlaaGreatGH23
import Derived.Test.YtfepbikckfehlaaGreatGH34
import Derived.Test.YtfepbikckfehlaaGreatGH28
import Derived.Test.YtfepbikckfehlaaGreatGH29
set_option linter.unusedVariables false
set_option linter.unusedSimpArgs false
set_option maxHeartbeats 4000000
namespace Go.Proofs.YtfepbikckfehlaaGreat
open Go Go.Am
variable{pr:bW}(hp:cF pr)
set_option maxRecDepth 100000
theorem OS{au n:Int}{aD:Test}{C:af}{a b:Int}{K:af}{agg col:Int}{D:af}(h1:C.bQ=true)(h2:K.bQ=true)(h3:D.bQ=true):[nb au n aD C a b K agg col D].all (jh 19)=true:=by
 simp only[abi,List.all_nil,jh,Ij h1 h2 h3];rfl
theorem MV{D:af}{n:Nat}(h:D= .nil∨ ∃id,D= .own id 0 n):D.bQ=true:=by rcases h with rfl|⟨_,rfl⟩<;>rfl
theorem oW.list{α:Type}{f:α->af}{sz:Nat}{h:aG}{xs:List α}{v:af}(h0:oW f sz h xs v):kh f sz h xs v (pO v):=by
 rcases h0 with⟨rfl,rfl⟩|⟨id,rfl,h1⟩
 ·exact .inl ⟨rfl,rfl,.inl rfl⟩
 ·exact .inr ⟨id,rfl,h1,rfl⟩
theorem Ua{h:aG}{ao:List aA}{D:af}{F:List Nat}(hA:sv 19 h (ao.map bg.p) D F):pN h ao D F:=by
 have key: ∀(ps:List aA)(vs:List af)(F:List Nat),cZ h (ps.map bg.p) vs F->gJ h ps vs F:=by
  intro ps
  induction ps with
  |nil=>intro vs F ho;simp only[abA,cZ]at ho;simp only[gJ];exact ho
  |cons p ps ih=>
   intro vs F ho;simp only[aao,cZ]at ho;obtain⟨v,fx,F1,F2,rfl,rfl,h1,h2⟩:=ho;simp only[cq]at h1;simp only[gJ];exact⟨v,fx,F1,F2,rfl,rfl,h1,ih _ _ h2⟩
 obtain⟨ho,hv⟩:=hA;simp only[cq]at ho;rcases ho with⟨h1,rfl,h2⟩|⟨id,vs,Fs,rfl,h5,h6,rfl⟩
 ·rcases hv with rfl|⟨id,rfl⟩
  ·exact .inl ⟨by simpa using h1,rfl,rfl⟩
  ·rcases h2 with h2|h2<;>cases h2
 ·exact .inr ⟨id,vs,Fs,by simp,h5,key _ _ _ h6,rfl⟩
theorem OT(hp:cF pr): ∀(N:Nat)(p:aA),SizeOf.sizeOf p<=N->p.small->lZ pr 135 [p.enc] (.p p):=by
 intro N
 induction N with
 |zero=>intro p h;exfalso;cases p;simp at h
 |succ N ih=>
  intro p hs gu;obtain⟨au,n,aD,cells,a,b,aq,agg,c,ao⟩:=p;obtain⟨sc,lf,gS,gE⟩:=eE gu;have ih': ∀q∈ao,lZ pr 135 [q.enc] (.p q):=fun q hq=>ih q (by have:=abo hq;simp at hs;omega) (gE q hq);clear ih;refine nh hp rfl ?_;have S:=aj.nil [];conv=>whnf
  intro k1 a1 eg er;replace S:=S.alloc eg er;conv=>whnf
  intro k2 a2 jS jb;replace S:=S.alloc jS jb;refine aC (S.row 1 rfl) ?_;conv=>whnf
  intro k3 a3 mF lI;replace S:=S.alloc mF lI;conv=>whnf
  refine⟨_,rfl,rfl,rfl,.inl ⟨_,S.row 0 rfl,rfl,?_⟩⟩;conv=>whnf
  intro a4 IM;replace S:=S.w0 IM;conv=>whnf
  refine aC (S.row 2 rfl) ?_;conv=>whnf
  refine⟨trivial,?_⟩;conv=>whnf
  refine⟨cells.map Cell.enc,rfl,by rw[List.all_map,aaj];intro _ _;rfl,?_⟩;refine kT (aj.nF Cell.enc 4 S) (by simp[bB];omega) fun D1 w1 Gh S1=>?_;have MR:D1.cells=[D1]/\[D1].all af.bQ=true:=by rcases Gh with rfl|⟨_,rfl⟩<;>exact⟨rfl,rfl⟩
  replace S:=S1;clear S1;rw[List.nil_append]at S;conv=>whnf
  refine⟨[D1],MR.1,rfl,MR.2,.inl ⟨_,S.row 1 rfl,rfl,?_⟩⟩;conv=>whnf
  intro b1 fw;replace S:=S.w1 fw;refine aC (S.row 3 rfl) ?_;conv=>whnf
  refine⟨trivial,?_⟩;conv=>whnf
  refine⟨aq.map i64,rfl,by rw[List.all_map,aaj];intro _ _;rfl,?_⟩;refine kT (aj.nF i64 1 S) (by simp[bB];omega) fun D2 w2 ZT S1=>?_;have Gd:D2.cells=[D2]/\[D2].all af.bQ=true:=by rcases ZT with rfl|⟨_,rfl⟩<;>exact⟨rfl,rfl⟩
  replace S:=S1;clear S1;rw[List.nil_append]at S;conv=>whnf
  refine⟨[D2],Gd.1,rfl,Gd.2,.inl ⟨_,S.row 2 rfl,rfl,?_⟩⟩;conv=>whnf
  intro b2 ea;replace S:=S.w2 ea;conv=>whnf
  refine⟨_,rfl,rfl,rfl,.inl ⟨_,S.row 2 rfl,rfl,?_⟩⟩;conv=>whnf
  intro b3 fY;replace S:=S.w2 fY;conv=>whnf
  replace S:=aj.lJ 19 S;have kD:=eH ao;refine dQ (fun m tm hp=>∃(j:Nat)(D:af)(F:List Nat),j+m=ao.length/\tm 4=i64 (j:Nat)/\aj hp [.jA 19 ((ao.take j).map bg.p) D F,.acc i64 1 aq D2,.acc Cell.enc 4 cells D1,.row k3 (.box (nb au n aD D1 a b D2 agg c D)),.row k2 (.box YP),.row k1 (.box (aA.mk au n aD cells a b aq agg c ao).enc)]) (fun m tm hq bG hI=>?_) (ao.length) ⟨0,.nil,[],by simp,rfl,S⟩;obtain⟨j,D,F,hj,e4,S2⟩:=hI;have k1:=bG 1 (by kernel_rfl);conv at k1=>rhs;whnf
  have k2:=bG 2 (by kernel_rfl);conv at k2=>rhs;whnf
  have k3:=bG 3 (by kernel_rfl);conv at k3=>rhs;whnf
  refine⟨[(1,_),(2,_),(3,_),(4,_)],⟨k1,k2,k3,e4,trivial⟩,?_⟩;clear bG k1 k2 k3 e4;replace S:=S2;clear S2;conv=>whnf
  have gA:j<4611686018427387904:=by omega
  refine aC (S.row 5 rfl) ?_;conv=>whnf
  refine ae (fun h1=>?_) (fun h1=>?_)
  ·have bp:j<ao.length:=by simpa[eH]using h1
   have dw:(aA.dv ao)[((j:Nat):Int).toNat]?=some (aA.enc ao[j]):=by rw[aaa,fN];simp[bp]
   have hz:=ih' ao[j] (aac bp);have dN:=kP bg.p bp;generalize ao[j]=q at dw dN hz;obtain⟨cG,n',dq,bR,a',b',cH,dE,c',cE⟩:=q;refine aC (S.row 3 rfl) ?_;refine aC (S.row 5 rfl) ?_;conv=>whnf
   refine⟨_,dw,by omega,rfl,?_⟩;conv=>whnf
   refine fp S hz rfl rfl fun A q1 F1 o1 S1=>?_;replace S:=S1.swap;clear S1;have o2:=o1;simp only[cq]at o2;rw[lX]at o2;obtain⟨C,K,D3,Fc,Fk,Fd,rfl,g1,g2,g3,rfl⟩:=o2;conv=>whnf
   intro pI pJ dT dU;replace S:=S.alloc dT dU;conv=>whnf
   refine⟨trivial,?_⟩;conv=>whnf
   refine⟨[_],bT (S.row 0 rfl),OS g1.cell.2 g2.cell.2 g3.cell.2,?_⟩;replace S:=S.drop 0;dsimp only[List.eraseIdx]at S;refine lp (sz:=19) (d:=.p (.mk cG n' dq bR a' b' cH dE c' cE)) S (by simp[bB];omega) fun k5 h5 F5 S2=>?_;clear S;have S:=S2;clear S2;conv=>whnf
   refine⟨_,rfl,rfl,rfl,.inl ⟨_,S.row 3 rfl,rfl,?_⟩⟩;conv=>whnf
   intro h6 gU;replace S:=S.w3 gU;conv=>whnf
   exact⟨m-1,by omega,j+1,_,_,by omega,aP j gA,by rw[dN];exact S⟩
  ·have bp:j=ao.length:=by
    have: ¬j<ao.length:=by simpa[eH]using h1
    omega
   subst bp;rw[aar]at S;refine aC (S.row 3 rfl) ?_;conv=>whnf
   have oD:=(aj.ek S).get 0 rfl;have oD2:cq hq (.s 19 (ao.map bg.p)) D F:=oD;refine⟨_,rfl,rfl,(Ij (MV Gh) (MV ZT) oD2.cell.2),.inl ⟨_,S.row 4 rfl,rfl,?_⟩⟩;conv=>whnf
   intro b4 gX;replace S:=S.w4 gX;conv=>whnf
   clear oD oD2;have hA:sv 19 b4 (ao.map bg.p) D F:=S.get 0 rfl;have hk:pN b4 ao D F:=Ua hA;replace S:=S.is (c':=.ao ao D F) hk rfl;have g1:oW Cell.enc 4 b4 cells D1:=S.get 2 rfl;have g2:oW i64 1 b4 aq D2:=S.get 1 rfl;refine⟨_,eu rfl rfl (S.row 4 rfl) rfl,_,_,pO D1++(pO D2++F),rfl,?_,?_⟩
   ·unfold cq;exact lh.of (oW.list g1) (oW.list g2) hk
   ·refine uY (S.get' 2 _ rfl).2 (uY (S.get' 1 _ rfl).2 (S.get' 0 _ rfl).2 fun id dm=>S.apart 1 0 _ _ (by omega) rfl rfl id dm) fun id dm hm=>?_;rcases aaS.1 hm with h|h
    ·exact S.apart 2 1 _ _ (by omega) rfl rfl id dm h
    ·exact S.apart 2 0 _ _ (by omega) rfl rfl id dm h
theorem BM(hp:cF pr)(p:aA)(gu:p.small):lZ pr 135 [p.enc] (.p p):=OT hp _ p (aah _) gu
end Go.Proofs.YtfepbikckfehlaaGreat
set_option maxHeartbeats 4000000
namespace Go.Proofs.YtfepbikckfehlaaGreat
open Go Go.Am
variable{pr:bW}(hp:cF pr)
set_option maxRecDepth 100000
theorem pz{h:aG}{au n:Int}{aD:Test}{cells:List Cell}{a b:Int}{aq:List Int}{agg col:Int}{ao:List aA}{l r:List (List Item)}{ks:List bz}{v:af}{F:List Nat}(o1:cq h (bz.mk (.mk au n aD cells a b aq agg col ao) l r ks).d v F):
  ∃C K D L R KS,v= .agg (bL au n aD C a b K agg col D [L,R,KS])/\(bL au n aD C a b K agg col D [L,R,KS]).all af.bQ=true:=by
   obtain⟨vv,rfl,hu⟩:=iF.1 o1;obtain⟨C,K,D,Fc,Fk,Fd,w1,G1,rfl,g1,g2,g3,rfl,Wr⟩:=QY.1 hu;obtain⟨u2,w2,H2,G2,rfl,rfl,DC,TQ⟩:=E5.1 Wr;obtain⟨L,u3,H3,G3,rfl,rfl,gL,ho4⟩:=l6.1 DC;obtain⟨rfl,rfl⟩:=fO.1 ho4;obtain⟨u4,w4,H4,G4,rfl,rfl,Z1,ho6⟩:=E5.1 TQ;obtain⟨R,u5,H5,G5,rfl,rfl,gR,ho7⟩:=l6.1 Z1;obtain⟨rfl,rfl⟩:=fO.1 ho7;obtain⟨KS,u6,H6,G6,rfl,rfl,gK,ho8⟩:=l6.1 ho6;obtain⟨rfl,rfl⟩:=fO.1 ho8;exact⟨C,K,D,L,R,KS,rfl,pP g1.cell.2 g2.cell.2 g3.cell.2 (bM gL.cell.2 (bM gR.cell.2 (bM gK.cell.2 rfl)))⟩
theorem MW(h:aG):cq h (.g [bX.d []]) (.agg [.nil]) []:=iF.2 ⟨_,rfl,jD (F1:=[]) (F2:=[]) (by unfold cq;exact .inl ⟨rfl,rfl,.inl rfl⟩) iL⟩
theorem OU(hp:cF pr): ∀(N:Nat)(f:bz),SizeOf.sizeOf f<=N->f.d.fA<=1048576->lZ pr 117 [f.enc] f.d:=by
 intro N
 induction N with
 |zero=>intro f h;exfalso;cases f;simp at h
 |succ N ih=>
  intro f hs h;obtain⟨p,l,r,ks⟩:=f;simp only[bz.d,bg.fA,bg.fV,bz.E7,aat]at h;have GB:=BM hp p (Q0 (by omega));have hl:=BG hp l (eV (by omega));have hr:=BG hp r (eV (by omega));have hk: ∀x∈ks,lZ pr 117 [x.enc] x.d:=fun x hx=>ih x (by have:=abo hx;simp at hs;omega) (by have:=eA (f:=bz.d) hx;omega);have sd:ks.length<=1048576:=by omega
  obtain⟨au,n,aD,cells,a,b,aq,agg,col,ao⟩:=p;clear ih hs h;refine nh hp rfl ?_;have S:=aj.nil [];conv=>whnf
  intro k1 a1 eg er;replace S:=S.alloc eg er;conv=>whnf
  intro k2 a2 jS jb;replace S:=S.alloc jS jb;refine aC (S.row 1 rfl) ?_;conv=>whnf
  refine fp S GB rfl rfl fun V q1 F1 o1 S1=>?_;replace S:=S1;clear S1 GB;have WE:=o1;simp only[cq]at WE;rw[lX]at WE;obtain⟨C,K,D,Fc,Fk,Fd,rfl,g1,g2,g3,rfl⟩:=WE;have c1:=g1.cell.2;have c2:=g2.cell.2;have c3:=g3.cell.2;clear o1 g1 g2 g3;refine aC (S.row 2 rfl) ?_;conv=>whnf
  refine fp S hl rfl rfl fun VL q2 F2 o2 S1=>?_;replace S:=S1;clear S1 hl;obtain⟨L,rfl,x2⟩:=XR.box o2;have c4:=(show cq q2 (.s 1 (l.map aI.d)) L F2 from x2).cell.2;clear o2 x2;refine aC (S.row 3 rfl) ?_;conv=>whnf
  refine fp S hr rfl rfl fun VR q3 F3 o3 S1=>?_;replace S:=S1;clear S1 hr;obtain⟨R,rfl,x3⟩:=XR.box o3;have c5:=(show cq q3 (.s 1 (r.map aI.d)) R F3 from x3).cell.2;clear o3 x3;conv=>whnf
  intro k3 a3 mF lI;replace S:=S.alloc mF lI;conv=>whnf
  refine⟨(bL au n aD C a b K agg col D [L,R,.nil]),(by kernel_rfl),rfl,(pP c1 c2 c3 (bM c4 (bM c5 rfl))),.inl ⟨_,S.row 0 rfl,rfl,?_⟩⟩;conv=>whnf
  intro b1 fw;replace S:=S.w0 fw;conv=>whnf
  replace S:=aj.lJ 22 S;have kD:=mc ks;refine dQ (fun m tm hp=>∃(j:Nat)(E:af)(F:List Nat),j+m=ks.length/\tm 4=i64 (j:Nat)/\aj hp [.jA 22 ((ks.take j).map bz.d) E F,.row k3 (.box (.agg (bL au n aD C a b K agg col D [L,R,E]))),.dL (.g [bX.d r]) (.agg [R]) F3,.dL (.g [bX.d l]) (.agg [L]) F2,.dL (.p (.mk au n aD cells a b aq agg col ao)) (nb au n aD C a b K agg col D) (Fc++(Fk++Fd)),.row k2 (.box MF),.row k1 (.box (bz.mk (.mk au n aD cells a b aq agg col ao) l r ks).enc)]) (fun m tm hq bG hI=>?_) (ks.length) ⟨0,.nil,[],by simp,rfl,S⟩;obtain⟨j,E,F,hj,e4,S2⟩:=hI;have k1:=bG 1 (by kernel_rfl);conv at k1=>rhs;whnf
  have k2:=bG 2 (by kernel_rfl);conv at k2=>rhs;whnf
  have k3:=bG 3 (by kernel_rfl);conv at k3=>rhs;whnf
  refine⟨[(1,_),(2,_),(3,_),(4,_)],⟨k1,k2,k3,e4,trivial⟩,?_⟩;clear bG k1 k2 k3 e4;replace S:=S2;clear S2;conv=>whnf
  have gA:j<4611686018427387904:=by omega
  refine aC (S.row 6 rfl) ?_;conv=>whnf
  refine ae (fun h1=>?_) (fun h1=>?_)
  ·have bp:j<ks.length:=by simpa[mc]using h1
   have dw:(bz.dv ks)[((j:Nat):Int).toNat]?=some (bz.enc ks[j]):=by rw[aaa,rJ];simp[bp]
   have hz:=hk ks[j] (aac bp);have dN:=kP bz.d bp;generalize ks[j]=q at dw dN hz;obtain⟨⟨cG,n',dq,bR,a',b',cH,dE,ke,cE⟩,l',r',kC⟩:=q;refine aC (S.row 1 rfl) ?_;refine aC (S.row 6 rfl) ?_;conv=>whnf
   refine⟨_,dw,by omega,rfl,?_⟩;conv=>whnf
   refine fp S hz rfl rfl fun A q1 F1 o1 S1=>?_;replace S:=S1.swap;clear S1;obtain⟨C',K',D',L',R',WG,rfl,sL⟩:=pz o1;conv=>whnf
   intro pI pJ dT dU;replace S:=S.alloc dT dU;conv=>whnf
   refine⟨trivial,?_⟩;conv=>whnf
   refine⟨[_],bT (S.row 0 rfl),fi rfl sL,?_⟩;replace S:=S.drop 0;dsimp only[List.eraseIdx]at S;refine lp (sz:=22) (d:=(bz.mk (.mk cG n' dq bR a' b' cH dE ke cE) l' r' kC).d) S (by simp[bB];omega) fun k5 h5 F5 S2=>?_;clear S;have S:=S2;clear S2;conv=>whnf
   refine⟨_,rfl,rfl,rfl,.inl ⟨_,S.row 1 rfl,rfl,?_⟩⟩;conv=>whnf
   intro h6 gU;replace S:=S.w1 gU;conv=>whnf
   exact⟨m-1,by omega,j+1,_,_,by omega,aP j gA,by rw[dN];exact S⟩
  ·have bp:j=ks.length:=by
    have: ¬j<ks.length:=by simpa[mc]using h1
    omega
   subst bp;rw[aar]at S;have oE:=(aj.ek S).get 0 rfl;have c6:=(show cq hq (.s 22 (ks.map bz.d)) E F from oE).cell.2;clear oE;refine aC (S.row 1 rfl) ?_;conv=>whnf
   refine⟨(bL au n aD C a b K agg col D [L,R,E]),(by kernel_rfl),rfl,(pP c1 c2 c3 (bM c4 (bM c5 (bM c6 rfl)))),.inl ⟨_,S.row 5 rfl,rfl,?_⟩⟩;conv=>whnf
   intro b4 gX;replace S:=S.w5 gX;conv=>whnf
   replace S:=aj.ek S;rw[<-bz.E7]at S;replace S:=S.pick [5,4,3,2,0] (by decide);simp only[lY,aaT,abd]at S;refine zW (vs:=(bL au n aD C a b K agg col D [L,R,E])) rfl rfl (S.row 0 rfl) (by kernel_rfl) (E6 (S.get 1 rfl) (ME (S.get 2 rfl) (ME (S.get 3 rfl) (jD (S.get 4 rfl) iL)))) (S.drop 0).sY
theorem IT(hp:cF pr)(f:bz)(h:f.d.fA<=1048576):lZ pr 117 [f.enc] f.d:=OU hp _ f (aah _) h
mutual
def iX:aA->bz
 | .mk au n aD cells a b aq agg col ao=>.mk (.mk au n aD cells a b aq agg col ao) [] [] (fW ao)
def fW:List aA->List bz
 | []=>[]
 |p::ps=>iX p::fW ps
end
theorem IU(ps:List aA):fW ps=ps.map iX:=by induction ps with|nil=>rfl|cons x xs ih=>simp[fW,ih]
theorem Ub(hp:cF pr): ∀(N:Nat)(p:aA),SizeOf.sizeOf p<=N->p.small->lZ pr 114 [p.enc] (iX p).d:=by
 intro N
 induction N with
 |zero=>intro p h;exfalso;cases p;simp at h
 |succ N ih=>
  intro p hs gu;obtain⟨au,n,aD,cells,a,b,aq,agg,col,ao⟩:=p;have GB:=BM hp _ gu;obtain⟨sc,lf,gS,gE⟩:=eE gu;have hk: ∀x∈ao,lZ pr 114 [x.enc] (iX x).d:=fun x hx=>ih x (by have:=abo hx;simp at hs;omega) (gE x hx);clear ih hs;rw[show(iX (.mk au n aD cells a b aq agg col ao)).d=(bz.mk (.mk au n aD cells a b aq agg col ao) [] [] (ao.map iX)).d by rw[<-IU];rfl];refine nh hp rfl ?_;have S:=aj.nil [];conv=>whnf
  intro k1 a1 eg er;replace S:=S.alloc eg er;conv=>whnf
  intro k2 a2 jS jb;replace S:=S.alloc jS jb;refine aC (S.row 1 rfl) ?_;conv=>whnf
  refine fp S GB rfl rfl fun V q1 F1 o1 S1=>?_;replace S:=S1;clear S1 GB;have WE:=o1;simp only[cq]at WE;rw[lX]at WE;obtain⟨C,K,D,Fc,Fk,Fd,rfl,g1,g2,g3,rfl⟩:=WE;have c1:=g1.cell.2;have c2:=g2.cell.2;have c3:=g3.cell.2;clear o1 g1 g2 g3;conv=>whnf
  intro k3 a3 mF lI;replace S:=S.alloc mF lI;conv=>whnf
  refine⟨(bL au n aD C a b K agg col D [.nil,.nil,.nil]),(by kernel_rfl),rfl,(pP c1 c2 c3 rfl),.inl ⟨_,S.row 0 rfl,rfl,?_⟩⟩;conv=>whnf
  intro b1 fw;replace S:=S.w0 fw;conv=>whnf
  replace S:=aj.lJ 22 S;have kD:=eH ao;refine dQ (fun m tm hp=>∃(j:Nat)(E:af)(F:List Nat),j+m=ao.length/\tm 4=i64 (j:Nat)/\aj hp [.jA 22 (((ao.take j).map iX).map bz.d) E F,.row k3 (.box (.agg (bL au n aD C a b K agg col D [.nil,.nil,E]))),.dL (.p (.mk au n aD cells a b aq agg col ao)) (nb au n aD C a b K agg col D) (Fc++(Fk++Fd)),.row k2 (.box MF),.row k1 (.box (aA.mk au n aD cells a b aq agg col ao).enc)]) (fun m tm hq bG hI=>?_) (ao.length) ⟨0,.nil,[],by simp,rfl,S⟩;obtain⟨j,E,F,hj,e4,S2⟩:=hI;have k1:=bG 1 (by kernel_rfl);conv at k1=>rhs;whnf
  have k2:=bG 2 (by kernel_rfl);conv at k2=>rhs;whnf
  have k3:=bG 3 (by kernel_rfl);conv at k3=>rhs;whnf
  refine⟨[(1,_),(2,_),(3,_),(4,_)],⟨k1,k2,k3,e4,trivial⟩,?_⟩;clear bG k1 k2 k3 e4;replace S:=S2;clear S2;conv=>whnf
  have gA:j<4611686018427387904:=by omega
  refine aC (S.row 4 rfl) ?_;conv=>whnf
  refine ae (fun h1=>?_) (fun h1=>?_)
  ·have bp:j<ao.length:=by simpa[eH]using h1
   have dw:(aA.dv ao)[((j:Nat):Int).toNat]?=some (aA.enc ao[j]):=by rw[aaa,fN];simp[bp]
   have hz:=hk ao[j] (aac bp);have dN:=kP (fun p=>(iX p).d) bp;generalize ao[j]=q at dw dN hz;obtain⟨cG,n',dq,bR,a',b',cH,dE,ke,cE⟩:=q;refine aC (S.row 1 rfl) ?_;refine aC (S.row 4 rfl) ?_;conv=>whnf
   refine⟨_,dw,by omega,rfl,?_⟩;conv=>whnf
   refine fp S hz rfl rfl fun A q1 F1 o1 S1=>?_;replace S:=S1.swap;clear S1;obtain⟨C',K',D',L',R',WG,rfl,sL⟩:=pz o1;conv=>whnf
   intro pI pJ dT dU;replace S:=S.alloc dT dU;conv=>whnf
   refine⟨trivial,?_⟩;conv=>whnf
   refine⟨[_],bT (S.row 0 rfl),fi rfl sL,?_⟩;replace S:=S.drop 0;dsimp only[List.eraseIdx]at S;refine lp (sz:=22) (d:=(iX (.mk cG n' dq bR a' b' cH dE ke cE)).d) S (by simp[bB];omega) fun k5 h5 F5 S2=>?_;clear S;have S:=S2;clear S2;conv=>whnf
   refine⟨_,rfl,rfl,rfl,.inl ⟨_,S.row 1 rfl,rfl,?_⟩⟩;conv=>whnf
   intro h6 gU;replace S:=S.w1 gU;conv=>whnf
   exact⟨m-1,by omega,j+1,_,_,by omega,aP j gA,by rw[List.map_map]at S⊢;exact(show _=_ from dN)▸S⟩
  ·have bp:j=ao.length:=by
    have: ¬j<ao.length:=by simpa[eH]using h1
    omega
   subst bp;rw[aar]at S;have oE:=(aj.ek S).get 0 rfl;have c6:=(show cq hq (.s 22 ((ao.map iX).map bz.d)) E F from oE).cell.2;clear oE;refine aC (S.row 1 rfl) ?_;conv=>whnf
   refine⟨(bL au n aD C a b K agg col D [.nil,.nil,E]),(by kernel_rfl),rfl,(pP c1 c2 c3 (bM rfl (bM rfl (bM c6 rfl)))),.inl ⟨_,S.row 3 rfl,rfl,?_⟩⟩;conv=>whnf
   intro b4 gX;replace S:=S.w3 gX;conv=>whnf
   replace S:=aj.ek S;rw[<-bz.E7]at S;replace S:=S.pick [3,2,0] (by decide);simp only[lY,aaT,abd]at S;refine zW (vs:=(bL au n aD C a b K agg col D [.nil,.nil,E])) rfl rfl (S.row 0 rfl) (by kernel_rfl) (E6 (S.get 1 rfl) (iS (MW _) (iS (MW _) (jD (S.get 2 rfl) iL)))) (S.drop 0).sY
theorem WH(hp:cF pr)(p:aA)(gu:p.small):lZ pr 114 [p.enc] (iX p).d:=Ub hp _ p (aah _) gu
end Go.Proofs.YtfepbikckfehlaaGreat
set_option maxHeartbeats 4000000
namespace Go.Proofs.YtfepbikckfehlaaGreat
open Go Go.Am
variable{pr:bW}(hp:cF pr)
set_option maxRecDepth 100000
theorem rW{au n:Int}{aD:Test}{C:af}{a b:Int}{K:af}{agg col:Int}{D:af}{r r2:List af}(h:(bL au n aD C a b K agg col D r).all af.bQ=true)(h2:r2.all af.bQ=true):(bL au n aD C a b K agg col D (r++r2)).all af.bQ=true:=by
 simp only[bL,abi,xz,List.all_append]at h⊢;simp only[h,h2,and_self]
def View.da(x:View):bg:=.g [x.hU.d,.i x.bO,aI.d x.base,.a 2 (x.aZ.map dg.d)]
def aI.da(z:List Item):bg:=.a 2 (z.map Item.d)
theorem aI.iY(z:List Item):(aI.da z).enc=aI.enc z:=by rw[<-aI.fG];rfl
instance(z:List Item):Bd (aI.da z):=by unfold aI.da;infer_instance
def bN.da(x:bN):bg:=.g [.a 1 (x.bc.map bg.i),.a 1 (x.aH.map aI.da),.a 25 (x.aL.map View.da),.i x.now,.i x.keep]
instance(x:View):Bd x.da:=by unfold View.da;infer_instance
instance(x:bN):Bd x.da:=by unfold bN.da;infer_instance
theorem View.iY(x:View):x.da.enc=x.enc:=by
 simp only[View.da,View.enc,bg.enc,bg.uo,aI.fG,bz.fG,jC dg.fG];rfl
theorem bN.iY(x:bN):x.da.enc=x.enc:=by
 have h1:bg.dv (x.aH.map aI.da)=x.aH.map aI.enc:=jC aI.iY _;simp only[bN.da,bN.enc,bg.enc,bg.uo,bg.xX,h1,jC View.iY];rfl
theorem bN.WI(x:bN):x.da.fA=x.d.fA:=by
 have h: ∀vs:List View,bg.fV (vs.map View.da)=bg.fV (vs.map View.d):=by
  intro vs
  induction vs with
  |nil=>rfl
  |cons v vs ih=>simp only[aao,bg.fV,ih,View.da,View.d,bg.fA]
 have h2: ∀vs:List (List Item),bg.fV (vs.map aI.da)=bg.fV (vs.map aI.d):=by
  intro vs
  induction vs with
  |nil=>rfl
  |cons v vs ih=>simp only[aao,bg.fV,ih,aI.da,aI.d,bg.fA]
 simp only[bN.da,bN.d,iR.d,bX.d,bg.fA,bg.fV,h,h2,aat]
theorem cq.uB{h:aG}{sz:Nat}{xs:List bg}{v:af}{F:List Nat}(ho:cq h (.a sz xs) v F):v.cells=[v]/\v.bQ=true:=by
 simp only[cq]at ho;rcases ho with⟨_,_,rfl⟩|⟨id,vs,Fs,rfl,_⟩<;>exact⟨rfl,rfl⟩
theorem tj{h:aG}{sz:Nat}{xs ds:List bg}{vs:List af}{F:List Nat}:fy h (.a sz xs::ds) vs F↔ ∃v fx F1 F2,vs=v::fx/\F=F1++F2/\cq h (.a sz xs) v F1/\fy h ds fx F2:=by
 rw[fy];constructor
 ·rintro ⟨v,fx,F1,F2,rfl,rfl,h1,h2⟩
  exact⟨v,fx,F1,F2,by rw[h1.uB.1];rfl,rfl,h1,h2⟩
 ·rintro ⟨v,fx,F1,F2,rfl,rfl,h1,h2⟩
  exact⟨v,fx,F1,F2,by rw[h1.uB.1];rfl,rfl,h1,h2⟩
theorem iM{h:aG}{sz:Nat}{xs:List bg}{v:af}{ds:List bg}{vs:List af}{F1 F2:List Nat}(h1:cq h (.a sz xs) v F1)(h2:fy h ds vs F2):fy h (.a sz xs::ds) (v::vs) (F1++F2):=tj.2 ⟨v,vs,F1,F2,rfl,rfl,h1,h2⟩
theorem sv.Xy{h:aG}{sz:Nat}{xs:List bg}{v:af}{F:List Nat}(hA:sv sz h xs v F):cq h (.a sz xs) v F:=by
 obtain⟨ho,hv⟩:=hA;simp only[cq]at ho⊢;rcases ho with⟨h1,h2,h3⟩|h
 ·rcases hv with rfl|⟨id,rfl⟩
  ·exact .inl ⟨h1,h2,rfl⟩
  ·rcases h3 with h3|h3<;>cases h3
 ·exact .inr h
theorem cq.IV{h:aG}{sz:Nat}{xs:List bg}{v:af}{F:List Nat}(ho:cq h (.a sz xs) v F):sv sz h xs v F:=by
 unfold sv;simp only[cq]at ho⊢;rcases ho with⟨h1,h2,rfl⟩|⟨id,vs,Fs,rfl,h5⟩
 ·exact⟨.inl ⟨h1,h2,.inl rfl⟩,.inl rfl⟩
 ·exact⟨.inr ⟨id,vs,Fs,rfl,h5⟩,.inr ⟨id,rfl⟩⟩
theorem aj.qU{h:aG}{L:List Chunk}{sz:Nat}{xs:List bg}{v:af}{F:List Nat}(s:aj h (.jA sz xs v F::L)):aj h (.dL (.a sz xs) v F::L):=s.is (c':=.dL (.a sz xs) v F) (sv.Xy (s.get 0 rfl)) rfl
theorem aj.Ls{h:aG}{L:List Chunk}{sz:Nat}{xs:List bg}{v:af}{F:List Nat}(s:aj h (.dL (.a sz xs) v F::L)):aj h (.jA sz xs v F::L):=s.is (c':=.jA sz xs v F) (cq.IV (s.get 0 rfl)) rfl
theorem oW.Xy{h:aG}{xs:List Int}{v:af}(h0:oW i64 1 h xs v):cq h (.a 1 (xs.map bg.i)) v (pO v):=by
 have key: ∀(xs:List Int),cZ h (xs.map bg.i) (xs.map i64) []:=by
  intro xs
  induction xs with
  |nil=>simp[cZ]
  |cons x xs ih=>simp only[aao,cZ,cq];exact⟨_,_,[],[],rfl,rfl,⟨rfl,rfl⟩,ih⟩
 simp only[cq];rcases h0 with⟨rfl,rfl⟩|⟨id,rfl,h1⟩
 ·exact .inl ⟨rfl,rfl,rfl⟩
 ·exact .inr ⟨id,xs.map i64,[],by simp,h1,key xs,rfl⟩
theorem _root_.Go.Am.aj.U5{h:aG}{L:List Chunk}{c:Chunk}(Cs:List Chunk)(S:aj h (Cs++L))(hP:c.P h)(hF:c.F=Cs.flatMap Chunk.F):aj h (c::L):=by
 rw[aj.iff]at S⊢;obtain⟨h1,h2⟩:=S;rw[List.pairwise_append]at h2;obtain⟨h3,h4,h5⟩:=h2;have hn:(Cs.flatMap Chunk.F).Nodup:=aj.sY (aj.iff.2 ⟨fun c hc=>h1 c (by simp[hc]),h3⟩);refine⟨fun d hd=>?_,List.pairwise_cons.2 ⟨fun d hd id dm=>?_,h4⟩⟩
 ·rcases aaz.1 hd with rfl|hd
  ·exact⟨hP,by rw[hF];exact hn⟩
  ·exact h1 d (by simp[hd])
 ·rw[hF]at dm;obtain⟨e,he,hm⟩:=List.mem_flatMap.1 dm;exact h5 e he d hd id hm
theorem MX{h:aG}{L:List Chunk}{dP:Int}{out:List Item}{A:af}{F:List Nat}(S:aj h (.dL (aI.d out) A F::L)):aj h (.dL (dg.d ⟨dP,out⟩) (.agg [i64 dP,A]) (F++[])::L):=
 S.is (c':=.dL (dg.d ⟨dP,out⟩) (.agg [i64 dP,A]) (F++[])) (iF.2 ⟨_,rfl,fh (jD (S.get 0 rfl) iL)⟩) (by simp[Chunk.dL])
theorem uc{h:aG}{L':List Chunk}{au n:Int}{aD:Test}{cells:List Cell}{a b:Int}{aq:List Int}{agg col:Int}{ao:List aA}{l r:List (List Item)}{ks:List bz}{C K D L R KS B P:af}{bO:Int}{base:List Item}{aZ:List dg}{F1 F2 F3:List Nat}
  (S:aj h (.dL (bz.mk (.mk au n aD cells a b aq agg col ao) l r ks).d (.agg (bL au n aD C a b K agg col D [L,R,KS])) F1:: .dL (aI.d base) B F2:: .dL (.a 2 (aZ.map dg.d)) P F3::L')):
  aj h (.dL (View.da ⟨.mk (.mk au n aD cells a b aq agg col ao) l r ks,bO,base,aZ⟩) (.agg (bL au n aD C a b K agg col D [L,R,KS,i64 bO,B,P])) (F1++(F2++(F3++[])))::L'):=by
   refine aj.U5 [.dL (bz.mk (.mk au n aD cells a b aq agg col ao) l r ks).d (.agg (bL au n aD C a b K agg col D [L,R,KS])) F1,.dL (aI.d base) B F2,.dL (.a 2 (aZ.map dg.d)) P F3] S ?_ (by simp[Chunk.dL]);have h1:cq h (bz.mk (.mk au n aD cells a b aq agg col ao) l r ks).d _ F1:=S.get 0 rfl;have h2:cq h (aI.d base) B F2:=S.get 1 rfl;have h3:cq h (.a 2 (aZ.map dg.d)) P F3:=S.get 2 rfl;exact iF.2 ⟨_,rfl,TP h1 (fh (jD h2 (iM h3 iL)))⟩
def rX:af:=.agg [.nil,.nil,.nil,i64 0,i64 0]
theorem nr(hp:cF pr)(s:bN)(h:s.d.fA<=1048576):lZ pr 112 [s.enc] s.da:=by
 have vq:=eK s;have zn: ∀v∈s.aL,v.d.fA<=1048576:=fun v hv=>by have:=eA (f:=View.d) hv;omega
 have RQ: ∀z∈s.aH,ij z:=pg (l:=s.aH) (by omega);have Z2:s.bc.length<=1048576:=by omega
 have Mn:s.aH.length<=1048576:=by have:(bX.d s.aH).fA=_:=rfl;simp only[bX.d,bg.fA,aat]at vq;omega
 have CI:s.aL.length<=1048576:=by omega
 obtain⟨bc,aH,aL,now,keep⟩:=s;simp only at RQ Z2 Mn CI zn;clear h vq;have ht:=fun z hz=>l7 hp z (RQ z hz);refine nh hp rfl ?_;have S:=aj.nil [];conv=>whnf
 intro k1 a1 eg er;replace S:=S.alloc eg er;conv=>whnf
 intro k2 a2 jS jb;replace S:=S.alloc jS jb;refine aC (S.row 1 rfl) ?_;refine aC (S.row 1 rfl) ?_;refine aC (S.row 1 rfl) ?_;conv=>whnf
 intro k3 a3 mF lI;replace S:=S.alloc mF lI;conv=>whnf
 refine⟨trivial,?_⟩;conv=>whnf
 refine⟨bc.map i64,rfl,by rw[List.all_map,aaj];intro _ _;rfl,?_⟩;refine kT (aj.nF i64 1 S) (by simp[bB];omega) fun W w1 hW S1=>?_;have MR:W.cells=[W]/\[W].all af.bQ=true:=by rcases hW with rfl|⟨_,rfl⟩<;>exact⟨rfl,rfl⟩
 replace S:=S1;clear S1;rw[List.nil_append]at S;refine⟨?_,?_⟩
 ·conv=>whnf
  refine⟨?_,?_⟩
  ·conv=>whnf
   exact cm rfl (S.row 3 rfl) rfl rfl
  conv=>whnf
  refine⟨?_,?_⟩
  ·conv=>whnf
   exact cm rfl (S.row 3 rfl) rfl rfl
  conv=>whnf
  refine⟨?_,?_⟩
  ·conv=>whnf
   exact⟨k3,rfl,S.row 1 rfl⟩
  trivial
 conv=>whnf
 refine ep MR.1 ?_;conv=>whnf
 refine⟨[W,.nil,.nil,i64 now,i64 keep],(by kernel_rfl),rfl,(bM (MV hW) rfl),.inl ⟨_,S.row 1 rfl,rfl,?_⟩⟩;conv=>whnf
 intro b1 fw;replace S:=S.w1 fw;conv=>whnf
 replace S:=aj.lJ 1 S;replace S:=S.pick [0,2,1,3,4] (by decide);simp only[lY,aaT,abd]at S;refine dQ (fun m tm hp=>∃(j:Nat)(T:af)(F:List Nat),j+m=aH.length/\tm 4=i64 (j:Nat)/\aj hp [.jA 1 ((aH.take j).map aI.da) T F,.row k3 (.box (.agg [W,T,.nil,i64 now,i64 keep])),.acc i64 1 bc W,.row k2 (.box rX),.row k1 (.box (bN.enc ⟨bc,aH,aL,now,keep⟩))]) (fun m tm hq bG hI=>?_) (aH.length) ⟨0,.nil,[],by simp,rfl,S⟩;obtain⟨j,T,F,hj,e4,S2⟩:=hI;have k1:=bG 1 (by kernel_rfl);conv at k1=>rhs;whnf
 have k2:=bG 2 (by kernel_rfl);conv at k2=>rhs;whnf
 have k3:=bG 3 (by kernel_rfl);conv at k3=>rhs;whnf
 refine⟨[(1,_),(2,_),(3,_),(4,_)],⟨k1,k2,k3,e4,trivial⟩,?_⟩;clear bG k1 k2 k3 e4;replace S:=S2;clear S2;conv=>whnf
 have gA:j<4611686018427387904:=by omega
 refine aC (S.row 4 rfl) ?_;conv=>whnf
 refine ae (fun h1=>?_) (fun h1=>?_)
 ·have bp:j<aH.length:=by simpa using h1
  have dw:(aH.map aI.enc)[((j:Nat):Int).toNat]?=some (aI.enc aH[j]):=by rw[aaa];simp[bp]
  have dN:=kP aI.da bp;have hz:=ht _ (aac bp);generalize aH[j]=z at dw dN hz;refine aC (S.row 1 rfl) ?_;refine aC (S.row 4 rfl) ?_;conv=>whnf
  refine⟨_,dw,by omega,rfl,?_⟩;conv=>whnf
  refine dG S hz rfl rfl fun A q1 F1 S1=>?_;have o1:cq q1 (aI.d z) A F1:=(aj.ek S1).get 0 rfl;replace S:=(aj.qU S1).swap;clear S1;conv=>whnf
  refine ep o1.cell.1 ?_;conv=>whnf
  intro pI pJ dT dU;replace S:=S.alloc dT dU;conv=>whnf
  refine⟨trivial,?_⟩;conv=>whnf
  refine⟨[_],bT (S.row 0 rfl),dI o1.cell.1 o1.cell.2,?_⟩;replace S:=S.drop 0;dsimp only[List.eraseIdx]at S;refine lp (sz:=1) (d:=aI.da z) S (by simp[bB];omega) fun k5 h5 F5 S2=>?_;clear S;have S:=S2;clear S2;conv=>whnf
  refine⟨_,rfl,rfl,rfl,.inl ⟨_,S.row 1 rfl,rfl,?_⟩⟩;conv=>whnf
  intro h6 gU;replace S:=S.w1 gU;conv=>whnf
  exact⟨m-1,by omega,j+1,_,_,by omega,aP j gA,by rw[dN];exact S⟩
 ·have bp:j=aH.length:=by
   have: ¬j<aH.length:=by simpa using h1
   omega
  subst bp;rw[aar]at S;clear ht gA h1;have oT:=(aj.ek S).get 0 rfl;have cT:=(show cq hq (.s 1 (aH.map aI.da)) T F from oT).cell;clear oT;conv=>whnf
  replace S:=aj.lJ 25 S;replace S:=S.pick [0,2,1,3,4,5] (by decide);simp only[lY,aaT,abd]at S;refine dQ (fun m tm hp=>∃(j:Nat)(V:af)(FV:List Nat),j+m=aL.length/\tm 5=i64 (j:Nat)/\aj hp [.jA 25 ((aL.take j).map View.da) V FV,.row k3 (.box (.agg [W,T,V,i64 now,i64 keep])),.jA 1 (aH.map aI.da) T F,.acc i64 1 bc W,.row k2 (.box rX),.row k1 (.box (bN.enc ⟨bc,aH,aL,now,keep⟩))]) (fun mi U2 hq bG hI=>?_) (aL.length) ⟨0,.nil,[],by simp,rfl,S⟩;obtain⟨i,V,FV,hi,e5,S2⟩:=hI;have k1:=bG 1 (by kernel_rfl);conv at k1=>rhs;whnf
  have k2:=bG 2 (by kernel_rfl);conv at k2=>rhs;whnf
  have k3:=bG 3 (by kernel_rfl);conv at k3=>rhs;whnf
  refine⟨[(1,_),(2,_),(3,_),(5,_)],⟨k1,k2,k3,e5,trivial⟩,?_⟩;clear bG k1 k2 k3 e5;replace S:=S2;clear S2;conv=>whnf
  have xE:i<4611686018427387904:=by omega
  refine aC (S.row 5 rfl) ?_;conv=>whnf
  refine ae (fun h1=>?_) (fun h1=>?_)
  ·have bp:i<aL.length:=by simpa using h1
   have dw:(aL.map View.enc)[((i:Nat):Int).toNat]?=some (View.enc aL[i]):=by rw[aaa];simp[bp]
   have dN:=kP View.da bp;have uh:=zn _ (aac bp);generalize aL[i]=v at dw dN uh;obtain⟨⟨⟨au,n,aD,cells,a,b,aq,agg,col,ao⟩,l,r,ks⟩,bO,base,aZ⟩:=v;have Zb:=nk ⟨⟨⟨au,n,aD,cells,a,b,aq,agg,col,ao⟩,l,r,ks⟩,bO,base,aZ⟩;dsimp only at Zb;have hf:=IT hp ⟨⟨au,n,aD,cells,a,b,aq,agg,col,ao⟩,l,r,ks⟩ (by omega);have hb:=l7 hp base (j0 (by omega));have WJ: ∀p∈aZ,ij p.out:=lq (by omega);have vD:aZ.length<=1048576:=by omega
   clear Zb uh;refine aC (S.row 5 rfl) ?_;conv=>whnf
   refine⟨_,dw,by omega,rfl,?_⟩;conv=>whnf
   refine fp S hf rfl rfl fun VF q1 FF o1 S1=>?_;replace S:=S1;clear S1 hf;obtain⟨C,K,D,L,R,KS,rfl,sL⟩:=pz o1;clear o1;refine aC (S.row 6 rfl) ?_;conv=>whnf
   refine⟨_,dw,by omega,rfl,?_⟩;refine aC (S.row 6 rfl) ?_;conv=>whnf
   refine⟨_,dw,by omega,rfl,?_⟩;conv=>whnf
   refine dG S hb rfl rfl fun B q2 FB S1=>?_;clear S hb;have S:=S1;clear S1;have cB:=(show cq q2 (aI.d base) B FB from(aj.ek S).get 0 rfl).cell;conv=>whnf
   refine ep cB.1 ?_;conv=>whnf
   intro k4 a4 vp qX;replace S:=S.alloc vp qX;conv=>whnf
   refine⟨(bL au n aD C a b K agg col D [L,R,KS,i64 bO,B,.nil]),(by kernel_rfl),rfl,(rW (r:=[L,R,KS]) sL (bM rfl (bM cB.2 rfl))),.inl ⟨_,S.row 0 rfl,rfl,?_⟩⟩;conv=>whnf
   intro b2 ea;replace S:=S.w0 ea;conv=>whnf
   replace S:=aj.lJ 2 S;refine dQ (fun m tm hp=>∃(j:Nat)(P:af)(FP:List Nat),j+m=aZ.length/\tm 7=i64 (j:Nat)/\aj hp [.jA 2 ((aZ.take j).map dg.d) P FP,.row k4 (.box (.agg (bL au n aD C a b K agg col D [L,R,KS,i64 bO,B,P]))),.jA 2 (base.map Item.d) B FB,.dL (bz.mk (.mk au n aD cells a b aq agg col ao) l r ks).d (.agg (bL au n aD C a b K agg col D [L,R,KS])) FF,.jA 25 ((aL.take i).map View.da) V FV,.row k3 (.box (.agg [W,T,V,i64 now,i64 keep])),.jA 1 (aH.map aI.da) T F,.acc i64 1 bc W,.row k2 (.box rX),.row k1 (.box (bN.enc ⟨bc,aH,aL,now,keep⟩))]) (fun m tm hq bG hI=>?_) (aZ.length) ⟨0,.nil,[],by simp,rfl,S⟩;obtain⟨j,P,FP,hj,e7,S2⟩:=hI;have k1:=bG 1 (by kernel_rfl);conv at k1=>rhs;whnf
   have k2:=bG 2 (by kernel_rfl);conv at k2=>rhs;whnf
   have k3:=bG 3 (by kernel_rfl);conv at k3=>rhs;whnf
   have k5:=bG 5 (by kernel_rfl);conv at k5=>rhs;whnf
   have k6:=bG 6 (by kernel_rfl);conv at k6=>rhs;whnf
   refine⟨[(1,_),(2,_),(3,_),(5,_),(6,_),(7,_)],⟨k1,k2,k3,k5,k6,e7,trivial⟩,?_⟩;clear bG k1 k2 k3 k5 k6 e7;replace S:=S2;clear S2;conv=>whnf
   have gA:j<4611686018427387904:=by omega
   refine aC (S.row 9 rfl) ?_;conv=>whnf
   refine⟨_,dw,by omega,rfl,?_⟩;conv=>whnf
   refine ae (fun h2=>?_) (fun h2=>?_)
   ·have RR:j<aZ.length:=by simpa using h2
    have hgp:(aZ.map dg.enc)[((j:Nat):Int).toNat]?=some (dg.enc aZ[j]):=by rw[aaa];simp[RR]
    have VN:=l7 hp aZ[j].out (WJ _ (aac RR));have fP:=kP dg.d RR;generalize aZ[j]=p at hgp VN fP;obtain⟨dP,out⟩:=p;refine aC (S.row 9 rfl) ?_;conv=>whnf
    refine⟨_,dw,by omega,rfl,?_⟩;conv=>whnf
    refine⟨_,hgp,by omega,rfl,?_⟩;conv=>whnf
    intro k5 a5 CS qJ;replace S:=S.alloc CS qJ;conv=>whnf
    refine⟨[i64 dP,aI.enc out],rfl,rfl,rfl,.inl ⟨_,S.row 0 rfl,rfl,?_⟩⟩;conv=>whnf
    intro c1 se;replace S:=S.w0 se;refine aC (S.row 2 rfl) ?_;refine aC (S.row 0 rfl) ?_;refine aC (S.row 0 rfl) ?_;conv=>whnf
    refine dG S VN rfl rfl fun A q3 F3 S1=>?_;clear S VN;have o3:cq q3 (aI.d out) A F3:=(aj.ek S1).get 0 rfl;have S:=MX (dP:=dP) (aj.ek S1);clear S1;replace S:=S.pick [2,0,3,4,5,6,7,8,9,10,11] (by decide);simp only[lY,aaT,abd]at S;conv=>whnf
    refine ep o3.cell.1 ?_;conv=>whnf
    intro pI pJ dT dU;replace S:=S.alloc dT dU;conv=>whnf
    refine⟨trivial,?_⟩;conv=>whnf
    refine⟨[_],bT (S.row 0 rfl),fi rfl (bM rfl (bM o3.cell.2 rfl)),?_⟩;replace S:=S.drop 0;dsimp only[List.eraseIdx]at S;refine lp (sz:=2) (d:=dg.d ⟨dP,out⟩) S (by simp[bB];omega) fun k6 h6 F6 S2=>?_;clear S;have S:=S2;clear S2;conv=>whnf
    refine⟨_,rfl,rfl,rfl,.inl ⟨_,S.row 1 rfl,rfl,?_⟩⟩;conv=>whnf
    intro h7 w8;replace S:=S.w1 w8;conv=>whnf
    exact⟨m-1,by omega,j+1,_,_,by omega,aP j gA,by rw[fP];exact S⟩
   ·have RR:j=aZ.length:=by
     have: ¬j<aZ.length:=by simpa using h2
     omega
    subst RR;rw[aar]at S;have oP:=(aj.ek S).get 0 rfl;have cP:=(show cq hq (.s 2 (aZ.map dg.d)) P FP from oP).cell;clear oP;refine aC (S.row 5 rfl) ?_;refine aC (S.row 1 rfl) ?_;conv=>whnf
    replace S:=aj.qU S;replace S:=S.pick [2,0,3,4,5,6,7,8,9] (by decide);simp only[lY,aaT,abd]at S;replace S:=aj.ek S;replace S:=S.pick [2,0,1,3,4,5,6,7,8] (by decide);simp only[lY,aaT,abd]at S;replace S:=(uc (bO:=bO) S).swap;intro pI pJ dT dU;replace S:=S.alloc dT dU;conv=>whnf
    refine⟨trivial,?_⟩;conv=>whnf
    refine⟨[_],bT (S.row 0 rfl),fi rfl (rW (r:=[L,R,KS]) sL (bM rfl (bM cB.2 (bM cP.2 rfl)))),?_⟩;replace S:=S.drop 0;dsimp only[List.eraseIdx]at S;refine lp (sz:=25) (d:=View.da ⟨.mk (.mk au n aD cells a b aq agg col ao) l r ks,bO,base,aZ⟩) S (by simp[bB];omega) fun k6 h6 F6 S2=>?_;clear S;have S:=S2;clear S2;conv=>whnf
    refine⟨_,rfl,rfl,rfl,.inl ⟨_,S.row 1 rfl,rfl,?_⟩⟩;conv=>whnf
    intro h7 w8;replace S:=S.w1 w8;conv=>whnf
    exact⟨mi-1,by omega,i+1,_,_,by omega,aP i xE,by rw[dN];exact S⟩
  ·have bp:i=aL.length:=by
    have: ¬i<aL.length:=by simpa using h1
    omega
   subst bp;rw[aar]at S;have oV:=(aj.ek S).get 0 rfl;have cV:=(show cq hq (.s 25 (aL.map View.da)) V FV from oV).cell;clear oV;refine aC (S.row 1 rfl) ?_;conv=>whnf
   refine⟨[W,T,V,i64 now,i64 keep],(by kernel_rfl),rfl,(bM (MV hW) (bM cT.2 (bM cV.2 rfl))),.inl ⟨_,S.row 4 rfl,rfl,?_⟩⟩;conv=>whnf
   intro b4 gX;replace S:=S.w4 gX;conv=>whnf
   replace S:=S.pick [3,2,0,4] (by decide);simp only[lY,aaT,abd]at S;replace S:=S.is (c':=.dL (.a 1 (bc.map bg.i)) W (pO W)) (oW.Xy (S.get 0 rfl)) rfl;exact zW (vs:=[W,T,V,i64 now,i64 keep]) rfl rfl (S.row 3 rfl) (by kernel_rfl) (iM (S.get 0 rfl) (iM (sv.Xy (S.get 1 rfl)) (iM (sv.Xy (S.get 2 rfl)) (fh (fh iL))))) (S.drop 3).sY
def iJ(ao:List (List Item))(i:Nat):List Item:=(ao[i]?).getD []
def kQ(au n:Int)(aD:Test)(cells:List Cell)(a b:Int)(aq:List Int)(agg col:Int)(l r aK ao:List (List Item)):List Item×Bool:=
 if au=1 then(if(aK.length:Int)<=n then([],true)else(iJ aK n.toNat,true))
 else if au=2 then pQ (rO (iJ ao 0) aD)
 else if au=3 then pQ (Fo (iJ ao 0) cells)
 else if au=4 then pQ (jw (jd l) (iJ ao 0) (jd r) (iJ ao 1) a b)
 else if au=5 then pQ (np (iJ ao 0) (iJ ao 1))
 else if au=6 then pQ (ju (jd l) (iJ ao 0))
 else pQ (iy (jd l) (iJ ao 0) aq agg col)
def BN(au:Int):Nat:=if au=1 then 0 else if au=4∨au=5 then 2 else 1
theorem FE{l:List (List Item)}(hl:l.length<=1000/\ ∀z∈l,dS z=true):ij (jd l):=by
 have h:=wN hl.2;refine⟨?_,h.2⟩;have:=h.1;simp only[dB];omega
theorem BO(hp:cF pr)(au n:Int)(aD:Test)(cells:List Cell)(a b:Int)(aq:List Int)(agg col:Int)(qs:List aA)(l r:List (List Item))(fs:List bz)(aK ao:List (List Item))(hn:au=1->0<=n)(hk:BN au<=ao.length)
  (hl:l.length<=1000/\ ∀z∈l,dS z=true) (hr:r.length<=1000/\ ∀z∈r,dS z=true) (ht:aK.length<=1000/\ ∀z∈aK,ij z) (vU:ao.length<=1000/\ ∀z∈ao,ij z) (hc:cells.length<=dB) (sd:aq.length<=1048576):
  nc pr 133 [(bz.mk (.mk au n aD cells a b aq agg col qs) l r fs).enc,bX.enc aK,bX.enc ao] [aI.d (kQ au n aD cells a b aq agg col l r aK ao).1,.b (kQ au n aD cells a b aq agg col l r aK ao).2]:=by
   have aQ:kQ au n aD cells a b aq agg col l r aK ao=kQ au n aD cells a b aq agg col l r aK ao:=rfl;conv at aQ=>rhs;unfold kQ
   generalize kQ au n aD cells a b aq agg col l r aK ao=res at aQ⊢;refine gT hp rfl ?_;have S:=aj.nil [];conv=>whnf
   intro k1 a1 eg er;replace S:=S.alloc eg er;refine aC (S.row 0 rfl) ?_;conv=>whnf
   intro k2 a2 jS jb;replace S:=S.alloc jS jb;conv=>whnf
   refine⟨_,rfl,rfl,rfl,.inl ⟨_,S.row 0 rfl,rfl,?_⟩⟩;conv=>whnf
   intro a3 nq;replace S:=S.w0 nq;refine aC (S.row 0 rfl) ?_;conv=>whnf
   refine ae (fun g1=>?_) (fun g1=>?_)
   ·have eg:au=1:=by simpa using g1
    rw[if_pos eg]at aQ;have KA:=hn eg;clear hn hk hl hr vU;refine aC (S.row 0 rfl) ?_;conv=>whnf
    refine ae (fun g2=>?_) (fun g2=>?_)
    ·have e:res=([],true):=by rw[aQ,if_pos (by simpa using g2)]
     clear aQ;subst e;conv=>whnf
     exact⟨_,rfl,_,_,_,rfl,iH (rI 2) (ve true),by simp⟩
    ·have fK:n.toNat<aK.length:=by simp at g2;omega
     have e:res=(aK[n.toNat],true):=by rw[aQ,if_neg (by simpa using g2)];simp[iJ,fK]
     clear aQ;have dw:(aK.map aI.enc)[n.toNat]?=some (aI.enc aK[n.toNat]):=by simp[fK]
     have hX:=l7 hp aK[n.toNat] (ht.2 _ (aac fK));generalize aK[n.toNat]=z at e dw hX;subst e;refine aC (S.row 0 rfl) ?_;conv=>whnf
     refine⟨_,dw,by omega,rfl,?_⟩;conv=>whnf
     refine dG S hX rfl rfl fun A q1 F1 S1=>?_;clear S;have S:=aj.ek S1;conv=>whnf
     exact⟨_,rfl,_,_,_,rfl,iH (S.get 0 rfl) (ve true),by rw[aaw];exact(S.get' 0 _ rfl).2⟩
   have eg:au≠1:=by simpa using g1
   rw[if_neg eg]at aQ;have Pc:1<=ao.length:=by unfold BN at hk;rw[if_neg eg]at hk;split at hk<;>omega
   have Lt:(ao.map aI.enc)[(0:Int).toNat]?=some (aI.enc (iJ ao 0)):=by
    obtain⟨y,ys,rfl⟩:=List.exists_cons_of_length_pos (show 0<ao.length by omega);rfl
   have wJ:ij (iJ ao 0):=by
    obtain⟨y,ys,rfl⟩:=List.exists_cons_of_length_pos (show 0<ao.length by omega);exact vU.2 y (by simp)
   have WK:BN au=2->(ao.map aI.enc)[(1:Int).toNat]?=some (aI.enc (iJ ao 1))/\ij (iJ ao 1):=fun h=>by
    rw[h]at hk
    match ao,hk with
    |y::z::ys,_=>exact⟨rfl,vU.2 z (by simp)⟩
    | [_],hk=>simp at hk
    | [],hk=>simp at hk
   generalize iJ ao 0=z0 at aQ Lt wJ;generalize iJ ao 1=z1 at aQ WK;have afN:(0:Int)<((ao.map aI.enc).length:Int):=by simp;omega
   clear hn;conv=>whnf
   refine ae (fun g2=>?_) (fun g2=>?_)
   ·rw[if_pos (by simpa using g2)]at aQ;have hX:=Lh hp z0 aD wJ;rw[<-aQ]at hX;clear aQ;conv=>whnf
    refine⟨_,Lt,by omega,rfl,?_⟩;refine aC (S.row 0 rfl) ?_;conv=>whnf
    obtain⟨w,bb⟩:=res;cases bb
    all_goals
     refine iG S hX rfl rfl fun vs q1 F1 S1=>?_;obtain⟨v1,F2,rfl,S2⟩:=aj.lC S1;clear S S1;conv=>whnf
     exact⟨_,rfl,_,_,_,rfl,iH (S2.get 0 rfl) (ve _),by rw[aaw];exact(S2.get' 0 _ rfl).2⟩
   rw[if_neg (by simpa using g2)]at aQ;conv=>whnf
   refine ae (fun g3=>?_) (fun g3=>?_)
   ·rw[if_pos (by simpa using g3)]at aQ;have hX:=Ru hp z0 cells wJ hc;rw[<-aQ]at hX;clear aQ;conv=>whnf
    refine⟨_,Lt,by omega,rfl,?_⟩;refine aC (S.row 0 rfl) ?_;conv=>whnf
    obtain⟨w,bb⟩:=res;cases bb
    all_goals
     refine iG S hX rfl rfl fun vs q1 F1 S1=>?_;obtain⟨v1,F2,rfl,S2⟩:=aj.lC S1;clear S S1;conv=>whnf
     exact⟨_,rfl,_,_,_,rfl,iH (S2.get 0 rfl) (ve _),by rw[aaw];exact(S2.get' 0 _ rfl).2⟩
   rw[if_neg (by simpa using g3)]at aQ;conv=>whnf
   refine ae (fun g4=>?_) (fun g4=>?_)
   ·have vp:au=4:=by simpa using g4
    rw[if_pos vp]at aQ;obtain⟨sm,DS⟩:=WK (by rw[vp];rfl);have ab4:(1:Int)<((ao.map aI.enc).length:Int):=by rw[vp]at hk;simp[BN]at hk;simp;omega
    have Z3:=FE hl;have sa:=FE hr;have hX:=Fv hp (jd l) z0 (jd r) z1 a b Z3 wJ sa DS;have hL:=wO hp l hl.2 hl.1;have hR:=wO hp r hr.2 hr.1;rw[<-aQ]at hX;clear aQ;refine aC (S.row 1 rfl) ?_;conv=>whnf
    refine dG S hL rfl rfl fun u q1 F1 S1=>?_;clear S hL;have S:=S1;clear S1;conv=>whnf
    refine⟨_,Lt,by omega,rfl,?_⟩;refine aC (S.row 2 rfl) ?_;conv=>whnf
    refine dG S hR rfl rfl fun u2 q2 F2 S1=>?_;clear S hR;have S:=S1;clear S1;conv=>whnf
    refine⟨_,sm,by omega,rfl,?_⟩;refine aC (S.row 2 rfl) ?_;refine aC (S.row 2 rfl) ?_;conv=>whnf
    have hu:Am.snap q2 u=some (aI.enc (jd l)):=aI.iT (show sv _ _ _ _ _ from S.get 1 rfl).1;have SH:Am.snap q2 u2=some (aI.enc (jd r)):=aI.iT (show sv _ _ _ _ _ from S.get 0 rfl).1;obtain⟨w,bb⟩:=res;cases bb
    all_goals
     refine iG S hX rfl (bu hu (bu rfl (bu SH (bu rfl (bu rfl (bu rfl (dM _))))))) fun vs q1 F1 S1=>?_;obtain⟨v1,F2,rfl,S2⟩:=aj.lC S1;clear S S1;conv=>whnf
     exact⟨_,rfl,_,_,_,rfl,iH (S2.get 0 rfl) (ve _),by rw[aaw];exact(S2.get' 0 _ rfl).2⟩
   rw[if_neg (by simpa using g4)]at aQ;conv=>whnf
   refine ae (fun g5=>?_) (fun g5=>?_)
   ·have vp:au=5:=by simpa using g5
    rw[if_pos vp]at aQ;obtain⟨sm,DS⟩:=WK (by rw[vp];rfl);have ab4:(1:Int)<((ao.map aI.enc).length:Int):=by rw[vp]at hk;simp[BN]at hk;simp;omega
    have hX:=Fq hp z0 z1 wJ DS;rw[<-aQ]at hX;clear aQ;conv=>whnf
    refine⟨_,Lt,by omega,rfl,?_⟩;conv=>whnf
    refine⟨_,sm,by omega,rfl,?_⟩;conv=>whnf
    obtain⟨w,bb⟩:=res;cases bb
    all_goals
     refine iG S hX rfl rfl fun vs q1 F1 S1=>?_;obtain⟨v1,F2,rfl,S2⟩:=aj.lC S1;clear S S1;conv=>whnf
     exact⟨_,rfl,_,_,_,rfl,iH (S2.get 0 rfl) (ve _),by rw[aaw];exact(S2.get' 0 _ rfl).2⟩
   rw[if_neg (by simpa using g5)]at aQ;have Z3:=FE hl;have hL:=wO hp l hl.2 hl.1;conv=>whnf
   refine ae (fun g6=>?_) (fun g6=>?_)
   ·rw[if_pos (by simpa using g6)]at aQ;have hX:=Ft hp (jd l) z0 Z3 wJ;rw[<-aQ]at hX;clear aQ;refine aC (S.row 1 rfl) ?_;conv=>whnf
    refine dG S hL rfl rfl fun u q1 F1 S1=>?_;clear S hL;have S:=S1;clear S1;conv=>whnf
    refine⟨_,Lt,by omega,rfl,?_⟩;conv=>whnf
    have hu:Am.snap q1 u=some (aI.enc (jd l)):=aI.iT (show sv _ _ _ _ _ from S.get 0 rfl).1;obtain⟨w,bb⟩:=res;cases bb
    all_goals
     refine iG S hX rfl (bu hu (bu rfl (dM _))) fun vs q1 F1 S1=>?_;obtain⟨v1,F2,rfl,S2⟩:=aj.lC S1;clear S S1;conv=>whnf
     exact⟨_,rfl,_,_,_,rfl,iH (S2.get 0 rfl) (ve _),by rw[aaw];exact(S2.get' 0 _ rfl).2⟩
   rw[if_neg (by simpa using g6)]at aQ;have hX:=CO hp (jd l) z0 aq agg col Z3 wJ sd;rw[<-aQ]at hX;clear aQ;refine aC (S.row 1 rfl) ?_;conv=>whnf
   refine dG S hL rfl rfl fun u q1 F1 S1=>?_;clear S hL;have S:=S1;clear S1;conv=>whnf
   refine⟨_,Lt,by omega,rfl,?_⟩;refine aC (S.row 1 rfl) ?_;refine aC (S.row 1 rfl) ?_;refine aC (S.row 1 rfl) ?_;conv=>whnf
   have hu:Am.snap q1 u=some (aI.enc (jd l)):=aI.iT (show sv _ _ _ _ _ from S.get 0 rfl).1;obtain⟨w,bb⟩:=res;cases bb
   all_goals
    refine iG S hX rfl (bu hu (bu rfl (bu rfl (bu rfl (bu rfl (dM _)))))) fun vs q1 F1 S1=>?_;obtain⟨v1,F2,rfl,S2⟩:=aj.lC S1;clear S S1;conv=>whnf
    exact⟨_,rfl,_,_,_,rfl,iH (S2.get 0 rfl) (ve _),by rw[aaw];exact(S2.get' 0 _ rfl).2⟩
end Go.Proofs.YtfepbikckfehlaaGreat

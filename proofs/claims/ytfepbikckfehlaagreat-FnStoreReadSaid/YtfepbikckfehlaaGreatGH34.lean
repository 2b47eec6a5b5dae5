/- Flows whose runs are one's own or frozen; what a flow keeps. -/
import Derived.Test.YtfepbikckfehlaaGreatGH32
import Derived.Test.YtfepbikckfehlaaGreatGH33
set_option linter.unusedVariables false
set_option linter.unusedSimpArgs false
set_option maxHeartbeats 4000000
namespace Go.Proofs.YtfepbikckfehlaaGreat
open Go Go.Am
variable{pr:bL}(hp:bV pr)
set_option maxRecDepth 100000
theorem qC{aw n:Int}{aA:Test}{C:af}{a b:Int}{K:af}{agg col:Int}{D:af}{r r2:List af}(h:(bB aw n aA C a b K agg col D r).all af.bE=true)(h2:r2.all af.bE=true):(bB aw n aA C a b K agg col D (r++r2)).all af.bE=true:=by
 simp only[bB,List.all_cons,aj,List.all_append]at h⊢;simp only[h,h2,and_self]
def View.da(x:View):ba:=.g [x.fM.d,.i x.bF,aE.d x.base,.a 2 (x.aZ.map cC.d)]
def aE.da(z:List Item):ba:=.a 2 (z.map Item.d)
theorem aE.gS(z:List Item):(aE.da z).enc=aE.enc z:=by rw[<-aE.eD];rfl
instance(z:List Item):zD (aE.da z):=by unfold aE.da;infer_instance
def bJ.da(x:bJ):ba:=.g [.a 1 (x.bc.map ba.i),.a 1 (x.aF.map aE.da),.a 25 (x.aK.map View.da),.i x.now,.i x.keep]
instance(x:View):zD x.da:=by unfold View.da;infer_instance
instance(x:bJ):zD x.da:=by unfold bJ.da;infer_instance
theorem View.gS(x:View):x.da.enc=x.enc:=by
 simp only[View.da,View.enc,ba.enc,ba.sL,aE.eD,bA.eD,iD cC.eD];rfl
theorem bJ.gS(x:bJ):x.da.enc=x.enc:=by
 have h1:ba.cz (x.aF.map aE.da)=x.aF.map aE.enc:=iD aE.gS _;simp only[bJ.da,bJ.enc,ba.enc,ba.sL,ba.tA,h1,iD View.gS];rfl
theorem bJ.UO(x:bJ):x.da.eX=x.d.eX:=by
 have h: ∀vs:List View,ba.eQ (vs.map View.da)=ba.eQ (vs.map View.d):=by
  intro vs
  induction vs with
  |nil=>rfl
  |cons v vs ih=>simp only[aM,ba.eQ,ih,View.da,View.d,ba.eX]
 have h2: ∀vs:List (List Item),ba.eQ (vs.map aE.da)=ba.eQ (vs.map aE.d):=by
  intro vs
  induction vs with
  |nil=>rfl
  |cons v vs ih=>simp only[aM,ba.eQ,ih,aE.da,aE.d,ba.eX]
 simp only[bJ.da,bJ.d,gq.d,bM.d,ba.eX,ba.eQ,h,h2,aO]
theorem bP.sZ{h:aC}{sz:Nat}{xs:List ba}{v:af}{F:List Nat}(ho:bP h (.a sz xs) v F):v.cells=[v]/\v.bE=true:=by
 simp only[bP]at ho;rcases ho with⟨_,_,rfl⟩|⟨id,vs,Fs,rfl,_⟩<;>exact⟨rfl,rfl⟩
theorem rS{h:aC}{sz:Nat}{xs ds:List ba}{vs:List af}{F:List Nat}:ep h (.a sz xs::ds) vs F↔ ∃v eo F1 F2,vs=v::eo/\F=F1++F2/\bP h (.a sz xs) v F1/\ep h ds eo F2:=by
 rw[ep];constructor
 ·rintro ⟨v,eo,F1,F2,rfl,rfl,h1,h2⟩
  exact⟨v,eo,F1,F2,by rw[h1.sZ.1];rfl,rfl,h1,h2⟩
 ·rintro ⟨v,eo,F1,F2,rfl,rfl,h1,h2⟩
  exact⟨v,eo,F1,F2,by rw[h1.sZ.1];rfl,rfl,h1,h2⟩
theorem gF{h:aC}{sz:Nat}{xs:List ba}{v:af}{ds:List ba}{vs:List af}{F1 F2:List Nat}(h1:bP h (.a sz xs) v F1)(h2:ep h ds vs F2):ep h (.a sz xs::ds) (v::vs) (F1++F2):=rS.2 ⟨v,vs,F1,F2,rfl,rfl,h1,h2⟩
theorem qS.VE{h:aC}{sz:Nat}{xs:List ba}{v:af}{F:List Nat}(hA:qS sz h xs v F):bP h (.a sz xs) v F:=by
 obtain⟨ho,hv⟩:=hA;simp only[bP]at ho⊢;rcases ho with⟨h1,h2,h3⟩|h
 ·rcases hv with rfl|⟨id,rfl⟩
  ·exact .inl ⟨h1,h2,rfl⟩
  ·rcases h3 with h3|h3<;>cases h3
 ·exact .inr h
theorem bP.GZ{h:aC}{sz:Nat}{xs:List ba}{v:af}{F:List Nat}(ho:bP h (.a sz xs) v F):qS sz h xs v F:=by
 unfold qS;simp only[bP]at ho⊢;rcases ho with⟨h1,h2,rfl⟩|⟨id,vs,Fs,rfl,h5⟩
 ·exact⟨.inl ⟨h1,h2,.inl rfl⟩,.inl rfl⟩
 ·exact⟨.inr ⟨id,vs,Fs,rfl,h5⟩,.inr ⟨id,rfl⟩⟩
theorem ah.pH{h:aC}{L:List Chunk}{sz:Nat}{xs:List ba}{v:af}{F:List Nat}(s:ah h (.iA sz xs v F::L)):ah h (.cU (.a sz xs) v F::L):=s.is (c':=.cU (.a sz xs) v F) (qS.VE (s.get 0 rfl)) rfl
theorem ah.JD{h:aC}{L:List Chunk}{sz:Nat}{xs:List ba}{v:af}{F:List Nat}(s:ah h (.cU (.a sz xs) v F::L)):ah h (.iA sz xs v F::L):=s.is (c':=.iA sz xs v F) (bP.GZ (s.get 0 rfl)) rfl
theorem m8.VE{h:aC}{xs:List Int}{v:af}(h0:m8 i64 1 h xs v):bP h (.a 1 (xs.map ba.i)) v (nT v):=by
 have key: ∀(xs:List Int),bZ h (xs.map ba.i) (xs.map i64) []:=by
  intro xs
  induction xs with
  |nil=>simp[bZ]
  |cons x xs ih=>simp only[aM,bZ,bP];exact⟨_,_,[],[],rfl,rfl,⟨rfl,rfl⟩,ih⟩
 simp only[bP];rcases h0 with⟨rfl,rfl⟩|⟨id,rfl,h1⟩
 ·exact .inl ⟨rfl,rfl,rfl⟩
 ·exact .inr ⟨id,xs.map i64,[],by simp,h1,key xs,rfl⟩
theorem _root_.Go.Am.ah.Tj{h:aC}{L:List Chunk}{c:Chunk}(Cs:List Chunk)(S:ah h (Cs++L))(hP:c.P h)(hF:c.F=Cs.flatMap Chunk.F):ah h (c::L):=by
 rw[ah.iff]at S⊢;obtain⟨h1,h2⟩:=S;rw[List.pairwise_append]at h2;obtain⟨h3,h4,h5⟩:=h2;have hn:(Cs.flatMap Chunk.F).Nodup:=ah.rF (ah.iff.2 ⟨fun c hc=>h1 c (by simp[hc]),h3⟩);refine⟨fun d hd=>?_,List.pairwise_cons.2 ⟨fun d hd id cq=>?_,h4⟩⟩
 ·rcases aW.1 hd with rfl|hd
  ·exact⟨hP,by rw[hF];exact hn⟩
  ·exact h1 d (by simp[hd])
 ·rw[hF]at cq;obtain⟨e,he,hm⟩:=List.mem_flatMap.1 cq;exact h5 e he d hd id hm
theorem K7{h:aC}{L:List Chunk}{cA:Int}{out:List Item}{A:af}{F:List Nat}(S:ah h (.cU (aE.d out) A F::L)):ah h (.cU (cC.d ⟨cA,out⟩) (.agg [i64 cA,A]) (F++[])::L):=
 S.is (c':=.cU (cC.d ⟨cA,out⟩) (.agg [i64 cA,A]) (F++[])) (gx.2 ⟨_,rfl,ee (iF (S.get 0 rfl) gE)⟩) (by simp[Chunk.cU])
theorem sA{h:aC}{L':List Chunk}{aw n:Int}{aA:Test}{cells:List Cell}{a b:Int}{ao:List Int}{agg col:Int}{al:List ax}{l r:List (List Item)}{ks:List bA}{C K D L R KS B P:af}{bF:Int}{base:List Item}{aZ:List cC}{F1 F2 F3:List Nat}
  (S:ah h (.cU (bA.mk (.mk aw n aA cells a b ao agg col al) l r ks).d (.agg (bB aw n aA C a b K agg col D [L,R,KS])) F1:: .cU (aE.d base) B F2:: .cU (.a 2 (aZ.map cC.d)) P F3::L')):
  ah h (.cU (View.da ⟨.mk (.mk aw n aA cells a b ao agg col al) l r ks,bF,base,aZ⟩) (.agg (bB aw n aA C a b K agg col D [L,R,KS,i64 bF,B,P])) (F1++(F2++(F3++[])))::L'):=by
   refine ah.Tj [.cU (bA.mk (.mk aw n aA cells a b ao agg col al) l r ks).d (.agg (bB aw n aA C a b K agg col D [L,R,KS])) F1,.cU (aE.d base) B F2,.cU (.a 2 (aZ.map cC.d)) P F3] S ?_ (by simp[Chunk.cU]);have h1:bP h (bA.mk (.mk aw n aA cells a b ao agg col al) l r ks).d _ F1:=S.get 0 rfl;have h2:bP h (aE.d base) B F2:=S.get 1 rfl;have h3:bP h (.a 2 (aZ.map cC.d)) P F3:=S.get 2 rfl;exact gx.2 ⟨_,rfl,Rv h1 (ee (iF h2 (gF h3 gE)))⟩
def qD:af:=.agg [.nil,.nil,.nil,i64 0,i64 0]
theorem lV(hp:bV pr)(s:bJ)(h:s.d.eX<=1048576):kC pr 112 [s.enc] s.da:=by
 have tQ:=d5 s;have xT: ∀v∈s.aK,v.d.eX<=1048576:=fun v hv=>by have:=ed (f:=View.d) hv;omega
 have P3: ∀z∈s.aF,gi z:=nE (l:=s.aF) (by omega);have Yi:s.bc.length<=1048576:=by omega
 have Kv:s.aF.length<=1048576:=by have:(bM.d s.aF).eX=_:=rfl;simp only[bM.d,ba.eX,aO]at tQ;omega
 have wh:s.aK.length<=1048576:=by omega
 obtain⟨bc,aF,aK,now,keep⟩:=s;simp only at P3 Yi Kv wh xT;clear h tQ;have ht:=fun z hz=>kF hp z (P3 z hz);refine lQ hp rfl ?_;have S:ah [] []:=ah.nil [];conv=>whnf
 intro k1 a1 dw dC;replace S:=S.alloc dw dC;conv=>whnf
 intro k2 a2 jf iB;replace S:=S.alloc jf iB;conv=>whnf
 refine aI (S.row 1 rfl) ?_;conv=>whnf
 refine aI (S.row 1 rfl) ?_;conv=>whnf
 refine aI (S.row 1 rfl) ?_;conv=>whnf
 intro k3 a3 kS jN;replace S:=S.alloc kS jN;conv=>whnf
 refine⟨trivial,?_⟩;conv=>whnf
 refine⟨bc.map i64,rfl,by rw[List.all_map,aG];intro _ _;rfl,?_⟩;refine jA (ah.ma i64 1 S) (by simp[br];omega) fun W w1 hW S1=>?_;have KP:W.cells=[W]/\[W].all af.bE=true:=by rcases hW with rfl|⟨_,rfl⟩<;>exact⟨rfl,rfl⟩
 replace S:=S1;clear S1;rw[List.nil_append]at S;refine⟨?_,?_⟩
 ·conv=>whnf
  refine⟨?_,?_⟩
  ·conv=>whnf
   exact bO rfl (S.row 3 rfl) rfl rfl
  conv=>whnf
  refine⟨?_,?_⟩
  ·conv=>whnf
   exact bO rfl (S.row 3 rfl) rfl rfl
  conv=>whnf
  refine⟨?_,?_⟩
  ·conv=>whnf
   exact⟨k3,rfl,S.row 1 rfl⟩
  trivial
 conv=>whnf
 refine dE KP.1 ?_;conv=>whnf
 refine⟨[W,.nil,.nil,i64 now,i64 keep],(by kernel_rfl),rfl,(bC (KV hW) rfl),.inl ⟨_,S.row 1 rfl,rfl,?_⟩⟩;conv=>whnf
 intro b1 eN;replace S:=S.w1 eN;conv=>whnf
 replace S:=ah.j7 1 S;replace S:=S.pick [0,2,1,3,4] (by decide);simp only[kB,List.getElem?_cons_zero,List.getElem?_cons_succ]at S;refine dh (fun m tm hp=>∃(j:Nat)(T:af)(F:List Nat),j+m=aF.length/\tm 4=i64 (j:Nat)/\ah hp [.iA 1 ((aF.take j).map aE.da) T F,.row k3 (.box (.agg [W,T,.nil,i64 now,i64 keep])),.acc i64 1 bc W,.row k2 (.box qD),.row k1 (.box (bJ.enc ⟨bc,aF,aK,now,keep⟩))]) (fun m tm hq bz hI=>?_) (aF.length) ⟨0,.nil,[],by simp,rfl,S⟩;obtain⟨j,T,F,hj,e4,S2⟩:=hI;have k1:=bz 1 (by kernel_rfl);conv at k1=>rhs;whnf
 have k2:=bz 2 (by kernel_rfl);conv at k2=>rhs;whnf
 have k3:=bz 3 (by kernel_rfl);conv at k3=>rhs;whnf
 refine⟨[(1,_),(2,_),(3,_),(4,_)],⟨k1,k2,k3,e4,trivial⟩,?_⟩;clear bz k1 k2 k3 e4;replace S:=S2;clear S2;conv=>whnf
 have fw:j<4611686018427387904:=by omega
 refine aI (S.row 4 rfl) ?_;conv=>whnf
 refine ae (fun h1=>?_) (fun h1=>?_)
 ·have bq:j<aF.length:=by simpa using h1
  have cx:(aF.map aE.enc)[((j:Nat):Int).toNat]?=some (aE.enc aF[j]):=by rw[aq];simp[bq]
  have cY:=js aE.da bq;have hz:=ht _ (ay bq);generalize aF[j]=z at cx cY hz;conv=>whnf
  refine aI (S.row 1 rfl) ?_;conv=>whnf
  refine aI (S.row 4 rfl) ?_;conv=>whnf
  refine⟨_,cx,by omega,rfl,?_⟩;conv=>whnf
  refine cI S hz rfl rfl fun A q1 F1 S1=>?_;have o1:bP q1 (aE.d z) A F1:=(ah.dv S1).get 0 rfl;replace S:=(ah.pH S1).swap;clear S1;conv=>whnf
  refine dE o1.cell.1 ?_;conv=>whnf
  intro nM nN de dg;replace S:=S.alloc de dg;conv=>whnf
  refine⟨trivial,?_⟩;conv=>whnf
  refine⟨[_],bG (S.row 0 rfl),cQ o1.cell.1 o1.cell.2,?_⟩;replace S:=S.drop 0;dsimp only[List.eraseIdx]at S;refine jM (sz:=1) (d:=aE.da z) S (by simp[br];omega) fun k5 h5 F5 S2=>?_;clear S;have S:=S2;clear S2;conv=>whnf
  refine⟨_,rfl,rfl,rfl,.inl ⟨_,S.row 1 rfl,rfl,?_⟩⟩;conv=>whnf
  intro h6 fO;replace S:=S.w1 fO;conv=>whnf
  exact⟨m-1,by omega,j+1,_,_,by omega,aQ j fw,by rw[cY];exact S⟩
 ·have bq:j=aF.length:=by
   have: ¬j<aF.length:=by simpa using h1
   omega
  subst bq;rw[aS]at S;clear ht fw h1;have oT:=(ah.dv S).get 0 rfl;have cT:=(show bP hq (.s 1 (aF.map aE.da)) T F from oT).cell;clear oT;conv=>whnf
  replace S:=ah.j7 25 S;replace S:=S.pick [0,2,1,3,4,5] (by decide);simp only[kB,List.getElem?_cons_zero,List.getElem?_cons_succ]at S;refine dh (fun m tm hp=>∃(j:Nat)(V:af)(FV:List Nat),j+m=aK.length/\tm 5=i64 (j:Nat)/\ah hp [.iA 25 ((aK.take j).map View.da) V FV,.row k3 (.box (.agg [W,T,V,i64 now,i64 keep])),.iA 1 (aF.map aE.da) T F,.acc i64 1 bc W,.row k2 (.box qD),.row k1 (.box (bJ.enc ⟨bc,aF,aK,now,keep⟩))]) (fun mi Te hq bz hI=>?_) (aK.length) ⟨0,.nil,[],by simp,rfl,S⟩;obtain⟨i,V,FV,hi,e5,S2⟩:=hI;have k1:=bz 1 (by kernel_rfl);conv at k1=>rhs;whnf
  have k2:=bz 2 (by kernel_rfl);conv at k2=>rhs;whnf
  have k3:=bz 3 (by kernel_rfl);conv at k3=>rhs;whnf
  refine⟨[(1,_),(2,_),(3,_),(5,_)],⟨k1,k2,k3,e5,trivial⟩,?_⟩;clear bz k1 k2 k3 e5;replace S:=S2;clear S2;conv=>whnf
  have vQ:i<4611686018427387904:=by omega
  refine aI (S.row 5 rfl) ?_;conv=>whnf
  refine ae (fun h1=>?_) (fun h1=>?_)
  ·have bq:i<aK.length:=by simpa using h1
   have cx:(aK.map View.enc)[((i:Nat):Int).toNat]?=some (View.enc aK[i]):=by rw[aq];simp[bq]
   have cY:=js View.da bq;have sF:=xT _ (ay bq);generalize aK[i]=v at cx cY sF;obtain⟨⟨⟨aw,n,aA,cells,a,b,ao,agg,col,al⟩,l,r,ks⟩,bF,base,aZ⟩:=v;have Xh:=nD ⟨⟨⟨aw,n,aA,cells,a,b,ao,agg,col,al⟩,l,r,ks⟩,bF,base,aZ⟩;dsimp only at Xh;have hf:=GS hp ⟨⟨aw,n,aA,cells,a,b,ao,agg,col,al⟩,l,r,ks⟩ (by omega);have hb:=kF hp base (oA (by omega));have UP: ∀p∈aZ,gi p.out:=qB (by omega);have yt:aZ.length<=1048576:=by omega
   clear Xh sF;conv=>whnf
   refine aI (S.row 5 rfl) ?_;conv=>whnf
   refine⟨_,cx,by omega,rfl,?_⟩;conv=>whnf
   refine ek S hf rfl rfl fun VF q1 FF o1 S1=>?_;replace S:=S1;clear S1 hf;obtain⟨C,K,D,L,R,KS,rfl,rq⟩:=nC o1;clear o1;conv=>whnf
   refine aI (S.row 6 rfl) ?_;conv=>whnf
   refine⟨_,cx,by omega,rfl,?_⟩;conv=>whnf
   refine aI (S.row 6 rfl) ?_;conv=>whnf
   refine⟨_,cx,by omega,rfl,?_⟩;conv=>whnf
   refine cI S hb rfl rfl fun B q2 FB S1=>?_;clear S hb;have S:=S1;clear S1;have cB:=(show bP q2 (aE.d base) B FB from(ah.dv S).get 0 rfl).cell;conv=>whnf
   refine dE cB.1 ?_;conv=>whnf
   intro k4 a4 tN pM;replace S:=S.alloc tN pM;conv=>whnf
   refine⟨(bB aw n aA C a b K agg col D [L,R,KS,i64 bF,B,.nil]),(by kernel_rfl),rfl,(qC (r:=[L,R,KS]) rq (bC rfl (bC cB.2 rfl))),.inl ⟨_,S.row 0 rfl,rfl,?_⟩⟩;conv=>whnf
   intro b2 dB;replace S:=S.w0 dB;conv=>whnf
   replace S:=ah.j7 2 S;refine dh (fun m tm hp=>∃(j:Nat)(P:af)(FP:List Nat),j+m=aZ.length/\tm 7=i64 (j:Nat)/\ah hp [.iA 2 ((aZ.take j).map cC.d) P FP,.row k4 (.box (.agg (bB aw n aA C a b K agg col D [L,R,KS,i64 bF,B,P]))),.iA 2 (base.map Item.d) B FB,.cU (bA.mk (.mk aw n aA cells a b ao agg col al) l r ks).d (.agg (bB aw n aA C a b K agg col D [L,R,KS])) FF,.iA 25 ((aK.take i).map View.da) V FV,.row k3 (.box (.agg [W,T,V,i64 now,i64 keep])),.iA 1 (aF.map aE.da) T F,.acc i64 1 bc W,.row k2 (.box qD),.row k1 (.box (bJ.enc ⟨bc,aF,aK,now,keep⟩))]) (fun m tm hq bz hI=>?_) (aZ.length) ⟨0,.nil,[],by simp,rfl,S⟩;obtain⟨j,P,FP,hj,e7,S2⟩:=hI;have k1:=bz 1 (by kernel_rfl);conv at k1=>rhs;whnf
   have k2:=bz 2 (by kernel_rfl);conv at k2=>rhs;whnf
   have k3:=bz 3 (by kernel_rfl);conv at k3=>rhs;whnf
   have k5:=bz 5 (by kernel_rfl);conv at k5=>rhs;whnf
   have k6:=bz 6 (by kernel_rfl);conv at k6=>rhs;whnf
   refine⟨[(1,_),(2,_),(3,_),(5,_),(6,_),(7,_)],⟨k1,k2,k3,k5,k6,e7,trivial⟩,?_⟩;clear bz k1 k2 k3 k5 k6 e7;replace S:=S2;clear S2;conv=>whnf
   have fw:j<4611686018427387904:=by omega
   refine aI (S.row 9 rfl) ?_;conv=>whnf
   refine⟨_,cx,by omega,rfl,?_⟩;conv=>whnf
   refine ae (fun h2=>?_) (fun h2=>?_)
   ·have P4:j<aZ.length:=by simpa using h2
    have hgp:(aZ.map cC.enc)[((j:Nat):Int).toNat]?=some (cC.enc aZ[j]):=by rw[aq];simp[P4]
    have TY:=kF hp aZ[j].out (UP _ (ay P4));have eM:=js cC.d P4;generalize aZ[j]=p at hgp TY eM;obtain⟨cA,out⟩:=p;conv=>whnf
    refine aI (S.row 9 rfl) ?_;conv=>whnf
    refine⟨_,cx,by omega,rfl,?_⟩;conv=>whnf
    refine⟨_,hgp,by omega,rfl,?_⟩;conv=>whnf
    intro k5 a5 DI qf;replace S:=S.alloc DI qf;conv=>whnf
    refine⟨[i64 cA,aE.enc out],rfl,rfl,rfl,.inl ⟨_,S.row 0 rfl,rfl,?_⟩⟩;conv=>whnf
    intro c1 qO;replace S:=S.w0 qO;conv=>whnf
    refine aI (S.row 2 rfl) ?_;conv=>whnf
    refine aI (S.row 0 rfl) ?_;conv=>whnf
    refine aI (S.row 0 rfl) ?_;conv=>whnf
    refine cI S TY rfl rfl fun A q3 F3 S1=>?_;clear S TY;have o3:bP q3 (aE.d out) A F3:=(ah.dv S1).get 0 rfl;have S:=K7 (cA:=cA) (ah.dv S1);clear S1;replace S:=S.pick [2,0,3,4,5,6,7,8,9,10,11] (by decide);simp only[kB,List.getElem?_cons_zero,List.getElem?_cons_succ]at S;conv=>whnf
    refine dE o3.cell.1 ?_;conv=>whnf
    intro nM nN de dg;replace S:=S.alloc de dg;conv=>whnf
    refine⟨trivial,?_⟩;conv=>whnf
    refine⟨[_],bG (S.row 0 rfl),ef rfl (bC rfl (bC o3.cell.2 rfl)),?_⟩;replace S:=S.drop 0;dsimp only[List.eraseIdx]at S;refine jM (sz:=2) (d:=cC.d ⟨cA,out⟩) S (by simp[br];omega) fun k6 h6 F6 S2=>?_;clear S;have S:=S2;clear S2;conv=>whnf
    refine⟨_,rfl,rfl,rfl,.inl ⟨_,S.row 1 rfl,rfl,?_⟩⟩;conv=>whnf
    intro h7 ve;replace S:=S.w1 ve;conv=>whnf
    exact⟨m-1,by omega,j+1,_,_,by omega,aQ j fw,by rw[eM];exact S⟩
   ·have P4:j=aZ.length:=by
     have: ¬j<aZ.length:=by simpa using h2
     omega
    subst P4;rw[aS]at S;have oP:=(ah.dv S).get 0 rfl;have cP:=(show bP hq (.s 2 (aZ.map cC.d)) P FP from oP).cell;clear oP;conv=>whnf
    refine aI (S.row 5 rfl) ?_;conv=>whnf
    refine aI (S.row 1 rfl) ?_;conv=>whnf
    replace S:=ah.pH S;replace S:=S.pick [2,0,3,4,5,6,7,8,9] (by decide);simp only[kB,List.getElem?_cons_zero,List.getElem?_cons_succ]at S;replace S:=ah.dv S;replace S:=S.pick [2,0,1,3,4,5,6,7,8] (by decide);simp only[kB,List.getElem?_cons_zero,List.getElem?_cons_succ]at S;replace S:=(sA (bF:=bF) S).swap;intro nM nN de dg;replace S:=S.alloc de dg;conv=>whnf
    refine⟨trivial,?_⟩;conv=>whnf
    refine⟨[_],bG (S.row 0 rfl),ef rfl (qC (r:=[L,R,KS]) rq (bC rfl (bC cB.2 (bC cP.2 rfl)))),?_⟩;replace S:=S.drop 0;dsimp only[List.eraseIdx]at S;refine jM (sz:=25) (d:=View.da ⟨.mk (.mk aw n aA cells a b ao agg col al) l r ks,bF,base,aZ⟩) S (by simp[br];omega) fun k6 h6 F6 S2=>?_;clear S;have S:=S2;clear S2;conv=>whnf
    refine⟨_,rfl,rfl,rfl,.inl ⟨_,S.row 1 rfl,rfl,?_⟩⟩;conv=>whnf
    intro h7 ve;replace S:=S.w1 ve;conv=>whnf
    exact⟨mi-1,by omega,i+1,_,_,by omega,aQ i vQ,by rw[cY];exact S⟩
  ·have bq:i=aK.length:=by
    have: ¬i<aK.length:=by simpa using h1
    omega
   subst bq;rw[aS]at S;have oV:=(ah.dv S).get 0 rfl;have cV:=(show bP hq (.s 25 (aK.map View.da)) V FV from oV).cell;clear oV;conv=>whnf
   refine aI (S.row 1 rfl) ?_;conv=>whnf
   refine⟨[W,T,V,i64 now,i64 keep],(by kernel_rfl),rfl,(bC (KV hW) (bC cT.2 (bC cV.2 rfl))),.inl ⟨_,S.row 4 rfl,rfl,?_⟩⟩;conv=>whnf
   intro b4 iH;replace S:=S.w4 iH;conv=>whnf
   replace S:=S.pick [3,2,0,4] (by decide);simp only[kB,List.getElem?_cons_zero,List.getElem?_cons_succ]at S;replace S:=S.is (c':=.cU (.a 1 (bc.map ba.i)) W (nT W)) (m8.VE (S.get 0 rfl)) rfl;exact yx (vs:=[W,T,V,i64 now,i64 keep]) rfl rfl (S.row 3 rfl) (by kernel_rfl) (gF (S.get 0 rfl) (gF (qS.VE (S.get 1 rfl)) (gF (qS.VE (S.get 2 rfl)) (ee (ee gE))))) (S.drop 3).rF
def gD(al:List (List Item))(i:Nat):List Item:=(al[i]?).getD []
def jw(aw n:Int)(aA:Test)(cells:List Cell)(a b:Int)(ao:List Int)(agg col:Int)(l r aH al:List (List Item)):List Item×Bool:=
 if aw=1 then(if(aH.length:Int)<=n then([],true)else(gD aH n.toNat,true))
 else if aw=2 then nV (qo (gD al 0) aA)
 else if aw=3 then nV (Dy (gD al 0) cells)
 else if aw=4 then nV (ir (gX l) (gD al 0) (gX r) (gD al 1) a b)
 else if aw=5 then nV (lR (gD al 0) (gD al 1))
 else if aw=6 then nV (il (gX l) (gD al 0))
 else nV (gd (gX l) (gD al 0) ao agg col)
def Ak(aw:Int):Nat:=if aw=1 then 0 else if aw=4∨aw=5 then 2 else 1
theorem DP{l:List (List Item)}(hl:l.length<=1000/\ ∀z∈l,c7 z=true):gi (gX l):=by
 have h:=uS hl.2;refine⟨?_,h.2⟩;have:=h.1;simp only[cM];omega
theorem Al(hp:bV pr)(aw n:Int)(aA:Test)(cells:List Cell)(a b:Int)(ao:List Int)(agg col:Int)(qs:List ax)(l r:List (List Item))(fs:List bA)(aH al:List (List Item))(hn:aw=1->0<=n)(hk:Ak aw<=al.length)
  (hl:l.length<=1000/\ ∀z∈l,c7 z=true) (hr:r.length<=1000/\ ∀z∈r,c7 z=true) (ht:aH.length<=1000/\ ∀z∈aH,gi z) (yd:al.length<=1000/\ ∀z∈al,gi z) (hc:cells.length<=cM) (sY:ao.length<=1048576):
  lu pr 133 [(bA.mk (.mk aw n aA cells a b ao agg col qs) l r fs).enc,bM.enc aH,bM.enc al] [aE.d (jw aw n aA cells a b ao agg col l r aH al).1,.b (jw aw n aA cells a b ao agg col l r aH al).2]:=by
   have aN:jw aw n aA cells a b ao agg col l r aH al=jw aw n aA cells a b ao agg col l r aH al:=rfl;conv at aN=>rhs;unfold jw
   generalize jw aw n aA cells a b ao agg col l r aH al=res at aN⊢;refine fN hp rfl ?_;have S:ah [] []:=ah.nil [];conv=>whnf
   intro k1 a1 dw dC;replace S:=S.alloc dw dC;conv=>whnf
   refine aI (S.row 0 rfl) ?_;conv=>whnf
   intro k2 a2 jf iB;replace S:=S.alloc jf iB;conv=>whnf
   refine⟨_,rfl,rfl,rfl,.inl ⟨_,S.row 0 rfl,rfl,?_⟩⟩;conv=>whnf
   intro a3 lS;replace S:=S.w0 lS;conv=>whnf
   refine aI (S.row 0 rfl) ?_;conv=>whnf
   refine ae (fun g1=>?_) (fun g1=>?_)
   ·have dw:aw=1:=by simpa using g1
    rw[if_pos dw]at aN;have Jq:=hn dw;clear hn hk hl hr yd;conv=>whnf
    refine aI (S.row 0 rfl) ?_;conv=>whnf
    refine ae (fun g2=>?_) (fun g2=>?_)
    ·have e:res=([],true):=by rw[aN,if_pos (by simpa using g2)]
     clear aN;subst e;conv=>whnf
     exact⟨_,rfl,_,_,_,rfl,eW (jO 2) (tJ true),by simp⟩
    ·have eH:n.toNat<aH.length:=by simp at g2;omega
     have e:res=(aH[n.toNat],true):=by rw[aN,if_neg (by simpa using g2)];simp[gD,eH]
     clear aN;have cx:(aH.map aE.enc)[n.toNat]?=some (aE.enc aH[n.toNat]):=by simp[eH]
     have hX:=kF hp aH[n.toNat] (ht.2 _ (ay eH));generalize aH[n.toNat]=z at e cx hX;subst e;conv=>whnf
     refine aI (S.row 0 rfl) ?_;conv=>whnf
     refine⟨_,cx,by omega,rfl,?_⟩;conv=>whnf
     refine cI S hX rfl rfl fun A q1 F1 S1=>?_;clear S;have S:=ah.dv S1;conv=>whnf
     exact⟨_,rfl,_,_,_,rfl,eW (S.get 0 rfl) (tJ true),by rw[aU];exact(S.get' 0 _ rfl).2⟩
   have dw:aw≠1:=by simpa using g1
   rw[if_neg dw]at aN;have Nm:1<=al.length:=by unfold Ak at hk;rw[if_neg dw]at hk;split at hk<;>omega
   have JE:(al.map aE.enc)[(0:Int).toNat]?=some (aE.enc (gD al 0)):=by
    obtain⟨y,ys,rfl⟩:=List.exists_cons_of_length_pos (show 0<al.length by omega);rfl
   have tL:gi (gD al 0):=by
    obtain⟨y,ys,rfl⟩:=List.exists_cons_of_length_pos (show 0<al.length by omega);exact yd.2 y (by simp)
   have UQ:Ak aw=2->(al.map aE.enc)[(1:Int).toNat]?=some (aE.enc (gD al 1))/\gi (gD al 1):=fun h=>by
    rw[h]at hk
    match al,hk with
    |y::z::ys,_=>exact⟨rfl,yd.2 z (by simp)⟩
    | [_],hk=>simp at hk
    | [],hk=>simp at hk
   generalize gD al 0=z0 at aN JE tL;generalize gD al 1=z1 at aN UQ;have adW:(0:Int)<((al.map aE.enc).length:Int):=by simp;omega
   clear hn;conv=>whnf
   refine ae (fun g2=>?_) (fun g2=>?_)
   ·rw[if_pos (by simpa using g2)]at aN;have hX:=Ja hp z0 aA tL;rw[<-aN]at hX;clear aN;conv=>whnf
    refine⟨_,JE,by omega,rfl,?_⟩;conv=>whnf
    refine aI (S.row 0 rfl) ?_;conv=>whnf
    obtain⟨w,bb⟩:=res;cases bb
    all_goals
     refine gA S hX rfl rfl fun vs q1 F1 S1=>?_;obtain⟨v1,F2,rfl,S2⟩:=ah.jZ S1;clear S S1;conv=>whnf
     exact⟨_,rfl,_,_,_,rfl,eW (S2.get 0 rfl) (tJ _),by rw[aU];exact(S2.get' 0 _ rfl).2⟩
   rw[if_neg (by simpa using g2)]at aN;conv=>whnf
   refine ae (fun g3=>?_) (fun g3=>?_)
   ·rw[if_pos (by simpa using g3)]at aN;have hX:=Pw hp z0 cells tL hc;rw[<-aN]at hX;clear aN;conv=>whnf
    refine⟨_,JE,by omega,rfl,?_⟩;conv=>whnf
    refine aI (S.row 0 rfl) ?_;conv=>whnf
    obtain⟨w,bb⟩:=res;cases bb
    all_goals
     refine gA S hX rfl rfl fun vs q1 F1 S1=>?_;obtain⟨v1,F2,rfl,S2⟩:=ah.jZ S1;clear S S1;conv=>whnf
     exact⟨_,rfl,_,_,_,rfl,eW (S2.get 0 rfl) (tJ _),by rw[aU];exact(S2.get' 0 _ rfl).2⟩
   rw[if_neg (by simpa using g3)]at aN;conv=>whnf
   refine ae (fun g4=>?_) (fun g4=>?_)
   ·have tN:aw=4:=by simpa using g4
    rw[if_pos tN]at aN;obtain⟨qR,Gq⟩:=UQ (by rw[tN];rfl);have aac:(1:Int)<((al.map aE.enc).length:Int):=by rw[tN]at hk;simp[Ak]at hk;simp;omega
    have QH:=DP hl;have oH:=DP hr;have hX:=DC hp (gX l) z0 (gX r) z1 a b QH tL oH Gq;have hL:=uT hp l hl.2 hl.1;have hR:=uT hp r hr.2 hr.1;rw[<-aN]at hX;clear aN;conv=>whnf
    refine aI (S.row 1 rfl) ?_;conv=>whnf
    refine cI S hL rfl rfl fun u q1 F1 S1=>?_;clear S hL;have S:=S1;clear S1;conv=>whnf
    refine⟨_,JE,by omega,rfl,?_⟩;conv=>whnf
    refine aI (S.row 2 rfl) ?_;conv=>whnf
    refine cI S hR rfl rfl fun u2 q2 F2 S1=>?_;clear S hR;have S:=S1;clear S1;conv=>whnf
    refine⟨_,qR,by omega,rfl,?_⟩;conv=>whnf
    refine aI (S.row 2 rfl) ?_;conv=>whnf
    refine aI (S.row 2 rfl) ?_;conv=>whnf
    have hu:Am.snap q2 u=some (aE.enc (gX l)):=aE.fU (show qS _ _ _ _ _ from S.get 1 rfl).1;have QR:Am.snap q2 u2=some (aE.enc (gX r)):=aE.fU (show qS _ _ _ _ _ from S.get 0 rfl).1;obtain⟨w,bb⟩:=res;cases bb
    all_goals
     refine gA S hX rfl (bm hu (bm rfl (bm QR (bm rfl (bm rfl (bm rfl (dc _))))))) fun vs q1 F1 S1=>?_;obtain⟨v1,F2,rfl,S2⟩:=ah.jZ S1;clear S S1;conv=>whnf
     exact⟨_,rfl,_,_,_,rfl,eW (S2.get 0 rfl) (tJ _),by rw[aU];exact(S2.get' 0 _ rfl).2⟩
   rw[if_neg (by simpa using g4)]at aN;conv=>whnf
   refine ae (fun g5=>?_) (fun g5=>?_)
   ·have tN:aw=5:=by simpa using g5
    rw[if_pos tN]at aN;obtain⟨qR,Gq⟩:=UQ (by rw[tN];rfl);have aac:(1:Int)<((al.map aE.enc).length:Int):=by rw[tN]at hk;simp[Ak]at hk;simp;omega
    have hX:=Dz hp z0 z1 tL Gq;rw[<-aN]at hX;clear aN;conv=>whnf
    refine⟨_,JE,by omega,rfl,?_⟩;conv=>whnf
    refine⟨_,qR,by omega,rfl,?_⟩;conv=>whnf
    obtain⟨w,bb⟩:=res;cases bb
    all_goals
     refine gA S hX rfl rfl fun vs q1 F1 S1=>?_;obtain⟨v1,F2,rfl,S2⟩:=ah.jZ S1;clear S S1;conv=>whnf
     exact⟨_,rfl,_,_,_,rfl,eW (S2.get 0 rfl) (tJ _),by rw[aU];exact(S2.get' 0 _ rfl).2⟩
   rw[if_neg (by simpa using g5)]at aN;have QH:=DP hl;have hL:=uT hp l hl.2 hl.1;conv=>whnf
   refine ae (fun g6=>?_) (fun g6=>?_)
   ·rw[if_pos (by simpa using g6)]at aN;have hX:=DA hp (gX l) z0 QH tL;rw[<-aN]at hX;clear aN;conv=>whnf
    refine aI (S.row 1 rfl) ?_;conv=>whnf
    refine cI S hL rfl rfl fun u q1 F1 S1=>?_;clear S hL;have S:=S1;clear S1;conv=>whnf
    refine⟨_,JE,by omega,rfl,?_⟩;conv=>whnf
    have hu:Am.snap q1 u=some (aE.enc (gX l)):=aE.fU (show qS _ _ _ _ _ from S.get 0 rfl).1;obtain⟨w,bb⟩:=res;cases bb
    all_goals
     refine gA S hX rfl (bm hu (bm rfl (dc _))) fun vs q1 F1 S1=>?_;obtain⟨v1,F2,rfl,S2⟩:=ah.jZ S1;clear S S1;conv=>whnf
     exact⟨_,rfl,_,_,_,rfl,eW (S2.get 0 rfl) (tJ _),by rw[aU];exact(S2.get' 0 _ rfl).2⟩
   rw[if_neg (by simpa using g6)]at aN;have hX:=Bm hp (gX l) z0 ao agg col QH tL sY;rw[<-aN]at hX;clear aN;conv=>whnf
   refine aI (S.row 1 rfl) ?_;conv=>whnf
   refine cI S hL rfl rfl fun u q1 F1 S1=>?_;clear S hL;have S:=S1;clear S1;conv=>whnf
   refine⟨_,JE,by omega,rfl,?_⟩;conv=>whnf
   refine aI (S.row 1 rfl) ?_;conv=>whnf
   refine aI (S.row 1 rfl) ?_;conv=>whnf
   refine aI (S.row 1 rfl) ?_;conv=>whnf
   have hu:Am.snap q1 u=some (aE.enc (gX l)):=aE.fU (show qS _ _ _ _ _ from S.get 0 rfl).1;obtain⟨w,bb⟩:=res;cases bb
   all_goals
    refine gA S hX rfl (bm hu (bm rfl (bm rfl (bm rfl (bm rfl (dc _)))))) fun vs q1 F1 S1=>?_;obtain⟨v1,F2,rfl,S2⟩:=ah.jZ S1;clear S S1;conv=>whnf
    exact⟨_,rfl,_,_,_,rfl,eW (S2.get 0 rfl) (tJ _),by rw[aU];exact(S2.get' 0 _ rfl).2⟩
end Go.Proofs.YtfepbikckfehlaaGreat
set_option maxHeartbeats 4000000
namespace Go.Proofs.YtfepbikckfehlaaGreat
open Go Go.Am
variable{pr:bL}(hp:bV pr)
set_option maxRecDepth 100000
def RD(l:List (List Item))(d:ba):Prop:=d.Bn=true/\d.dep<=20/\d.enc=bM.enc l
mutual
def FD:bA->ba->Prop
 | .mk p l r ks,d=>∃dl dr sN,d= .g [.p p,.g [dl],.g [dr],.s 22 sN]/\RD l dl/\RD r dr/\wM ks sN
def wM:List bA->List ba->Prop
 | [],ds=>ds=[]
 |f::fs,ds=>∃d Sa,ds=d::Sa/\FD f d/\wM fs Sa
end
mutual
theorem wN: ∀(f:bA)(d:ba),FD f d->d.enc=f.enc
 | .mk (.mk aw n aA cells a b ao agg col al) l r ks,d,h=>by
  obtain⟨dl,dr,sN,rfl,⟨_,_,h1⟩,⟨_,_,h2⟩,h3⟩:=h;simp only[bA.enc,ba.enc,ba.sL,K8 ks sN h3,h1,h2,aU];rfl
theorem K8: ∀(fs:List bA)(ds:List ba),wM fs ds->ba.cz ds=bA.cz fs
 | [],ds,h=>by simp only[wM]at h;subst h;rfl
 |f::fs,ds,h=>by
  obtain⟨d,Sa,rfl,h1,h2⟩:=h;simp only[ba.cz,bA.cz,wN f d h1,K8 fs Sa h2]
end
mutual
theorem rT: ∀(f:bA)(d:ba),FD f d->d.dep<=f.d.dep+20
 | .mk p l r ks,d,h=>by
  obtain⟨dl,dr,sN,rfl,⟨_,h1,_⟩,⟨_,h2,_⟩,h3⟩:=h;have:=La ks sN h3;simp only[bA.d,ba.dep,ba.cZ];omega
theorem La: ∀(fs:List bA)(ds:List ba),wM fs ds->ba.cZ ds<=ba.cZ (bA.ds fs)+20
 | [],ds,h=>by simp only[wM]at h;subst h;simp[ba.cZ]
 |f::fs,ds,h=>by
  obtain⟨d,Sa,rfl,h1,h2⟩:=h;have:=rT f d h1;have:=La fs Sa h2;simp only[ba.cZ,bA.ds];omega
end
mutual
theorem vg: ∀f:bA,FD f f.d
 | .mk p l r ks=>⟨_,_,_,rfl,⟨Aa l,gM l,bM.eD l⟩,⟨Aa r,gM r,bM.eD r⟩,G7 ks⟩
theorem G7: ∀fs:List bA,wM fs (bA.ds fs)
 | []=>rfl
 |f::fs=>⟨_,_,rfl,vg f,G7 fs⟩
end
theorem vh: ∀{fs:List bA}{ds:List ba},wM fs ds->ds.length=fs.length
 | [],ds,h=>by simp only[wM]at h;subst h;rfl
 |f::fs,ds,h=>by obtain⟨d,Sa,rfl,_,h2⟩:=h;simp[vh h2]
theorem DQ: ∀{fs gs:List bA}{a b:List ba},wM fs a->wM gs b->wM (fs++gs) (a++b)
 | [],gs,a,b,h,hb=>by simp only[wM]at h;subst h;exact hb
 |f::fs,gs,a,b,h,hb=>by
  obtain⟨d,Sa,rfl,h1,h2⟩:=h;exact⟨d,Sa++b,rfl,h1,DQ h2 hb⟩
theorem ah.s6{h:aC}{Q:List Chunk}{aw n:Int}{aA:Test}{cells:List Cell}{a b:Int}{ao:List Int}{agg col:Int}{al:List ax}{l r:List (List Item)}{ks:List bA}{d:ba}{v:af}{F:List Nat}
  (hd:FD (.mk (.mk aw n aA cells a b ao agg col al) l r ks) d) (S:ah h (.cU d v F::Q)):
  ∃C K D L R KS Fp F1 F2 F3 sN,v= .agg (bB aw n aA C a b K agg col D [L,R,KS])/\wM ks sN/\C.bE=true/\K.bE=true/\D.bE=true/\
   ah h (.cU (.p (.mk aw n aA cells a b ao agg col al)) (lL aw n aA C a b K agg col D) Fp:: .xr l L F1:: .xr r R F2:: .cU (.s 22 sN) KS F3::Q):=by
    obtain⟨dl,dr,sN,rfl,h1,h2,h3⟩:=hd;obtain⟨vv,rfl,hu⟩:=gx.1 (show bP h _ v F from S.get 0 rfl);obtain⟨C,K,D,Fc,Fk,Fd,w1,G1,rfl,g1,g2,g3,rfl,UK⟩:=OY.1 hu;obtain⟨u2,w2,H2,G2,rfl,rfl,BZ,RK⟩:=Dg.1 UK;simp only[ep]at BZ;obtain⟨L,x2,H3,H4,rfl,rfl,gL,rfl,rfl⟩:=BZ;obtain⟨u4,w4,H5,G4,rfl,rfl,Yh,Z9⟩:=Dg.1 RK;simp only[ep]at Yh;obtain⟨R,x3,H6,H7,rfl,rfl,gR,rfl,rfl⟩:=Yh;obtain⟨KS,u6,H8,G6,rfl,rfl,gK,ho8⟩:=kD.1 Z9;obtain⟨rfl,rfl⟩:=eL.1 ho8;have xL:XR h l L H3:=⟨dl,gL,h1⟩;have xR:XR h r R H6:=⟨dr,gR,h2⟩;refine⟨C,K,D,L,R,KS,Fc++(Fk++Fd),H3,H6,H8,sN,by rw[xL.cell.1,xR.cell.1];rfl,h3,g1.cell.2,g2.cell.2,g3.cell.2,S.O3 [.cU (.p (.mk aw n aA cells a b ao agg col al)) (lL aw n aA C a b K agg col D) (Fc++(Fk++Fd)),.xr l L H3,.xr r R H6,.cU (.s 22 sN) KS H8] (by simp[Chunk.cU,Chunk.xr]) ?_⟩;intro e he;simp only[aW,List.not_mem_nil,or_false]at he;rcases he with rfl|rfl|rfl|rfl
    ·show bP _ _ _ _;unfold bP;exact jH.of g1 g2 g3
    ·exact xL
    ·exact xR
    ·exact gK
theorem ah.vi{h:aC}{Q:List Chunk}{aw n:Int}{aA:Test}{cells:List Cell}{a b:Int}{ao:List Int}{agg col:Int}{al:List ax}{l r:List (List Item)}{ks:List bA}{sN:List ba}{C K D L R KS:af}{Fp F1 F2 F3:List Nat}
  (hk:wM ks sN) (S:ah h (.cU (.p (.mk aw n aA cells a b ao agg col al)) (lL aw n aA C a b K agg col D) Fp:: .xr l L F1:: .xr r R F2:: .cU (.s 22 sN) KS F3::Q)):
  ∃d F,FD (.mk (.mk aw n aA cells a b ao agg col al) l r ks) d/\ah h (.cU d (.agg (bB aw n aA C a b K agg col D [L,R,KS])) F::Q):=by
   obtain⟨dl,gL,h1⟩:=(show XR h l L F1 from S.get 1 rfl);obtain⟨dr,gR,h2⟩:=(show XR h r R F2 from S.get 2 rfl);have xL:XR h l L F1:=S.get 1 rfl;have xR:XR h r R F2:=S.get 2 rfl;have hP:bP h (.p (.mk aw n aA cells a b ao agg col al)) (lL aw n aA C a b K agg col D) Fp:=S.get 0 rfl;have hK:bP h (.s 22 sN) KS F3:=S.get 3 rfl;refine⟨.g [.p (.mk aw n aA cells a b ao agg col al),.g [dl],.g [dr],.s 22 sN],Fp++((F1++[])++((F2++[])++(F3++[]))),⟨dl,dr,sN,rfl,h1,h2,hk⟩,ah.Tj [.cU (.p (.mk aw n aA cells a b ao agg col al)) (lL aw n aA C a b K agg col D) Fp,.xr l L F1,.xr r R F2,.cU (.s 22 sN) KS F3] S ?_ (by simp[Chunk.cU,Chunk.xr])⟩;refine gx.2 ⟨_,rfl,Dh hP ?_⟩;have e1:bP h (.g [dl]) (.agg [L]) (F1++[]):=gx.2 ⟨_,rfl,by have:=gJ (ds:=[]) (vs:=[]) (F2:=[]) gL (eL.2 ⟨rfl,rfl⟩);rw[xL.cell.1]at this;exact this⟩;have e2:bP h (.g [dr]) (.agg [R]) (F2++[]):=gx.2 ⟨_,rfl,by have:=gJ (ds:=[]) (vs:=[]) (F2:=[]) gR (eL.2 ⟨rfl,rfl⟩);rw[xR.cell.1]at this;exact this⟩;exact gJ e1 (gJ e2 (iF hK gE))
theorem vj(hp:bV pr){l:List (List Item)}{z:List Item}{L m0:af}{F G:List Nat}{h:aC}{Q:List Chunk}(hl:l.length<=5)(hr: ∀r∈l,c7 r=true)(hz:c7 z=true)(S:ah h (.xr l L F:: .cU (aE.d z) m0 G::Q)):
  ∃h2,bN (du pr) (call (du pr)) 150 [.agg [L],m0] h=some (.ret (.dX [.agg [bM.enc (nX l z).1],.bool (nX l z).2]) h2)/\ah h2 Q/\h.length<=h2.length:=by
   obtain⟨d,ho,h1,h2,he,_⟩:=(show XR h l L F from S.get 0 rfl).cU;have oz:bP h (aE.d z) m0 G:=S.get 1 rfl;have S1:ah h (.dy [.g [d],aE.d z] [.agg [L],m0] (F++G)::Q):=ah.Tj [.xr l L F,.cU (aE.d z) m0 G] S (eW ho oz) (by simp[Chunk.dy,Chunk.xr,Chunk.cU]);refine PJ (ds:=[.g [d],aE.d z]) rfl S1 (by simp[ba.nW,ba.Bn,h1,wD]) (by have:=j0 z;simp only[ba.cZ,ba.dep];omega) ?_;rw[show ba.cz [.g [d],aE.d z]=[.agg [bM.enc l],aE.enc z]from by simp only[ba.cz,he,aE.eD]];exact RT hp l z hl hr hz
def fV(aw:Int)(l r al:List (List Item)):List (List Item)×List (List Item)×Bool:=
 if aw=4 then((nX l (gD al 0)).1,(nX r (gD al 1)).1,(nX l (gD al 0)).2&&(nX r (gD al 1)).2)
 else if aw=6∨aw=7 then((nX l (gD al 0)).1,r,(nX l (gD al 0)).2)
 else(l,r,true)
theorem DR{outs:List (List Item)}{i:Nat}(h:i<outs.length):outs[i]?=some (gD outs i):=by simp[gD,h]
theorem vl{outs:List (List Item)}{i:Nat}(h:i<outs.length):gD outs i∈outs:=by simp[gD,h]
theorem G8{outs:List (List Item)}{i:Nat}(h:i<outs.length):outs.drop i=gD outs i::outs.drop (i+1):=by
 rw[ar h];simp[gD,h]
theorem ah.P5{h:aC}{Q:List Chunk}{outs:List (List Item)}{M:af}{FM:List Nat}(S:ah h (.iA 1 (outs.map aE.d) M FM::Q))(hl:1<=outs.length):
  ∃id v0 vs G0 Gs,M= .own id 0 outs.length/\ah h (.cU (aE.d (gD outs 0)) v0 G0:: .dy ((outs.drop 1).map aE.d) vs Gs:: .row id (.arr 1 (v0::vs))::Q):=by
   rcases ah.uK S with⟨h0,_,_⟩|⟨id,vs,Fs,rfl,S1⟩
   ·simp at h0;subst h0;simp at hl
   ·rw[show outs.map aE.d=aE.d (gD outs 0)::(outs.drop 1).map aE.d by
     have:=G8 (outs:=outs) (i:=0) (by omega);rw[List.drop_zero]at this;rw[<-aM,<-this]]at S1
    obtain⟨v0,eo,G0,G1,rfl,rfl,S2⟩:=ah.tD S1.swap;exact⟨id,v0,eo,G0,G1,by simp,S2⟩
theorem An(hp:bV pr){aw n:Int}{aA:Test}{cells:List Cell}{a b:Int}{ao:List Int}{agg col:Int}{al:List ax}{l r outs:List (List Item)}{sN:List ba}{C K0 D L R KS M:af}{Fp F1 F2 F3 FM:List Nat}{h:aC}{Q:List Chunk}
  (hl:l.length<=5/\ ∀z∈l,c7 z=true) (hr:r.length<=5/\ ∀z∈r,c7 z=true) (ho: ∀z∈outs,c7 z=true) (h4:aw=4->2<=outs.length) (h6:aw=6∨aw=7->1<=outs.length) (c1:C.bE=true) (c2:K0.bE=true) (c3:D.bE=true)
  (S:ah h (.iA 1 (outs.map aE.d) M FM:: .cU (.p (.mk aw n aA cells a b ao agg col al)) (lL aw n aA C a b K0 agg col D) Fp:: .xr l L F1:: .xr r R F2:: .cU (.s 22 sN) KS F3::Q)) {K:dz->Prop}
  (hK: ∀L' R' G1 G2 h',ah h' (.cU (.p (.mk aw n aA cells a b ao agg col al)) (lL aw n aA C a b K0 agg col D) Fp:: .xr (fV aw l r outs).1 L' G1:: .xr (fV aw l r outs).2.1 R' G2:: .cU (.s 22 sN) KS F3::Q)->K (.ret (.dX [.agg (bB aw n aA C a b K0 agg col D [L',R',KS]),.bool (fV aw l r outs).2.2]) h')):
  ∃r,bN (du pr) (call (du pr)) 134 [.agg (bB aw n aA C a b K0 agg col D [L,R,KS]),M] h=some r/\K r:=by
   have aN:fV aw l r outs=fV aw l r outs:=rfl;conv at aN=>rhs;unfold fV
   generalize fV aw l r outs=res at aN hK;have cL:=(show XR h l L F1 from S.get 2 rfl).cell;have cR:=(show XR h r R F2 from S.get 3 rfl).cell;have cK:=(show bP h (.s 22 sN) KS F3 from S.get 4 rfl).cell;have aD:(bB aw n aA C a b K0 agg col D [L,R,KS]).all af.bE=true:=nU c1 c2 c3 (bC cL.2 (bC cR.2 (bC cK.2 rfl)));rw[mh rfl];refine cS (hp.out _ rfl) ?_;conv=>whnf
   intro k1 a1 dw dC;replace S:=S.alloc dw dC;conv=>whnf
   intro k2 a2 jf iB;replace S:=S.alloc jf iB;conv=>whnf
   refine aI (S.row 1 rfl) ?_;conv=>whnf
   refine ae (fun g1=>?_) (fun g1=>?_)
   ·have n4:aw≠4:=by simpa using g1
    rw[if_neg n4]at aN;conv=>whnf
    refine ae (fun g2=>?_) (fun g2=>?_)
    ·have n6:aw≠6:=by simpa using g2
     conv=>whnf
     refine ae (fun g3=>?_) (fun g3=>?_)
     ·have n7:aw≠7:=by simpa using g3
      rw[if_neg (by omega)]at aN;subst aN;conv=>whnf
      refine aI (S.row 1 rfl) ?_;conv=>whnf
      refine⟨(bB aw n aA C a b K0 agg col D [L,R,KS]),(by kernel_rfl),rfl,aD,.inl ⟨_,S.row 0 rfl,rfl,?_⟩⟩;conv=>whnf
      intro a8 eE;replace S:=S.w0 eE;conv=>whnf
      exact⟨_,aR rfl rfl (S.row 0 rfl) rfl rfl,hK L R _ _ _ (((S.drop 0).drop 0).drop 0)⟩
     ·have e7:aw=7:=by simpa using g3
      subst e7;have n1:=h6 (.inr rfl);conv=>whnf
      replace S:=S.q2;obtain⟨idm,v0,vs,G0,Gs,rfl,S1⟩:=ah.P5 S n1;replace S:=S1;clear S1;have uX:ff (du pr).P 30 v0 0=some v0:=by rcases(show bP _ (.s 2 ((gD outs 0).map Item.d)) v0 G0 from S.get 0 rfl).slice with rfl|rfl|⟨_,_,rfl⟩<;>rfl
      refine aI (S.row 4 rfl) ?_;conv=>whnf
      refine⟨v0::vs,S.row 2 rfl,⟨by omega,by simp;omega⟩,?_⟩;conv=>whnf
      refine .inr ⟨_,_,v0,S.row 2 rfl,rfl,eV (v:=v0) uX ?_⟩;conv=>whnf
      intro k3 a3 kS jN;replace S:=S.alloc kS jN;replace S:=S.q7;replace S:=S.q2;obtain⟨q3,qy,S3,_⟩:=vj hp hl.1 hl.2 (ho _ (vl (by omega))) S.swap;generalize nX l (gD outs 0)=pq at aN qy;obtain⟨pl,pb⟩:=pq;dsimp only at aN qy;cases pb
      all_goals
       conv=>whnf
       refine⟨_,qy,?_⟩;clear S qy;have S:=ah.My pl S3;clear S3;conv=>whnf
       refine⟨?_,?_⟩
       ·conv=>whnf
        refine⟨?_,?_⟩
        ·conv=>whnf
         exact⟨k3,rfl,S.row 1 rfl⟩
        ·trivial
       conv=>whnf
       refine⟨_,rfl,rfl,rfl,.inl ⟨_,S.row 1 rfl,rfl,?_⟩⟩;conv=>whnf
       intro b1 eN;replace S:=S.w1 eN;conv=>whnf
       refine aI (S.row 1 rfl) ?_;conv=>whnf
       refine⟨_,rfl,rfl,rfl,.inl ⟨_,S.row 5 rfl,rfl,?_⟩⟩;conv=>whnf
       intro b2 dB;replace S:=S.w5 dB;conv=>whnf
       rw[if_pos (by decide)]at aN;subst aN;conv=>whnf
       refine aI (S.row 5 rfl) ?_;conv=>whnf
       refine⟨(bB 7 n aA C a b K0 agg col D [bM.enc pl,R,KS]),(by kernel_rfl),rfl,(nU c1 c2 c3 (bC rfl (bC cR.2 (bC cK.2 rfl)))),.inl ⟨_,S.row 4 rfl,rfl,?_⟩⟩;conv=>whnf
       intro b3 gg;replace S:=S.w4 gg;conv=>whnf
       exact⟨_,aR rfl rfl (S.row 4 rfl) rfl rfl,hK (bM.enc pl) R _ _ _ (((((S.drop 1).drop 1).drop 1).drop 1).drop 1).swap⟩
    ·have e6:aw=6:=by simpa using g2
     subst e6;have n1:=h6 (.inl rfl);conv=>whnf
     replace S:=S.q2;obtain⟨idm,v0,vs,G0,Gs,rfl,S1⟩:=ah.P5 S n1;replace S:=S1;clear S1;have uX:ff (du pr).P 30 v0 0=some v0:=by rcases(show bP _ (.s 2 ((gD outs 0).map Item.d)) v0 G0 from S.get 0 rfl).slice with rfl|rfl|⟨_,_,rfl⟩<;>rfl
     refine aI (S.row 4 rfl) ?_;conv=>whnf
     refine⟨v0::vs,S.row 2 rfl,⟨by omega,by simp;omega⟩,?_⟩;conv=>whnf
     refine .inr ⟨_,_,v0,S.row 2 rfl,rfl,eV (v:=v0) uX ?_⟩;conv=>whnf
     intro k3 a3 kS jN;replace S:=S.alloc kS jN;replace S:=S.q7;replace S:=S.q2;obtain⟨q3,qy,S3,_⟩:=vj hp hl.1 hl.2 (ho _ (vl (by omega))) S.swap;generalize nX l (gD outs 0)=pq at aN qy;obtain⟨pl,pb⟩:=pq;dsimp only at aN qy;cases pb
     all_goals
      conv=>whnf
      refine⟨_,qy,?_⟩;clear S qy;have S:=ah.My pl S3;clear S3;conv=>whnf
      refine⟨?_,?_⟩
      ·conv=>whnf
       refine⟨?_,?_⟩
       ·conv=>whnf
        exact⟨k3,rfl,S.row 1 rfl⟩
       ·trivial
      conv=>whnf
      refine⟨_,rfl,rfl,rfl,.inl ⟨_,S.row 1 rfl,rfl,?_⟩⟩;conv=>whnf
      intro b1 eN;replace S:=S.w1 eN;conv=>whnf
      refine aI (S.row 1 rfl) ?_;conv=>whnf
      refine⟨_,rfl,rfl,rfl,.inl ⟨_,S.row 5 rfl,rfl,?_⟩⟩;conv=>whnf
      intro b2 dB;replace S:=S.w5 dB;conv=>whnf
      rw[if_pos (by decide)]at aN;subst aN;conv=>whnf
      refine aI (S.row 5 rfl) ?_;conv=>whnf
      refine⟨(bB 6 n aA C a b K0 agg col D [bM.enc pl,R,KS]),(by kernel_rfl),rfl,(nU c1 c2 c3 (bC rfl (bC cR.2 (bC cK.2 rfl)))),.inl ⟨_,S.row 4 rfl,rfl,?_⟩⟩;conv=>whnf
      intro b3 gg;replace S:=S.w4 gg;conv=>whnf
      exact⟨_,aR rfl rfl (S.row 4 rfl) rfl rfl,hK (bM.enc pl) R _ _ _ (((((S.drop 1).drop 1).drop 1).drop 1).drop 1).swap⟩
   ·have e4:aw=4:=by simpa using g1
    subst e4;have n1:=h4 rfl;rw[if_pos rfl]at aN;conv=>whnf
    replace S:=S.q2;obtain⟨idm,v0,vs,G0,Gs,rfl,S1⟩:=ah.P5 S (by omega);replace S:=S1;clear S1;have uX:ff (du pr).P 30 v0 0=some v0:=by rcases(show bP _ (.s 2 ((gD outs 0).map Item.d)) v0 G0 from S.get 0 rfl).slice with rfl|rfl|⟨_,_,rfl⟩<;>rfl
    refine aI (S.row 4 rfl) ?_;conv=>whnf
    refine⟨v0::vs,S.row 2 rfl,⟨by omega,by simp;omega⟩,?_⟩;conv=>whnf
    refine .inr ⟨_,_,v0,S.row 2 rfl,rfl,eV (v:=v0) uX ?_⟩;conv=>whnf
    intro k3 a3 kS jN;replace S:=S.alloc kS jN;replace S:=S.q7;replace S:=S.q2;obtain⟨q3,qy,S3,_⟩:=vj hp hl.1 hl.2 (ho _ (vl (by omega))) S.swap;generalize nX l (gD outs 0)=pq at aN qy;obtain⟨pl,pb⟩:=pq;dsimp only at aN qy;cases pb
    all_goals
     conv=>whnf
     refine⟨_,qy,?_⟩;clear S qy;have S:=ah.My pl S3;clear S3;conv=>whnf
     refine⟨?_,?_⟩
     ·conv=>whnf
      refine⟨?_,?_⟩
      ·conv=>whnf
       exact⟨k3,rfl,S.row 1 rfl⟩
      ·trivial
     conv=>whnf
     refine⟨_,rfl,rfl,rfl,.inl ⟨_,S.row 1 rfl,rfl,?_⟩⟩;conv=>whnf
     intro b1 eN;replace S:=S.w1 eN;conv=>whnf
     refine aI (S.row 1 rfl) ?_;conv=>whnf
     refine⟨_,rfl,rfl,rfl,.inl ⟨_,S.row 5 rfl,rfl,?_⟩⟩;conv=>whnf
     intro b2 dB;replace S:=S.w5 dB;conv=>whnf
     conv=>whnf
     rw[G8 (outs:=outs) (i:=1) (by omega)]at S;replace S:=S.q2;obtain⟨v9,vs9,G9,H9,rfl,rfl,S9⟩:=ah.tD S;clear S;have S:=S9;clear S9;have UR:ff (du pr).P 30 v9 0=some v9:=by rcases(show bP _ (.s 2 ((gD outs 1).map Item.d)) v9 G9 from S.get 0 rfl).slice with rfl|rfl|⟨_,_,rfl⟩<;>rfl
     refine aI (S.row 6 rfl) ?_;conv=>whnf
     refine⟨v0::v9::vs9,S.row 4 rfl,⟨by omega,by omega⟩,?_⟩;conv=>whnf
     refine .inr ⟨_,_,v9,S.row 4 rfl,rfl,eV (v:=v9) UR ?_⟩;conv=>whnf
     intro k4 a4 tN pM;replace S:=S.alloc tN pM;replace S:=S.q9;replace S:=S.q2;obtain⟨q4,Sb,S4,_⟩:=vj hp hr.1 hr.2 (ho _ (vl (by omega))) S.swap;generalize nX r (gD outs 1)=pq2 at aN Sb;obtain⟨ql,qb⟩:=pq2;dsimp only at aN Sb;cases qb
     all_goals
      conv=>whnf
      refine⟨_,Sb,?_⟩;clear S Sb;have S:=ah.My ql S4;clear S4;conv=>whnf
      refine⟨?_,?_⟩
      ·conv=>whnf
       refine⟨?_,?_⟩
       ·conv=>whnf
        exact⟨k4,rfl,S.row 1 rfl⟩
       ·trivial
      conv=>whnf
      refine⟨_,rfl,rfl,rfl,.inl ⟨_,S.row 1 rfl,rfl,?_⟩⟩;conv=>whnf
      intro b4 iH;replace S:=S.w1 iH;conv=>whnf
      refine aI (S.row 1 rfl) ?_;conv=>whnf
      refine⟨_,rfl,rfl,rfl,.inl ⟨_,S.row 7 rfl,rfl,?_⟩⟩;conv=>whnf
      intro b5 iZ;replace S:=S.w7 iZ;conv=>whnf
      subst aN;conv=>whnf
      refine aI (S.row 7 rfl) ?_;conv=>whnf
      refine⟨(bB 4 n aA C a b K0 agg col D [bM.enc pl,bM.enc ql,KS]),(by kernel_rfl),rfl,(nU c1 c2 c3 (bC rfl (bC rfl (bC cK.2 rfl)))),.inl ⟨_,S.row 6 rfl,rfl,?_⟩⟩;conv=>whnf
      intro b6 rU;replace S:=S.w6 rU;conv=>whnf
      exact⟨_,aR rfl rfl (S.row 6 rfl) rfl rfl,hK (bM.enc pl) (bM.enc ql) _ _ _ (((((((S.drop 1).drop 1).drop 2).drop 2).drop 2).drop 2).swap.front 2 rfl)⟩
end Go.Proofs.YtfepbikckfehlaaGreat

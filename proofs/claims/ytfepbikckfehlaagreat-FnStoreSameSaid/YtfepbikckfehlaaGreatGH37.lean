/- A flow's runs merged: the reference's. -/
import Derived.Test.YtfepbikckfehlaaGreatGH36
import Derived.Test.YtfepbikckfehlaaGreatGH29
set_option linter.unusedVariables false
set_option linter.unusedSimpArgs false
set_option maxHeartbeats 4000000
namespace Go.Proofs.YtfepbikckfehlaaGreat
open Go Go.Am
variable{pr:bW}(hp:cF pr)
set_option maxRecDepth 100000
theorem tw{ws:List Int}: ∀(d:Nat)(f:bz)(w:Int),mT ws d f w->f.d.dep<=200030+2*d
 |0,f,w,h=>h.elim
 |d+1,.mk (.mk au n aD cells a b aq agg col qs) l r ks,w,h=>by
  obtain⟨h1,_,_,_,_,_,wk,h7,_,h9⟩:=h;have h2:=iW l;have h3:=iW r
  have key: ∀xs:List bz,(∀k∈xs,k.d.dep<=200030+2*d)->bg.dO (bz.ds xs)<=200030+2*d:=by
   intro xs
   induction xs with
   |nil=>intro _;simp only[bz.ds,bg.dO];omega
   |cons x xs ih=>intro h;have:=ih fun k hk=>h k (by simp[hk]);have:=h x (by simp);simp only[bz.ds,bg.dO];omega
  have h4:=key ks fun k hk=>by
   obtain⟨i,hi,rfl⟩:=List.mem_iff_getElem.1 hk;exact tw d _ _ (h9 i _ wk[i] (aab hi) (aab (by omega)))
  simp only[bz.d,bg.dep,bg.dO];omega
theorem fB{P:Program}{fn:Func}{st:St}{d t k a b:Nat}{x v u w:af}(hr:fn.results.toList=[.cell d t,.tmp a,.tmp b])(ht:st.tm d= .ptr k 0 0)(hk:st.hp[k]?=some (.box x))(hv:fZ P t x 0=some v)(hu:st.tm a=u)(hw:st.tm b=w):qx P fn (some (.ret st))=some (.ret (.eT [v,u,w]) st.hp):=by
 have h1:kM P st (.cell d t)=some v:=by
  simp only[kM,ht,ku,hk,if_true,hv]
 have h2:kM P st (.tmp a)=some u:=by simp only[kM,hu]
 have h3:kM P st (.tmp b)=some w:=by simp only[kM,hw]
 simp only[qx,hr,di,h1,h2,h3,aaL];rfl
theorem mu{α:Type}{A B:List α}{x y:α}{j:Nat}(h:A.length=j):(A++x::B).set j y=A++y::B:=by
 subst h;rw[List.set_append_right _ _ (aah _),Nat.sub_self];rfl
theorem aj.D6{h:aG}{L:List Chunk}{A B:List bg}{d:bg}{vs:List af}{F:List Nat}(S:aj h (.ed (A++d::B) vs F::L)):
  ∃VA v VB FA G FB,vs=VA++v::VB/\VA.length=A.length/\aj h (.dL d v G:: .ed A VA FA:: .ed B VB FB::L):=by
   obtain⟨v1,v2,F1,F2,rfl,rfl,h1,h2⟩:=o6 (show cZ h (A++d::B) vs F from S.get 0 rfl);simp only[cZ]at h2;obtain⟨v,fx,G1,G2,rfl,rfl,h3,h4⟩:=h2;refine⟨v1,v,fx,F1,G1,G2,rfl,iw h1,((S.Q2 [.ed A v1 F1,.dL d v G1,.ed B fx G2] (by simp[Chunk.ed,Chunk.dL]) ?_)).swap⟩;intro e he;simp only[aaz,List.not_mem_nil,or_false]at he;rcases he with rfl|rfl|rfl
   ·exact h1
   ·exact h3
   ·exact h4
theorem aj.CT{h:aG}{L:List Chunk}{A B:List bg}{d:bg}{VA VB:List af}{v:af}{FA G FB:List Nat}(S:aj h (.dL d v G:: .ed A VA FA:: .ed B VB FB::L)):aj h (.ed (A++d::B) (VA++v::VB) (FA++(G++FB))::L):=by
 have S1:=S.swap;refine aj.U5 [.ed A VA FA,.dL d v G,.ed B VB FB] S1 ?_ (by simp[Chunk.ed,Chunk.dL]);refine lB (S1.get 0 rfl) ?_;simp only[cZ];exact⟨v,VB,G,FB,rfl,rfl,S1.get 1 rfl,S1.get 2 rfl⟩
theorem zo{aK:List (List Item)}: ∀{xs:List bz}{k:bz},jx (xs++[k]) aK=(match jx xs aK with
 |none=>none
 |some (a,o)=>match jg k aK with
  |none=>none
  |some (k',d)=>some (a++[k'],o++[d]))
 | [],k=>by
  simp only[List.nil_append,jx]
  cases jg k aK<;>rfl
 |x::xs,k=>by
  simp only[abD,jx,zo (xs:=xs) (k:=k)]
  cases jg x aK with
  |none=>rfl
  |some p=>
   cases jx xs aK with
   |none=>rfl
   |some q=>
    cases jg k aK<;>rfl
theorem zp{aK:List (List Item)}: ∀{xs ys:List bz},jx xs aK=none->jx (xs++ys) aK=none
 | [],ys,h=>by simp[jx]at h
 |x::xs,ys,h=>by
  simp only[abD,jx]at h⊢
  cases h1:jg x aK with
  |none=>rfl
  |some p=>
   rw[h1]at h;simp only at h⊢
   cases h2:jx xs aK with
   |none=>rw[zp h2]
   |some q=>rw[h2]at h;cases h
theorem FI{ws:List Int}{aK:List (List Item)}(ht: ∀(i:Nat) z v,aK[i]?=some z->ws[i]?=some v->dS z=true/\eB v z){d:Nat}{ks kC:List bz}{outs:List (List Item)}{wk:List Int}(h7:wk.length=ks.length)(h9: ∀(i:Nat) k v,ks[i]?=some k->wk[i]?=some v->mT ws d k v)
  (hs:jx ks aK=some (kC,outs)):kC.length=ks.length/\outs.length=wk.length/\kC.map bz.ez=ks.map bz.ez/\(∀(i:Nat) k v,kC[i]?=some k->wk[i]?=some v->mT ws d k v)/\(∀(i:Nat) z v,outs[i]?=some z->wk[i]?=some v->dS z=true/\eB v z)/\ ∀z∈outs,dS z=true:=by
   obtain⟨g1,g2,g3⟩:=pA hs
   have Lu: ∀(i:Nat) v,wk[i]?=some v-> ∃k k' o,ks[i]?=some k/\kC[i]?=some k'/\outs[i]?=some o/\mT ws d k' v/\dS o=true/\eB v o/\k'.ez=k.ez:=fun i v hv=>by
    have hi:i<ks.length:=by rw[<-h7];exact(aag.1 hv).1
    obtain⟨k',o,e1,e2,e3⟩:=g3 i ks[i] (aab hi);obtain⟨q1,q2,q3,q4⟩:=ud ht d _ _ v _ (h9 i _ v (aab hi) hv) e1;exact⟨_,_,_,aab hi,e2,e3,q1,q2,q3,q4⟩
   have ho: ∀(i:Nat) z v,outs[i]?=some z->wk[i]?=some v->dS z=true/\eB v z:=fun i z v hz hv=>by
    obtain⟨k,k',o,_,_,e3,_,q2,q3,_⟩:=Lu i v hv;rw[hz]at e3;cases e3;exact⟨q2,q3⟩
   refine⟨g1,by omega,?_,fun i k v hk hv=>?_,ho,fun z hz=>?_⟩
   ·apply List.ext_getElem?;intro i;rw[aba,aba]
    by_cases hi:i<ks.length
    ·obtain⟨k,k',o,e1,e2,_,_,_,_,q4⟩:=Lu i wk[i] (aab (by omega));rw[e1,e2];simp[q4]
    ·rw[List.getElem?_eq_none (by omega),List.getElem?_eq_none (by omega)]
   ·obtain⟨k2,k',o,_,e2,_,q1,_⟩:=Lu i v hv;rw[hk]at e2;cases e2;exact q1
   ·obtain⟨i,hi,rfl⟩:=List.mem_iff_getElem.1 hz;exact(ho i _ wk[i] (aab hi) (aab (by omega))).1
theorem rY{ws:List Int}{au n:Int}{cells:List Cell}{aq:List Int}{l r:List (List Item)}{wk:List Int}{w:Int}(h:yp ws au n cells aq l r wk w):(au=1->0<=n)/\BN au<=wk.length/\(au=4->2<=wk.length)/\(au=6∨au=7->1<=wk.length)/\wk.length<=2:=by
 rcases h with⟨rfl,KA,rfl,hw⟩|⟨rfl,rfl⟩|⟨rfl,h3,rfl⟩|⟨rfl,a',b',rfl,rfl,gl,gr⟩|⟨rfl,rfl⟩|⟨rfl,rfl,gl⟩|⟨rfl,rfl,a',rfl,gl⟩<;>simp[BN]<;>omega
def gY(aK:List (List Item))(au n:Int)(aD:Test)(cells:List Cell)(a b:Int)(aq:List Int)(agg col:Int)(qs:List aA)(l r:List (List Item))(ks:List bz)(Q:List Chunk)(res:ef):Prop:=
 match jg (.mk (.mk au n aD cells a b aq agg col qs) l r ks) aK with
 |none=>∃C K D L R KS w h',res= .ret (.eT [.agg (bL au n aD C a b K agg col D [L,R,KS]),w,.bool false]) h'/\(bL au n aD C a b K agg col D [L,R,KS]).all af.bQ=true/\(w= .nil∨w= .sl []∨ ∃id n,w= .own id 0 n)/\aj h' Q
 |some (f',out)=>∃v' w d' F' G h',res= .ret (.eT [v',w,.bool true]) h'/\FD f' d'/\aj h' (.dL d' v' F':: .dL (aI.d out) w G::Q)
theorem BW(hp:cF pr){ws:List Int}{aK:List (List Item)}(ht: ∀(i:Nat) z v,aK[i]?=some z->ws[i]?=some v->dS z=true/\eB v z)(UM:aK.length<=1000/\ ∀z∈aK,dS z=true)(tv:af):
  ∀(d:Nat),d<=100-> ∀(au n:Int)(aD:Test)(cells:List Cell)(a b:Int)(aq:List Int)(agg col:Int)(qs:List aA)(l r:List (List Item))(ks:List bz)(w:Int),mT ws d (.mk (.mk au n aD cells a b aq agg col qs) l r ks) w->
  ∀(dd:bg)(v:af)(F:List Nat)(h:aG)(Q:List Chunk),FD (.mk (.mk au n aD cells a b aq agg col qs) l r ks) dd->aj h (.dL dd v F::Q)->(∀h',aj h' Q->Am.snap h' tv=some (bX.enc aK))->
  ∃res,cj (dZ pr) (call (dZ pr)) 113 [v,tv] h=some res/\gY aK au n aD cells a b aq agg col qs l r ks Q res:=by
   intro d
   induction d with
   |zero=>intro _ au n aD cells a b aq agg col qs l r ks w h;exact h.elim
   |succ d ih=>
    intro hd au n aD cells a b aq agg col qs l r ks w eb dd v F h Q XI S hT;have afQ:=eb;obtain⟨h1,h2,h3,h4,h5,h6,wk,h7,h8,h9⟩:=eb;obtain⟨C,K,D,L,R,KS,Fp,F1,F2,F3,ur,rfl,JW,c1,c2,c3,S1⟩:=aj.uC XI S;replace S:=S1;clear S1;have cL:=(show XR h l L F1 from S.get 1 rfl).cell;have cR:=(show XR h r R F2 from S.get 2 rfl).cell;have cK:=(show cq h (.s 22 ur) KS F3 from S.get 3 rfl).cell;have aF:(bL au n aD C a b K agg col D [L,R,KS]).all af.bQ=true:=pP c1 c2 c3 (bM cL.2 (bM cR.2 (bM cK.2 rfl)));rw[nN rfl];refine dJ (hp.out _ rfl) ?_;conv=>whnf
    intro k1 a1 eg er;replace S:=S.alloc eg er;conv=>whnf
    intro k2 a2 jS jb;replace S:=S.alloc jS jb;conv=>whnf
    have PW:ur.length=ks.length:=xa JW
    have hKS:(KS= .nil/\ks.length=0)∨(KS= .sl []/\ks.length=0)∨ ∃id,KS= .own id 0 ks.length:=by
     have ho:cq a2 (.s 22 ur) KS F3:=S.get 5 rfl;simp only[cq]at ho;rcases ho with⟨rfl,_,rfl|rfl⟩|⟨id,vs,Fs,rfl,_⟩
     ·exact .inl ⟨rfl,PW.symm⟩
     ·exact .inr (.inl ⟨rfl,PW.symm⟩)
     ·exact .inr (.inr ⟨id,by rw[PW]⟩)
    have Dd:ks.length<=100000:=by have:(aA.mk au n aD cells a b aq agg col qs).sz<=300:=h1;rw[<-h6]at this;simp only[aA.sz,aat]at this;omega
    replace S:=S.q5;replace S:=aj.lJ 1 S
    refine dQ (fun m tm hp=>∃(j:Nat)(M:af)(FM F:List Nat)(nR:List bz)(outs:List (List Item))(xe rest:List bg),j+m=ks.length/\tm 7=M/\tm 8=i64 (j:Nat)/\yl nR xe/\yl (ks.drop j) rest/\jx (ks.take j) aK=some (nR,outs)/\
     aj hp (.jA 1 (outs.map aI.d) M FM:: .dL (.s 22 (xe++rest)) KS F:: .row k2 (.box MF):: .row k1 (.box (.agg (bL au n aD C a b K agg col D [L,R,KS]))):: .dL (.p (.mk au n aD cells a b aq agg col qs)) (nb au n aD C a b K agg col D) Fp:: .xr l L F1:: .xr r R F2::Q))
     (fun m tm hq bG hI=>?_) ks.length ⟨0,.nil,[],F3,[],[],[],ur,by simp,rfl,rfl,rfl,JW,rfl,S⟩
    clear S JW PW;obtain⟨j,M,FM,F,nR,outs,xe,rest,hj,e7,e8,rZ,pB,mw,S⟩:=hI;have e1:=bG 1 (by kernel_rfl);conv at e1=>rhs;whnf
    have e2:=bG 2 (by kernel_rfl);conv at e2=>rhs;whnf
    have e4:=bG 4 (by kernel_rfl);conv at e4=>rhs;whnf
    refine⟨[(1,_),(2,_),(4,_),(7,_),(8,_)],⟨e1,e2,e4,e7,e8,trivial⟩,?_⟩;clear bG e1 e2 e4 e7 e8;have gA:j<4611686018427387904:=by omega
    refine aC (S.row 3 rfl) ?_;conv=>whnf
    rcases hKS with⟨rfl,hn⟩|⟨rfl,hn⟩|⟨id,rfl⟩
    rotate_left 2
    ·conv=>whnf
     refine ae (fun g1=>?_) (fun g1=>?_)
     ·have bp:j<ks.length:=by simpa using g1
      rw[aaf bp]at pB;obtain⟨dk,RV,rfl,WN,WO⟩:=pB;have hwj:wk[j]?=some wk[j]:=aab (by omega);have Sr:=h9 j _ _ (aab bp) hwj;have uu:=zo (aK:=aK) (xs:=ks.take j) (k:=ks[j]);rw[<-dX bp,mw]at uu;simp only at uu;have Zc:jx (ks.take (j+1)) aK=none->jx ks aK=none:=fun h=>by rw[<-List.take_append_drop (j+1) ks];exact zp h
      generalize ks[j]=q at WN Sr uu;obtain⟨⟨cG,n',dq,bR,a',b',cH,dE,ke,Zd⟩,l',r',kC⟩:=q;replace S:=S.swap;rcases aj.open S with⟨hx,_,_⟩|⟨zS,vs,Fs,dm,rfl,S1⟩
      ·simp at hx
      injection dm with vt _ FJ;subst vt;obtain⟨VA,v,VB,FA,G,FB,rfl,YV,S2⟩:=aj.D6 S1.swap;clear S S1;have S:=S2;clear S2;obtain⟨C',K',D',L',R',WG,Fp',F1',F2',F3',ab8,rfl,WQ,c1',c2',c3',Sx⟩:=aj.uC WN S;clear Sx WQ c1' c2' c3';have Pl:VA.length=j:=by rw[YV,xa rZ,(pA mw).1];simp;omega
      have sf:(VA++af.agg (bL cG n' dq C' a' b' K' dE ke D' [L',R',WG])::VB)[0+((j:Nat):Int).toNat]?=some (af.agg (bL cG n' dq C' a' b' K' dE ke D' [L',R',WG])):=by
       rw[aaK,aaa,<-Pl];simp
      refine aC (S.row 6 rfl) ?_;conv=>whnf
      refine⟨_,S.row 3 rfl,⟨by omega,by omega⟩,?_⟩;conv=>whnf
      refine .inr ⟨_,_,_,S.row 3 rfl,sf,?_⟩;conv=>whnf
      obtain⟨res,hc,jH⟩:=ih (by omega) cG n' dq bR a' b' cH dE ke Zd l' r' kC _ Sr dk _ _ _ _ WN S fun h' S'=>hT h' (S'.nQ 9);refine⟨_,hc,?_⟩;clear hc S Sr;unfold gY at jH
      cases Cr:jg (.mk (.mk cG n' dq bR a' b' cH dE ke Zd) l' r' kC) aK with
      |none=>
       rw[Cr]at jH uu;obtain⟨C2,K2,D2,L2,R2,so,w2,Dc,rfl,dR,CQ,S1⟩:=jH;have S:=S1;clear S1;have e:jg (.mk (.mk au n aD cells a b aq agg col qs) l r ks) aK=none:=by simp only[jg,Zc uu]
       rcases CQ with rfl|rfl|⟨i9,n9,rfl⟩
       all_goals
        conv=>whnf
        intro k5 a5 CS qJ;replace S:=S.alloc CS qJ;conv=>whnf
        refine⟨(bL cG n' dq C2 a' b' K2 dE ke D2 [L2,R2,so]),(by kernel_rfl),rfl,dR,.inl ⟨_,S.row 0 rfl,rfl,?_⟩⟩;conv=>whnf
        intro b1 fw;replace S:=S.w0 fw;refine aC (S.row 6 rfl) ?_;conv=>whnf
        refine⟨(bL au n aD C a b K agg col D [L,R,.own id 0 ks.length]),(by kernel_rfl),rfl,aF,.inl ⟨_,S.row 5 rfl,rfl,?_⟩⟩;conv=>whnf
        intro b2 ea;replace S:=S.w5 ea;conv=>whnf
        exact⟨_,fB rfl rfl (S.row 5 rfl) rfl rfl rfl,by unfold gY;rw[e];exact⟨C,K,D,L,R,_,.nil,_,rfl,aF,.inl rfl,S.nQ 10⟩⟩
      |some p=>
       obtain⟨q',o⟩:=p;rw[Cr]at jH uu;obtain⟨v2,w2,d2,G2,H2,Dc,rfl,mU,S1⟩:=jH;have S:=S1;clear S1;obtain⟨⟨kd,nn,tt,cc,ta,tb,kk,ag,cl,qq⟩,ll,rr,fk⟩:=q';obtain⟨C2,K2,D2,L2,R2,so,Ze,X1,X2,X3,RW,rfl,BX,y1,y2,y3,Sx⟩:=aj.uC mU S;have dR:(bL kd nn tt C2 ta tb K2 ag cl D2 [L2,R2,so]).all af.bQ=true:=pP y1 y2 y3 (bM (show XR _ ll L2 X1 from Sx.get 1 rfl).cell.2 (bM (show XR _ rr R2 X2 from Sx.get 2 rfl).cell.2 (bM (show cq _ (.s 22 RW) so X3 from Sx.get 3 rfl).cell.2 rfl)));clear Sx y1 y2 y3 BX;rcases(show cq _ (.s 2 (o.map Item.d)) w2 H2 from S.get 1 rfl).slice with rfl|rfl|⟨i9,n9,rfl⟩
       all_goals
        conv=>whnf
        intro k5 a5 CS qJ;replace S:=S.alloc CS qJ;conv=>whnf
        refine⟨(bL kd nn tt C2 ta tb K2 ag cl D2 [L2,R2,so]),(by kernel_rfl),rfl,dR,.inl ⟨_,S.row 0 rfl,rfl,?_⟩⟩;conv=>whnf
        intro b1 fw;replace S:=S.w0 fw;refine aC (S.row 8 rfl) ?_;refine aC (S.row 0 rfl) ?_;conv=>whnf
        refine⟨_,S.row 5 rfl,⟨by omega,by omega⟩,?_⟩;conv=>whnf
        refine⟨bL kd nn tt C2 ta tb K2 ag cl D2 [L2,R2,so],(by kernel_rfl),rfl,dR,.inr ⟨_,_,_,S.row 5 rfl,sf,?_⟩⟩;conv=>whnf
        intro b2 ea;replace S:=S.w5 ea;conv=>whnf
        rw[aaK,aaa,mu Pl]at S;replace S:=S.drop 0;dsimp only[List.eraseIdx]at S;replace S:=S.q3;replace S:=S.q3;replace S:=S.q2;replace S:=aj.CT S;replace S:=S.q2;replace S:=aj.close (n:=ks.length) S (by simp at FJ⊢;omega);replace S:=S.q1;replace S:=S.q2;intro pI pJ dT dU;replace S:=S.alloc dT dU;conv=>whnf
        refine⟨trivial,?_⟩;conv=>whnf
        refine⟨[_],bT (S.row 0 rfl),dI rfl rfl,?_⟩;replace S:=S.drop 0;dsimp only[List.eraseIdx]at S;refine lp (sz:=1) (d:=aI.d o) S (by have:=(pA mw).2.1;simp[bB]at this⊢;omega) fun k6 h6 F6 S2=>?_;clear S;have S:=S2;clear S2;conv=>whnf
        have m7:yl [bz.mk (.mk kd nn tt cc ta tb kk ag cl qq) ll rr fk] [d2]:=⟨_,_,rfl,mU,rfl⟩;exact⟨m-1,by omega,j+1,_,_,_,_,_,xe++[d2],RV,by omega,rfl,aP j gA,FG rZ m7,WO,uu,by rw[aaD,abr];exact S⟩
     ·have bp:j=ks.length:=by simp at g1;omega
      conv=>whnf
      clear ih gA;subst bp;rw[aal]at pB;simp only[yl]at pB;subst pB;rw[aaw]at S;rw[aar]at mw;obtain⟨p1,p2,p3,p4,p5,p6⟩:=FI ht h7 h9 mw;obtain⟨n1,n2,n3,n4,n5⟩:=rY h8;have EI:mT ws (d+1) (.mk (.mk au n aD cells a b aq agg col qs) l r nR) w:=⟨h1,h2,h3,h4,h5,by rw[p3,h6],wk,by omega,h8,p4⟩;have gu:=eE (show(aA.mk au n aD cells a b aq agg col qs).small from by unfold aA.small;omega);replace S:=S.q1;replace S:=S.q6;replace S:=S.q6;replace S:=S.q6
      have I2:Am.snap hq (.agg (bL au n aD C a b K agg col D [L,R,.own id 0 ks.length]))=some (bz.mk (.mk au n aD cells a b aq agg col qs) l r nR).enc:=by
       obtain⟨dF,GF,D7,SF⟩:=aj.xb rZ S;have Zf:=tp _ _ D7;have zq:=tw _ _ _ EI;rw[<-ym _ _ D7];exact cq.snap (show cq hq dF _ GF from SF.get 0 rfl) (by omega)
      have I3:Am.snap hq M=some (bX.enc outs):=by
       have:=(show sv 1 hq (outs.map aI.d) M FM from S.get 4 rfl).1;rw[<-bX.fG];exact cq.snap (d:=bX.d outs) this (by have:=iW outs;omega)
      have I4:Am.snap hq tv=some (bX.enc aK):=hT hq (S.nQ 7);have hX:=BO hp au n aD cells a b aq agg col qs l r nR aK outs n1 (by omega) ⟨by have:=(eo h2).1;omega,(eo h2).2⟩ ⟨by have:=(eo h3).1;omega,(eo h3).2⟩ ⟨UM.1,fun z hz=>dC (UM.2 z hz)⟩ ⟨by omega,fun z hz=>dC (p6 z hz)⟩ (by have:=gu.1;simp only[dB];omega) gu.2.1
      have aQ:jg (.mk (.mk au n aD cells a b aq agg col qs) l r ks) aK=(if(kQ au n aD cells a b aq agg col l r aK outs).2=false then none else
        if(hZ au l r outs).2.2=false then none else some (.mk (.mk au n aD cells a b aq agg col qs) (hZ au l r outs).1 (hZ au l r outs).2.1 nR,(kQ au n aD cells a b aq agg col l r aK outs).1)):=by simp only[jg,mw]
      generalize kQ au n aD cells a b aq agg col l r aK outs=mm at aQ hX;obtain⟨mo,mb⟩:=mm;refine aC (S.row 6 rfl) ?_;conv=>whnf
      refine iG S hX rfl (bu I2 (bu I4 (bu I3 (dM _)))) fun vs q1 F5 S1=>?_;obtain⟨v1,F6,rfl,S2⟩:=aj.lC S1;clear S S1 I2 I3 I4 hX;have S:=S2;clear S2;have Su:=(show cq _ (.s 2 (mo.map Item.d)) v1 F6 from S.get 0 rfl).slice;have xF:=Su;rcases Su with rfl|rfl|⟨i9,n9,rfl⟩
      all_goals
       cases mb
       ·rw[if_pos rfl]at aQ;refine aC (S.row 7 rfl) ?_;conv=>whnf
        refine⟨(bL au n aD C a b K agg col D [L,R,.own id 0 ks.length]),(by kernel_rfl),rfl,aF,.inl ⟨_,S.row 6 rfl,rfl,?_⟩⟩;conv=>whnf
        intro b2 ea;replace S:=S.w6 ea;conv=>whnf
        exact⟨_,fB rfl rfl (S.row 6 rfl) rfl rfl rfl,by unfold gY;rw[aQ];exact⟨C,K,D,L,R,_,.nil,_,rfl,aF,.inl rfl,S.nQ 8⟩⟩
       ·rw[if_neg (by simp)]at aQ;refine aC (S.row 7 rfl) ?_;conv=>whnf
        replace S:=S.q4;replace S:=S.q4;replace S:=S.q4;replace S:=S.q4;replace S:=S.q5;refine BP hp (eo h2) (eo h3) p6 (fun h=>by have:=n3 h;omega) (fun h=>by have:=n4 h;omega) c1 c2 c3 S fun L' R' G1 G2 h' S1=>?_;clear S;generalize hZ au l r outs=kk at aQ S1⊢;obtain⟨kl,kr,kb⟩:=kk;have S:=S1;clear S1;have dR:(bL au n aD C a b K agg col D [L',R',.own id 0 ks.length]).all af.bQ=true:=pP c1 c2 c3 (bM (show XR _ kl L' G1 from S.get 1 rfl).cell.2 (bM (show XR _ kr R' G2 from S.get 2 rfl).cell.2 rfl));cases kb
        ·rw[if_pos rfl]at aQ;conv=>whnf
         intro k6 a6 Pn RX;replace S:=S.alloc Pn RX;conv=>whnf
         refine⟨(bL au n aD C a b K agg col D [L',R',.own id 0 ks.length]),(by kernel_rfl),rfl,dR,.inl ⟨_,S.row 0 rfl,rfl,?_⟩⟩;conv=>whnf
         intro b3 fY;replace S:=S.w0 fY;refine aC (S.row 0 rfl) ?_;conv=>whnf
         refine⟨(bL au n aD C a b K agg col D [L',R',.own id 0 ks.length]),(by kernel_rfl),rfl,dR,.inl ⟨_,S.row 6 rfl,rfl,?_⟩⟩;conv=>whnf
         intro b4 gX;replace S:=S.w6 gX;conv=>whnf
         exact⟨_,fB rfl rfl (S.row 6 rfl) rfl rfl rfl,by unfold gY;rw[aQ];exact⟨C,K,D,L',R',_,_,_,rfl,dR,xF,S.nQ 8⟩⟩
        ·rw[if_neg (by simp)]at aQ;conv=>whnf
         intro k6 a6 Pn RX;replace S:=S.alloc Pn RX;conv=>whnf
         refine⟨(bL au n aD C a b K agg col D [L',R',.own id 0 ks.length]),(by kernel_rfl),rfl,dR,.inl ⟨_,S.row 0 rfl,rfl,?_⟩⟩;conv=>whnf
         intro b3 fY;replace S:=S.w0 fY;refine aC (S.row 0 rfl) ?_;conv=>whnf
         refine⟨(bL au n aD C a b K agg col D [L',R',.own id 0 ks.length]),(by kernel_rfl),rfl,dR,.inl ⟨_,S.row 6 rfl,rfl,?_⟩⟩;conv=>whnf
         intro b4 gX;replace S:=S.w6 gX;conv=>whnf
         replace S:=S.drop 0;dsimp only[List.eraseIdx]at S;obtain⟨dF,GF,D7,SF⟩:=aj.xb rZ S;exact⟨_,fB rfl rfl (S.row 5 rfl) rfl rfl rfl,by unfold gY;rw[aQ];exact⟨_,_,dF,GF,_,_,rfl,D7,(SF.drop 2).drop 2⟩⟩
    ·have bp:j=ks.length:=by omega
     conv=>whnf
     clear ih gA;subst bp;rw[aal]at pB;simp only[yl]at pB;subst pB;rw[aaw]at S;rw[aar]at mw;obtain⟨p1,p2,p3,p4,p5,p6⟩:=FI ht h7 h9 mw;obtain⟨n1,n2,n3,n4,n5⟩:=rY h8;have EI:mT ws (d+1) (.mk (.mk au n aD cells a b aq agg col qs) l r nR) w:=⟨h1,h2,h3,h4,h5,by rw[p3,h6],wk,by omega,h8,p4⟩;have gu:=eE (show(aA.mk au n aD cells a b aq agg col qs).small from by unfold aA.small;omega);replace S:=S.q1;replace S:=S.q6;replace S:=S.q6;replace S:=S.q6
     have I2:Am.snap hq (.agg (bL au n aD C a b K agg col D [L,R,.nil]))=some (bz.mk (.mk au n aD cells a b aq agg col qs) l r nR).enc:=by
      obtain⟨dF,GF,D7,SF⟩:=aj.xb rZ S;have Zf:=tp _ _ D7;have zq:=tw _ _ _ EI;rw[<-ym _ _ D7];exact cq.snap (show cq hq dF _ GF from SF.get 0 rfl) (by omega)
     have I3:Am.snap hq M=some (bX.enc outs):=by
      have:=(show sv 1 hq (outs.map aI.d) M FM from S.get 4 rfl).1;rw[<-bX.fG];exact cq.snap (d:=bX.d outs) this (by have:=iW outs;omega)
     have I4:Am.snap hq tv=some (bX.enc aK):=hT hq (S.nQ 7);have hX:=BO hp au n aD cells a b aq agg col qs l r nR aK outs n1 (by omega) ⟨by have:=(eo h2).1;omega,(eo h2).2⟩ ⟨by have:=(eo h3).1;omega,(eo h3).2⟩ ⟨UM.1,fun z hz=>dC (UM.2 z hz)⟩ ⟨by omega,fun z hz=>dC (p6 z hz)⟩ (by have:=gu.1;simp only[dB];omega) gu.2.1
     have aQ:jg (.mk (.mk au n aD cells a b aq agg col qs) l r ks) aK=(if(kQ au n aD cells a b aq agg col l r aK outs).2=false then none else
       if(hZ au l r outs).2.2=false then none else some (.mk (.mk au n aD cells a b aq agg col qs) (hZ au l r outs).1 (hZ au l r outs).2.1 nR,(kQ au n aD cells a b aq agg col l r aK outs).1)):=by simp only[jg,mw]
     generalize kQ au n aD cells a b aq agg col l r aK outs=mm at aQ hX;obtain⟨mo,mb⟩:=mm;refine aC (S.row 6 rfl) ?_;conv=>whnf
     refine iG S hX rfl (bu I2 (bu I4 (bu I3 (dM _)))) fun vs q1 F5 S1=>?_;obtain⟨v1,F6,rfl,S2⟩:=aj.lC S1;clear S S1 I2 I3 I4 hX;have S:=S2;clear S2;have Su:=(show cq _ (.s 2 (mo.map Item.d)) v1 F6 from S.get 0 rfl).slice;have xF:=Su;rcases Su with rfl|rfl|⟨i9,n9,rfl⟩
     all_goals
      cases mb
      ·rw[if_pos rfl]at aQ;refine aC (S.row 7 rfl) ?_;conv=>whnf
       refine⟨(bL au n aD C a b K agg col D [L,R,.nil]),(by kernel_rfl),rfl,aF,.inl ⟨_,S.row 6 rfl,rfl,?_⟩⟩;conv=>whnf
       intro b2 ea;replace S:=S.w6 ea;conv=>whnf
       exact⟨_,fB rfl rfl (S.row 6 rfl) rfl rfl rfl,by unfold gY;rw[aQ];exact⟨C,K,D,L,R,_,.nil,_,rfl,aF,.inl rfl,S.nQ 8⟩⟩
      ·rw[if_neg (by simp)]at aQ;refine aC (S.row 7 rfl) ?_;conv=>whnf
       replace S:=S.q4;replace S:=S.q4;replace S:=S.q4;replace S:=S.q4;replace S:=S.q5;refine BP hp (eo h2) (eo h3) p6 (fun h=>by have:=n3 h;omega) (fun h=>by have:=n4 h;omega) c1 c2 c3 S fun L' R' G1 G2 h' S1=>?_;clear S;generalize hZ au l r outs=kk at aQ S1⊢;obtain⟨kl,kr,kb⟩:=kk;have S:=S1;clear S1;have dR:(bL au n aD C a b K agg col D [L',R',.nil]).all af.bQ=true:=pP c1 c2 c3 (bM (show XR _ kl L' G1 from S.get 1 rfl).cell.2 (bM (show XR _ kr R' G2 from S.get 2 rfl).cell.2 rfl));cases kb
       ·rw[if_pos rfl]at aQ;conv=>whnf
        intro k6 a6 Pn RX;replace S:=S.alloc Pn RX;conv=>whnf
        refine⟨(bL au n aD C a b K agg col D [L',R',.nil]),(by kernel_rfl),rfl,dR,.inl ⟨_,S.row 0 rfl,rfl,?_⟩⟩;conv=>whnf
        intro b3 fY;replace S:=S.w0 fY;refine aC (S.row 0 rfl) ?_;conv=>whnf
        refine⟨(bL au n aD C a b K agg col D [L',R',.nil]),(by kernel_rfl),rfl,dR,.inl ⟨_,S.row 6 rfl,rfl,?_⟩⟩;conv=>whnf
        intro b4 gX;replace S:=S.w6 gX;conv=>whnf
        exact⟨_,fB rfl rfl (S.row 6 rfl) rfl rfl rfl,by unfold gY;rw[aQ];exact⟨C,K,D,L',R',_,_,_,rfl,dR,xF,S.nQ 8⟩⟩
       ·rw[if_neg (by simp)]at aQ;conv=>whnf
        intro k6 a6 Pn RX;replace S:=S.alloc Pn RX;conv=>whnf
        refine⟨(bL au n aD C a b K agg col D [L',R',.nil]),(by kernel_rfl),rfl,dR,.inl ⟨_,S.row 0 rfl,rfl,?_⟩⟩;conv=>whnf
        intro b3 fY;replace S:=S.w0 fY;refine aC (S.row 0 rfl) ?_;conv=>whnf
        refine⟨(bL au n aD C a b K agg col D [L',R',.nil]),(by kernel_rfl),rfl,dR,.inl ⟨_,S.row 6 rfl,rfl,?_⟩⟩;conv=>whnf
        intro b4 gX;replace S:=S.w6 gX;conv=>whnf
        replace S:=S.drop 0;dsimp only[List.eraseIdx]at S;obtain⟨dF,GF,D7,SF⟩:=aj.xb rZ S;exact⟨_,fB rfl rfl (S.row 5 rfl) rfl rfl rfl,by unfold gY;rw[aQ];exact⟨_,_,dF,GF,_,_,rfl,D7,(SF.drop 2).drop 2⟩⟩
    ·have bp:j=ks.length:=by omega
     conv=>whnf
     clear ih gA;subst bp;rw[aal]at pB;simp only[yl]at pB;subst pB;rw[aaw]at S;rw[aar]at mw;obtain⟨p1,p2,p3,p4,p5,p6⟩:=FI ht h7 h9 mw;obtain⟨n1,n2,n3,n4,n5⟩:=rY h8;have EI:mT ws (d+1) (.mk (.mk au n aD cells a b aq agg col qs) l r nR) w:=⟨h1,h2,h3,h4,h5,by rw[p3,h6],wk,by omega,h8,p4⟩;have gu:=eE (show(aA.mk au n aD cells a b aq agg col qs).small from by unfold aA.small;omega);replace S:=S.q1;replace S:=S.q6;replace S:=S.q6;replace S:=S.q6
     have I2:Am.snap hq (.agg (bL au n aD C a b K agg col D [L,R,.sl []]))=some (bz.mk (.mk au n aD cells a b aq agg col qs) l r nR).enc:=by
      obtain⟨dF,GF,D7,SF⟩:=aj.xb rZ S;have Zf:=tp _ _ D7;have zq:=tw _ _ _ EI;rw[<-ym _ _ D7];exact cq.snap (show cq hq dF _ GF from SF.get 0 rfl) (by omega)
     have I3:Am.snap hq M=some (bX.enc outs):=by
      have:=(show sv 1 hq (outs.map aI.d) M FM from S.get 4 rfl).1;rw[<-bX.fG];exact cq.snap (d:=bX.d outs) this (by have:=iW outs;omega)
     have I4:Am.snap hq tv=some (bX.enc aK):=hT hq (S.nQ 7);have hX:=BO hp au n aD cells a b aq agg col qs l r nR aK outs n1 (by omega) ⟨by have:=(eo h2).1;omega,(eo h2).2⟩ ⟨by have:=(eo h3).1;omega,(eo h3).2⟩ ⟨UM.1,fun z hz=>dC (UM.2 z hz)⟩ ⟨by omega,fun z hz=>dC (p6 z hz)⟩ (by have:=gu.1;simp only[dB];omega) gu.2.1
     have aQ:jg (.mk (.mk au n aD cells a b aq agg col qs) l r ks) aK=(if(kQ au n aD cells a b aq agg col l r aK outs).2=false then none else
       if(hZ au l r outs).2.2=false then none else some (.mk (.mk au n aD cells a b aq agg col qs) (hZ au l r outs).1 (hZ au l r outs).2.1 nR,(kQ au n aD cells a b aq agg col l r aK outs).1)):=by simp only[jg,mw]
     generalize kQ au n aD cells a b aq agg col l r aK outs=mm at aQ hX;obtain⟨mo,mb⟩:=mm;refine aC (S.row 6 rfl) ?_;conv=>whnf
     refine iG S hX rfl (bu I2 (bu I4 (bu I3 (dM _)))) fun vs q1 F5 S1=>?_;obtain⟨v1,F6,rfl,S2⟩:=aj.lC S1;clear S S1 I2 I3 I4 hX;have S:=S2;clear S2;have Su:=(show cq _ (.s 2 (mo.map Item.d)) v1 F6 from S.get 0 rfl).slice;have xF:=Su;rcases Su with rfl|rfl|⟨i9,n9,rfl⟩
     all_goals
      cases mb
      ·rw[if_pos rfl]at aQ;refine aC (S.row 7 rfl) ?_;conv=>whnf
       refine⟨(bL au n aD C a b K agg col D [L,R,.sl []]),(by kernel_rfl),rfl,aF,.inl ⟨_,S.row 6 rfl,rfl,?_⟩⟩;conv=>whnf
       intro b2 ea;replace S:=S.w6 ea;conv=>whnf
       exact⟨_,fB rfl rfl (S.row 6 rfl) rfl rfl rfl,by unfold gY;rw[aQ];exact⟨C,K,D,L,R,_,.nil,_,rfl,aF,.inl rfl,S.nQ 8⟩⟩
      ·rw[if_neg (by simp)]at aQ;refine aC (S.row 7 rfl) ?_;conv=>whnf
       replace S:=S.q4;replace S:=S.q4;replace S:=S.q4;replace S:=S.q4;replace S:=S.q5;refine BP hp (eo h2) (eo h3) p6 (fun h=>by have:=n3 h;omega) (fun h=>by have:=n4 h;omega) c1 c2 c3 S fun L' R' G1 G2 h' S1=>?_;clear S;generalize hZ au l r outs=kk at aQ S1⊢;obtain⟨kl,kr,kb⟩:=kk;have S:=S1;clear S1;have dR:(bL au n aD C a b K agg col D [L',R',.sl []]).all af.bQ=true:=pP c1 c2 c3 (bM (show XR _ kl L' G1 from S.get 1 rfl).cell.2 (bM (show XR _ kr R' G2 from S.get 2 rfl).cell.2 rfl));cases kb
       ·rw[if_pos rfl]at aQ;conv=>whnf
        intro k6 a6 Pn RX;replace S:=S.alloc Pn RX;conv=>whnf
        refine⟨(bL au n aD C a b K agg col D [L',R',.sl []]),(by kernel_rfl),rfl,dR,.inl ⟨_,S.row 0 rfl,rfl,?_⟩⟩;conv=>whnf
        intro b3 fY;replace S:=S.w0 fY;refine aC (S.row 0 rfl) ?_;conv=>whnf
        refine⟨(bL au n aD C a b K agg col D [L',R',.sl []]),(by kernel_rfl),rfl,dR,.inl ⟨_,S.row 6 rfl,rfl,?_⟩⟩;conv=>whnf
        intro b4 gX;replace S:=S.w6 gX;conv=>whnf
        exact⟨_,fB rfl rfl (S.row 6 rfl) rfl rfl rfl,by unfold gY;rw[aQ];exact⟨C,K,D,L',R',_,_,_,rfl,dR,xF,S.nQ 8⟩⟩
       ·rw[if_neg (by simp)]at aQ;conv=>whnf
        intro k6 a6 Pn RX;replace S:=S.alloc Pn RX;conv=>whnf
        refine⟨(bL au n aD C a b K agg col D [L',R',.sl []]),(by kernel_rfl),rfl,dR,.inl ⟨_,S.row 0 rfl,rfl,?_⟩⟩;conv=>whnf
        intro b3 fY;replace S:=S.w0 fY;refine aC (S.row 0 rfl) ?_;conv=>whnf
        refine⟨(bL au n aD C a b K agg col D [L',R',.sl []]),(by kernel_rfl),rfl,dR,.inl ⟨_,S.row 6 rfl,rfl,?_⟩⟩;conv=>whnf
        intro b4 gX;replace S:=S.w6 gX;conv=>whnf
        replace S:=S.drop 0;dsimp only[List.eraseIdx]at S;obtain⟨dF,GF,D7,SF⟩:=aj.xb rZ S;exact⟨_,fB rfl rfl (S.row 5 rfl) rfl rfl rfl,by unfold gY;rw[aQ];exact⟨_,_,dF,GF,_,_,rfl,D7,(SF.drop 2).drop 2⟩⟩
end Go.Proofs.YtfepbikckfehlaaGreat
set_option maxHeartbeats 4000000
namespace Go.Proofs.YtfepbikckfehlaaGreat
open Go Go.Am
variable{pr:bW}(hp:cF pr)
set_option maxRecDepth 100000
mutual
def j6:bz->Int->bz×Int
 | .mk p l r ks,fu=>(.mk p (eW l fu).1 (eW r (eW l fu).2).1 (fI ks (eW r (eW l fu).2).2).1,(fI ks (eW r (eW l fu).2).2).2)
def fI:List bz->Int->List bz×Int
 | [],fu=>([],fu)
 |k::ks,fu=>((j6 k fu).1::(fI ks (j6 k fu).2).1,(fI ks (j6 k fu).2).2)
end
theorem xf: ∀(xs:List bz)(k:bz)(fu:Int),fI (xs++[k]) fu=((fI xs fu).1++[(j6 k (fI xs fu).2).1],(j6 k (fI xs fu).2).2)
 | [],k,fu=>by simp[fI]
 |x::xs,k,fu=>by simp only[abD,fI,xf xs k]
theorem tA: ∀(xs:List bz)(fu:Int),(fI xs fu).1.length=xs.length
 | [],fu=>rfl
 |x::xs,fu=>by simp only[fI,aak,tA xs]
theorem BY{w:Int}: ∀(n:Nat)(xs:List (List Item))(fu:Int),fq xs=true->(∀z∈xs,eB w z)->fq (jQ n xs fu).1=true/\ ∀z∈(jQ n xs fu).1,eB w z
 |0,xs,fu,h1,h2=>⟨h1,h2⟩
 |n+1,xs,fu,h1,h2=>by
  unfold jQ;split
  ·rename_i hl;split
   ·exact⟨h1,h2⟩
   ·rename_i hc;refine BY n _ _ ?_ (D4 (by omega) h2 fun y z hy hz _=>jG hy hz)
    cases h:fq (gW xs)with
    |true=>rfl
    |false=>exact absurd (.inr h) hc
  ·exact⟨h1,h2⟩
theorem ue{w:Int}{xs:List (List Item)}(fu:Int)(h2: ∀z∈xs,eB w z):fq (eW xs fu).1=true/\ ∀z∈(eW xs fu).1,eB w z:=by
 unfold eW;split
 ·rename_i h;simp only[xz]at h;exact BY _ _ _ h.1 h2
 ·exact⟨rfl,fun z hz=>by simp at hz⟩
theorem BZ(fu:Int):(eW [] fu).1=[]:=by
 unfold eW;split
 ·rfl
 ·rfl
theorem B1{xs:List (List Item)}(fu:Int):fq (eW xs fu).1=true:=by
 unfold eW;split
 ·rename_i h;simp only[xz]at h
  have key: ∀(n:Nat)(xs:List (List Item))(fu:Int),fq xs=true->fq (jQ n xs fu).1=true:=by
   intro n
   induction n with
   |zero=>intro xs fu h;exact h
   |succ n ih=>
    intro xs fu h1;unfold jQ;split
    ·split
     ·exact h1
     ·rename_i hc;refine ih _ _ ?_
      cases h:fq (gW xs)with
      |true=>rfl
      |false=>exact absurd (.inr h) hc
    ·exact h1
  exact key _ _ _ h.1
 ·rfl
mutual
theorem qg: ∀(f:bz)(fu:Int),(j6 f fu).1.ez=f.ez
 | .mk p l r ks,fu=>rfl
end
theorem uD: ∀(ks:List bz)(fu:Int),(fI ks fu).1.map bz.ez=ks.map bz.ez
 | [],fu=>rfl
 |k::ks,fu=>by simp only[fI,aao,qg,uD ks]
theorem zr: ∀(ks:List bz)(fu:Int)(i:Nat)(k:bz),(fI ks fu).1[i]?=some k-> ∃k0 fu',ks[i]?=some k0/\k=(j6 k0 fu').1
 | [],fu,i,k,h=>by simp[fI]at h
 |x::ks,fu,i,k,h=>by
  cases i with
  |zero=>simp[fI]at h;exact⟨x,fu,rfl,h.symm⟩
  |succ i=>simp only[fI,abd]at h⊢;exact zr ks _ i k h
theorem B2{ws:List Int}: ∀(d:Nat)(f:bz)(w fu:Int),mT ws d f w->mT ws d (j6 f fu).1 w
 |0,f,w,fu,h=>h.elim
 |d+1,.mk (.mk au n aD cells a b aq agg col qs) l r ks,w,fu,h=>by
  obtain⟨h1,h2,h3,h4,h5,h6,wk,h7,h8,h9⟩:=h;refine⟨h1,B1 _,B1 _,fun h=>by rw[h4 h,BZ],fun ha hb hc=>by rw[h5 ha hb hc,BZ],by rw[uD,h6],wk,by rw[tA,h7],?_,fun i k v hk hv=>?_⟩
  ·rcases h8 with⟨rfl,KA,rfl,hw⟩|⟨rfl,rfl⟩|⟨rfl,h3,rfl⟩|⟨rfl,a',b',rfl,rfl,gl,gr⟩|⟨rfl,rfl⟩|⟨rfl,rfl,gl⟩|⟨rfl,rfl,a',rfl,gl⟩
   ·exact .inl ⟨rfl,KA,rfl,hw⟩
   ·exact .inr (.inl ⟨rfl,rfl⟩)
   ·exact .inr (.inr (.inl ⟨rfl,h3,rfl⟩))
   ·exact .inr (.inr (.inr (.inl ⟨rfl,a',b',rfl,rfl,(ue _ gl).2,(ue _ gr).2⟩)))
   ·exact .inr (.inr (.inr (.inr (.inl ⟨rfl,rfl⟩))))
   ·exact .inr (.inr (.inr (.inr (.inr (.inl ⟨rfl,rfl,(ue _ gl).2⟩)))))
   ·exact .inr (.inr (.inr (.inr (.inr (.inr ⟨rfl,rfl,a',rfl,(ue _ gl).2⟩)))))
  ·obtain⟨k0,fu',Pc,rfl⟩:=zr _ _ _ _ hk;exact B2 d k0 v fu' (h9 i k0 v Pc hv)
theorem B3(hp:cF pr){l:List (List Item)}{L:af}{F:List Nat}{fu:Int}{h:aG}{Q:List Chunk}(hl:fq l=true)(S:aj h (.xr l L F::Q)):
  ∃h2,cj (dZ pr) (call (dZ pr)) 139 [.agg [L],i64 fu] h=some (.ret (.eT [.agg [bX.enc (eW l fu).1],i64 (eW l fu).2]) h2)/\aj h2 Q/\h.length<=h2.length:=by
   obtain⟨d,ho,h1,h2,he,_⟩:=(show XR h l L F from S.get 0 rfl).dL;have S1:aj h (.ed [.g [d],.i fu] [.agg [L],i64 fu] (F++[])::Q):=S.is (c':=.ed [.g [d],.i fu] [.agg [L],i64 fu] (F++[])) (iH ho (uq fu)) (by simp[Chunk.ed,Chunk.xr]);refine RI (ds:=[.g [d],.i fu]) rfl S1 (by simp[bg.pR,bg.CP,h1]) (by simp only[bg.dO,bg.dep];omega) ?_;rw[show bg.dv [.g [d],.i fu]=[.agg [bX.enc l],i64 fu]from by rw[show bg.dv [.g [d],.i fu]=[(bg.g [d]).enc,i64 fu]from rfl,he]];have:=eo hl;exact Lq hp l fu ⟨by simp[dB];omega,fun z hz=>dC (this.2 z hz)⟩
theorem OX(hp:cF pr){ws:List Int}:
  ∀(d:Nat),d<=100-> ∀(au n:Int)(aD:Test)(cells:List Cell)(a b:Int)(aq:List Int)(agg col:Int)(qs:List aA)(l r:List (List Item))(ks:List bz)(w:Int),mT ws d (.mk (.mk au n aD cells a b aq agg col qs) l r ks) w->
  ∀(fu:Int)(dd:bg)(v:af)(F:List Nat)(h:aG)(Q:List Chunk),FD (.mk (.mk au n aD cells a b aq agg col qs) l r ks) dd->aj h (.dL dd v F::Q)->
  ∃v' d' F' h',cj (dZ pr) (call (dZ pr)) 116 [v,i64 fu] h=some (.ret (.eT [v',i64 (j6 (.mk (.mk au n aD cells a b aq agg col qs) l r ks) fu).2]) h')/\FD (j6 (.mk (.mk au n aD cells a b aq agg col qs) l r ks) fu).1 d'/\aj h' (.dL d' v' F'::Q):=by
   intro d
   induction d with
   |zero=>intro _ au n aD cells a b aq agg col qs l r ks w h;exact h.elim
   |succ d ih=>
    intro hd au n aD cells a b aq agg col qs l r ks w eb fu dd v F h Q XI S;obtain⟨h1,h2,h3,h4,h5,h6,wk,h7,h8,h9⟩:=eb;obtain⟨C,K,D,L,R,KS,Fp,F1,F2,F3,ur,rfl,JW,c1,c2,c3,S1⟩:=aj.uC XI S;replace S:=S1;clear S1;have cL:=(show XR h l L F1 from S.get 1 rfl).cell;have cR:=(show XR h r R F2 from S.get 2 rfl).cell;have cK:=(show cq h (.s 22 ur) KS F3 from S.get 3 rfl).cell;rw[nN rfl]
    suffices hw:x9 (dZ pr) 116 [.agg (bL au n aD C a b K agg col D [L,R,KS]),i64 fu] h (fun res=>∃v' d' F' h',res= .ret (.eT [v',i64 (j6 (.mk (.mk au n aD cells a b aq agg col qs) l r ks) fu).2]) h'/\FD (j6 (.mk (.mk au n aD cells a b aq agg col qs) l r ks) fu).1 d'/\aj h' (.dL d' v' F'::Q)) by
     obtain⟨res,hr,v',d',F',h',rfl,g1,g2⟩:=dJ (hp.out _ rfl) hw;exact⟨v',d',F',h',hr,g1,g2⟩
    have e:j6 (.mk (.mk au n aD cells a b aq agg col qs) l r ks) fu=(.mk (.mk au n aD cells a b aq agg col qs) (eW l fu).1 (eW r (eW l fu).2).1 (fI ks (eW r (eW l fu).2).2).1,(fI ks (eW r (eW l fu).2).2).2):=by simp only[j6]
    rw[e];clear e;conv=>whnf
    intro k1 a1 eg er;replace S:=S.alloc eg er;conv=>whnf
    intro k2 a2 jS jb;replace S:=S.alloc jS jb;refine aC (S.row 1 rfl) ?_;conv=>whnf
    replace S:=S.q3;obtain⟨q3,rV,S3,_⟩:=B3 hp (fu:=fu) h2 S;refine⟨_,rV,?_⟩;clear S rV;have S:=aj.OQ (eW l fu).1 S3;clear S3;generalize eW l fu=ml at S⊢;obtain⟨ml,fu1⟩:=ml;dsimp only at S⊢;conv=>whnf
    refine⟨_,rfl,rfl,rfl,.inl ⟨_,S.row 2 rfl,rfl,?_⟩⟩;conv=>whnf
    intro b1 fw;replace S:=S.w2 fw;refine aC (S.row 2 rfl) ?_;conv=>whnf
    replace S:=S.q4;obtain⟨q4,WM,S4,_⟩:=B3 hp (fu:=fu1) h3 S;refine⟨_,WM,?_⟩;clear S WM;have S:=aj.OQ (eW r fu1).1 S4;clear S4;generalize eW r fu1=mr at S⊢;obtain⟨mr,Xz⟩:=mr;dsimp only at S⊢;conv=>whnf
    refine⟨_,rfl,rfl,rfl,.inl ⟨_,S.row 3 rfl,rfl,?_⟩⟩;conv=>whnf
    intro b2 ea;replace S:=S.w3 ea;conv=>whnf
    have PW:ur.length=ks.length:=xa JW
    have hKS:(KS= .nil/\ks.length=0)∨(KS= .sl []/\ks.length=0)∨ ∃id,KS= .own id 0 ks.length:=by
     have ho:cq b2 (.s 22 ur) KS F3:=S.get 5 rfl;simp only[cq]at ho;rcases ho with⟨rfl,_,rfl|rfl⟩|⟨id,vs,Fs,rfl,_⟩
     ·exact .inl ⟨rfl,PW.symm⟩
     ·exact .inr (.inl ⟨rfl,PW.symm⟩)
     ·exact .inr (.inr ⟨id,by rw[PW]⟩)
    have Dd:ks.length<=100000:=by have:(aA.mk au n aD cells a b aq agg col qs).sz<=300:=h1;rw[<-h6]at this;simp only[aA.sz,aat]at this;omega
    replace S:=S.q5
    refine dQ (fun m tm hp=>∃(j:Nat)(F:List Nat)(xe rest:List bg),j+m=ks.length/\tm 1=i64 (fI (ks.take j) Xz).2/\tm 6=i64 (j:Nat)/\yl (fI (ks.take j) Xz).1 xe/\yl (ks.drop j) rest/\
     aj hp (.dL (.s 22 (xe++rest)) KS F:: .xr mr (bX.enc mr) []:: .xr ml (bX.enc ml) []:: .row k2 (.box MF):: .row k1 (.box (.agg (bL au n aD C a b K agg col D [bX.enc ml,bX.enc mr,KS]))):: .dL (.p (.mk au n aD cells a b aq agg col qs)) (nb au n aD C a b K agg col D) Fp::Q))
     (fun m tm hq bG hI=>?_) ks.length ⟨0,F3,[],ur,by simp,rfl,rfl,rfl,JW,S⟩
    clear S JW PW;obtain⟨j,F,xe,rest,hj,e1,e6,rZ,pB,S⟩:=hI;have e2:=bG 2 (by kernel_rfl);conv at e2=>rhs;whnf
    have e4:=bG 4 (by kernel_rfl);conv at e4=>rhs;whnf
    refine⟨[(1,_),(2,_),(4,_),(6,_)],⟨e1,e2,e4,e6,trivial⟩,?_⟩;clear bG e1 e2 e4 e6;have gA:j<4611686018427387904:=by omega
    refine aC (S.row 4 rfl) ?_;conv=>whnf
    rcases hKS with⟨rfl,hn⟩|⟨rfl,hn⟩|⟨id,rfl⟩
    rotate_left 2
    ·conv=>whnf
     refine ae (fun g1=>?_) (fun g1=>?_)
     ·have bp:j<ks.length:=by simpa using g1
      rw[aaf bp]at pB;obtain⟨dk,RV,rfl,WN,WO⟩:=pB;have hwj:wk[j]?=some wk[j]:=aab (by omega);have Sr:=h9 j _ _ (aab bp) hwj;have uu:=xf (ks.take j) ks[j] Xz;rw[<-dX bp]at uu;have hlen:=tA (ks.take j) Xz;generalize fI (ks.take j) Xz=mm at uu rZ hlen⊢;obtain⟨nR,fj⟩:=mm;dsimp only at uu rZ hlen⊢;generalize ks[j]=q at WN Sr uu;obtain⟨⟨cG,n',dq,bR,a',b',cH,dE,ke,Zd⟩,l',r',kC⟩:=q;rcases aj.open S with⟨hx,_,_⟩|⟨zS,vs,Fs,dm,rfl,S1⟩
      ·simp at hx
      injection dm with vt _ FJ;subst vt;obtain⟨VA,v,VB,FA,G,FB,rfl,YV,S2⟩:=aj.D6 S1.swap;clear S S1;have S:=S2;clear S2;obtain⟨C',K',D',L',R',WG,Fp',F1',F2',F3',ab8,rfl,WQ,c1',c2',c3',Sx⟩:=aj.uC WN S;clear Sx WQ c1' c2' c3';have Pl:VA.length=j:=by rw[YV,xa rZ,hlen];simp;omega
      have sf:(VA++af.agg (bL cG n' dq C' a' b' K' dE ke D' [L',R',WG])::VB)[0+((j:Nat):Int).toNat]?=some (af.agg (bL cG n' dq C' a' b' K' dE ke D' [L',R',WG])):=by
       rw[aaK,aaa,<-Pl];simp
      refine aC (S.row 7 rfl) ?_;conv=>whnf
      refine⟨_,S.row 3 rfl,⟨by omega,by omega⟩,?_⟩;conv=>whnf
      refine .inr ⟨_,_,_,S.row 3 rfl,sf,?_⟩;conv=>whnf
      obtain⟨v2,d2,G2,Dc,hc,mU,S1⟩:=ih (by omega) cG n' dq bR a' b' cH dE ke Zd l' r' kC _ Sr fj dk _ _ _ _ WN S;refine⟨_,hc,?_⟩;clear hc S Sr;have S:=S1;clear S1;generalize j6 (.mk (.mk cG n' dq bR a' b' cH dE ke Zd) l' r' kC) fj=mq at uu mU⊢;obtain⟨⟨⟨kd,nn,tt,cc,ta,tb,kk,ag,cl,qq⟩,ll,rr,fk⟩,fj2⟩:=mq;dsimp only at uu mU⊢;obtain⟨C2,K2,D2,L2,R2,so,Ze,X1,X2,X3,RW,rfl,BX,y1,y2,y3,Sx⟩:=aj.uC mU S;have dR:(bL kd nn tt C2 ta tb K2 ag cl D2 [L2,R2,so]).all af.bQ=true:=pP y1 y2 y3 (bM (show XR _ ll L2 X1 from Sx.get 1 rfl).cell.2 (bM (show XR _ rr R2 X2 from Sx.get 2 rfl).cell.2 (bM (show cq _ (.s 22 RW) so X3 from Sx.get 3 rfl).cell.2 rfl)));clear Sx y1 y2 y3 BX;conv=>whnf
      intro k5 a5 CS qJ;replace S:=S.alloc CS qJ;conv=>whnf
      refine⟨(bL kd nn tt C2 ta tb K2 ag cl D2 [L2,R2,so]),(by kernel_rfl),rfl,dR,.inl ⟨_,S.row 0 rfl,rfl,?_⟩⟩;conv=>whnf
      intro b5 jF;replace S:=S.w0 jF;refine aC (S.row 8 rfl) ?_;refine aC (S.row 0 rfl) ?_;conv=>whnf
      refine⟨_,S.row 4 rfl,⟨by omega,by omega⟩,?_⟩;conv=>whnf
      refine⟨bL kd nn tt C2 ta tb K2 ag cl D2 [L2,R2,so],(by kernel_rfl),rfl,dR,.inr ⟨_,_,_,S.row 4 rfl,sf,?_⟩⟩;conv=>whnf
      intro b6 tq;replace S:=S.w4 tq;conv=>whnf
      rw[aaK,aaa,mu Pl]at S;replace S:=S.drop 0;dsimp only[List.eraseIdx]at S;replace S:=aj.CT S;replace S:=S.q1;replace S:=aj.close (n:=ks.length) S (by simp at FJ⊢;omega);have m7:yl [bz.mk (.mk kd nn tt cc ta tb kk ag cl qq) ll rr fk] [d2]:=⟨_,_,rfl,mU,rfl⟩;exact⟨m-1,by omega,j+1,_,xe++[d2],RV,by omega,by rw[uu];rfl,aP j gA,by rw[uu];exact FG rZ m7,WO,by rw[abr];exact S⟩
     ·have bp:j=ks.length:=by simp at g1;omega
      conv=>whnf
      subst bp;rw[aal]at pB;simp only[yl]at pB;subst pB;rw[aaw]at S;rw[aar]at rZ⊢;clear ih gA;refine aC (S.row 4 rfl) ?_;conv=>whnf
      refine⟨(bL au n aD C a b K agg col D [bX.enc ml,bX.enc mr,.own id 0 ks.length]),(by kernel_rfl),rfl,(pP c1 c2 c3 (bM rfl (bM rfl (bM rfl rfl)))),.inl ⟨_,S.row 3 rfl,rfl,?_⟩⟩;conv=>whnf
      intro b3 fY;replace S:=S.w3 fY;conv=>whnf
      replace S:=S.q1;replace S:=S.q2;replace S:=S.q5;obtain⟨dF,GF,D7,SF⟩:=aj.xb rZ S;exact⟨_,aS rfl rfl (S.row 4 rfl) rfl rfl,_,dF,GF,_,rfl,D7,(SF.drop 1).drop 1⟩
    ·have bp:j=ks.length:=by omega
     conv=>whnf
     subst bp;rw[aal]at pB;simp only[yl]at pB;subst pB;rw[aaw]at S;rw[aar]at rZ⊢;clear ih gA;refine aC (S.row 4 rfl) ?_;conv=>whnf
     refine⟨(bL au n aD C a b K agg col D [bX.enc ml,bX.enc mr,.nil]),(by kernel_rfl),rfl,(pP c1 c2 c3 (bM rfl (bM rfl (bM rfl rfl)))),.inl ⟨_,S.row 3 rfl,rfl,?_⟩⟩;conv=>whnf
     intro b3 fY;replace S:=S.w3 fY;conv=>whnf
     replace S:=S.q1;replace S:=S.q2;replace S:=S.q5;obtain⟨dF,GF,D7,SF⟩:=aj.xb rZ S;exact⟨_,aS rfl rfl (S.row 4 rfl) rfl rfl,_,dF,GF,_,rfl,D7,(SF.drop 1).drop 1⟩
    ·have bp:j=ks.length:=by omega
     conv=>whnf
     subst bp;rw[aal]at pB;simp only[yl]at pB;subst pB;rw[aaw]at S;rw[aar]at rZ⊢;clear ih gA;refine aC (S.row 4 rfl) ?_;conv=>whnf
     refine⟨(bL au n aD C a b K agg col D [bX.enc ml,bX.enc mr,.sl []]),(by kernel_rfl),rfl,(pP c1 c2 c3 (bM rfl (bM rfl (bM rfl rfl)))),.inl ⟨_,S.row 3 rfl,rfl,?_⟩⟩;conv=>whnf
     intro b3 fY;replace S:=S.w3 fY;conv=>whnf
     replace S:=S.q1;replace S:=S.q2;replace S:=S.q5;obtain⟨dF,GF,D7,SF⟩:=aj.xb rZ S;exact⟨_,aS rfl rfl (S.row 4 rfl) rfl rfl,_,dF,GF,_,rfl,D7,(SF.drop 1).drop 1⟩
end Go.Proofs.YtfepbikckfehlaaGreat

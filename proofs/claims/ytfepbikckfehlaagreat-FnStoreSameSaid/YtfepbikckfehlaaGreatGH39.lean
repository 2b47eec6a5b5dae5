/- What a store keeps: the reference's. -/
import Derived.Test.YtfepbikckfehlaaGreatGH38
set_option linter.unusedVariables false
set_option linter.unusedSimpArgs false
set_option maxHeartbeats 4000000
namespace Go.Proofs.YtfepbikckfehlaaGreat
open Go Go.Am
variable{pr:bW}(hp:cF pr)
set_option maxRecDepth 100000
theorem nt{N:Nat}: ∀{ds:List bg},(∀d∈ds,d.dep<=N)->bg.dO ds<=N+1
 | [],_=>by simp[bg.dO]
 |d::ds,h=>by
  have h1:=h d (by simp);have h2:=nt (ds:=ds) fun x hx=>h x (by simp[hx]);simp only[bg.dO];omega
theorem Ja{h:aG}{Q:List Chunk}{f:List Item->bg}{bc:List Int}{aH:List (List Item)}{aL:List View}{zL:List bg}{now keep:Int}{W T V:af}{F1 F2 F3:List Nat}(hf: ∀z,(f z).enc=aI.enc z/\(f z).dep<=15)(hv:zL.map bg.enc=aL.map View.enc)(hd: ∀d∈zL,d.dep<=4000000)
  (S:aj h (.dL (.a 1 (bc.map bg.i)) W F1:: .dL (.a 1 (aH.map f)) T F2:: .dL (.a 25 zL) V F3::Q)):Am.snap h (.agg [W,T,V,i64 now,i64 keep])=some (bN.enc ⟨bc,aH,aL,now,keep⟩):=by
   have ho:cq h (.g [.a 1 (bc.map bg.i),.a 1 (aH.map f),.a 25 zL,.i now,.i keep]) (.agg [W,T,V,i64 now,i64 keep]) _:=iF.2 ⟨_,rfl,iM (S.get 0 rfl) (iM (S.get 1 rfl) (iM (S.get 2 rfl) (fh (fh iL))))⟩
   have e:(bg.g [.a 1 (bc.map bg.i),.a 1 (aH.map f),.a 25 zL,.i now,.i keep]).enc=bN.enc ⟨bc,aH,aL,now,keep⟩:=by
    have h1:bg.dv (aH.map f)=aH.map aI.enc:=jC (fun z=>(hf z).1) _;simp only[bN.enc,bg.enc,bg.uo,bg.xX,h1,bg.jW zL,hv];rfl
   rw[<-e];have d1:=yg bc;have d2:bg.dO (aH.map f)<=16:=nt fun d hd=>by obtain⟨z,_,rfl⟩:=aaO.1 hd;exact(hf z).2
   have d3:=nt hd;exact cq.snap ho (by simp only[bg.dep,bg.dO];omega)
theorem aI.tD(z:List Item):(aI.da z).dep<=15:=by have:=lG z;simpa only[aI.da,aI.d,bg.dep]using this
theorem z9{h:aG}{Q:List Chunk}{bc:List Int}{aH:List (List Item)}{aL:List View}{zL:List bg}{now keep:Int}{W T V:af}{F1 F2 F3:List Nat}(hv:zL.map bg.enc=aL.map View.enc)(hd: ∀d∈zL,d.dep<=4000000)
  (S:aj h (.dL (.a 1 (bc.map bg.i)) W F1:: .dL (.a 1 (aH.map aI.da)) T F2:: .dL (.a 25 zL) V F3::Q)):Am.snap h (.agg [W,T,V,i64 now,i64 keep])=some (bN.enc ⟨bc,aH,aL,now,keep⟩):=
   Ja (fun z=>⟨aI.iY z,aI.tD z⟩) hv hd S
theorem Jb{h:aG}{Q:List Chunk}{bc:List Int}{aH:List (List Item)}{aL:List View}{zL:List bg}{now keep:Int}{W T V:af}{F1 F2 F3:List Nat}(hv:zL.map bg.enc=aL.map View.enc)(hd: ∀d∈zL,d.dep<=4000000)
  (S:aj h (.dL (.a 1 (bc.map bg.i)) W F1:: .dL (.a 1 (aH.map aI.d)) T F2:: .dL (.a 25 zL) V F3::Q)):Am.snap h (.agg [W,T,V,i64 now,i64 keep])=some (bN.enc ⟨bc,aH,aL,now,keep⟩):=
   Ja (fun z=>⟨aI.fG z,lG z⟩) hv hd S
theorem cZ.mono{f g:List Item->bg}{h:aG}(hm: ∀z v F,cq h (f z) v F->cq h (g z) v F): ∀{xs:List (List Item)}{vs:List af}{F:List Nat},cZ h (xs.map f) vs F->cZ h (xs.map g) vs F
 | [],vs,F,ho=>by simpa[cZ]using ho
 |x::xs,vs,F,ho=>by
  simp only[aao,cZ]at ho⊢;obtain⟨v,fx,F1,F2,rfl,rfl,h1,h2⟩:=ho;exact⟨v,fx,F1,F2,rfl,rfl,hm _ _ _ h1,cZ.mono hm h2⟩
theorem cq.WU{h:aG}{aH:List (List Item)}{T:af}{F:List Nat}(ho:cq h (.a 1 (aH.map aI.da)) T F):cq h (.a 1 (aH.map aI.d)) T F:=by
 simp only[cq]at ho⊢;rcases ho with⟨h1,h2,h3⟩|⟨id,vs,Fs,h1,h2,h3,h4⟩
 ·exact .inl ⟨by simpa using h1,h2,h3⟩
 ·exact .inr ⟨id,vs,Fs,by simpa using h1,h2,cZ.mono (fun z v F h=>(cq.IV h).1) h3,h4⟩
theorem tD{v:View}(ht:v.d.fA<=1048576):v.da.dep<=4000000:=by
 have e:v.da.fA=v.d.fA:=by simp only[View.da,View.d,bg.fA,bg.fV]
 have:=(My _).1 v.da (aah _);omega
def uE(d:bg)(bO:Int)(base:List Item)(aZ:List dg):bg:=.g [d,.i bO,aI.d base,.a 2 (aZ.map dg.d)]
theorem qV{f:bz}{d:bg}(hd:FD f d)(bO:Int)(base:List Item)(aZ:List dg):(uE d bO base aZ).enc=View.enc ⟨f,bO,base,aZ⟩:=by
 simp only[uE,View.enc,bg.enc,bg.uo,aI.fG,ym f d hd,jC dg.fG];rfl
theorem Lx(ps:List dg):bg.dO (ps.map dg.d)<=16:=nt fun d hd=>by
 obtain⟨x,_,rfl⟩:=aaO.1 hd;have:=lG x.out;simp only[dg.d,bg.dep,bg.dO];omega
theorem qW{d:bg}(bO:Int)(base:List Item)(aZ:List dg)(h:d.dep<=3000000):(uE d bO base aZ).dep<=4000000:=by
 have h1:=lG base;have h2:=Lx aZ;simp only[uE,bg.dep,bg.dO];omega
theorem aj.Jc{h:aG}{L':List Chunk}{au n:Int}{aD:Test}{a b:Int}{agg col:Int}{d:bg}{C K D L R KS B P:af}{bO:Int}{base:List Item}{aZ:List dg}{F1 F2 F3:List Nat}
  (S:aj h (.dL d (.agg (bL au n aD C a b K agg col D [L,R,KS])) F1:: .dL (aI.d base) B F2:: .dL (.a 2 (aZ.map dg.d)) P F3::L')):
  aj h (.dL (uE d bO base aZ) (.agg (bL au n aD C a b K agg col D [L,R,KS,i64 bO,B,P])) (F1++(F2++(F3++[])))::L'):=by
   refine aj.U5 [.dL d (.agg (bL au n aD C a b K agg col D [L,R,KS])) F1,.dL (aI.d base) B F2,.dL (.a 2 (aZ.map dg.d)) P F3] S ?_ (by simp[Chunk.dL]);exact iF.2 ⟨_,rfl,iS (S.get 0 rfl) (fh (jD (S.get 1 rfl) (iM (S.get 2 rfl) iL)))⟩
def uF(s:bN)(p:aA):bN×Int:=
 if dz s=false then(U6,6)else if dY p s.bc<1 then(s,2)else if 3<=s.aL.length then(s,5)else match jg (iX p) s.aH with
  |none=>(s,5)
  |some (f,base)=>(⟨s.bc,s.aH,s.aL++[⟨f,s.now,base,[]⟩],s.now,s.keep⟩,0)
theorem Jd(hp:cF pr)(s:bN)(p:aA)(ht:s.d.fA<=1048576)(gu:p.small)(dN:dz s=true->1<=dY p s.bc->mT s.bc 6 (iX p) (dY p s.bc))
  (Sp:dz s=true->(∀(i:Nat) z v,s.aH[i]?=some z->s.bc[i]?=some v->dS z=true/\eB v z)/\s.aH.length<=1000/\ ∀z∈s.aH,dS z=true) (OY:(uF s p).1.d.fA<=1048576):
  nc pr 81 [s.enc,p.enc] [(uF s p).1.da,.i (uF s p).2]:=by
   have eb:=mQ hp s ht;have Gi:=nr hp s ht;have xP:=qd hp p s.bc gu;have Fx:=WH hp p gu;have ir:=nr hp _ OY;clear OY;have aQ:uF s p=uF s p:=rfl;conv at aQ=>rhs;unfold uF
   generalize uF s p=res at aQ ir⊢;have zn: ∀v∈s.aL,v.d.fA<=1048576:=fun v hv=>by have:=eK s;have:=eA (f:=View.d) hv;omega
   obtain⟨bc,aH,aL,now,keep⟩:=s;obtain⟨au,n,aD,cells,a,b,aq,agg,col,ao⟩:=p;refine gT hp rfl ?_;have S:=aj.nil [];conv=>whnf
   intro k1 a1 eg er;replace S:=S.alloc eg er;conv=>whnf
   intro k2 a2 jS jb;replace S:=S.alloc jS jb;conv=>whnf
   intro k3 a3 mF lI;replace S:=S.alloc mF lI;refine aC (S.row 2 rfl) ?_;conv=>whnf
   refine⟨_,eb _,?_⟩;conv=>whnf
   cases lf:dz ⟨bc,aH,aL,now,keep⟩with
   |false=>
    rw[lf]at aQ;rw[if_pos rfl]at aQ;subst aQ;conv=>whnf
    refine⟨_,rfl,rfl,rfl,.inl ⟨_,S.row 0 rfl,rfl,?_⟩⟩;conv=>whnf
    intro a3 nq;replace S:=S.w0 nq;conv=>whnf
    exact⟨_,aS rfl rfl (S.row 0 rfl) rfl rfl,_,_,_,rfl,iH (xh _) (uq 6),by simp⟩
   |true=>
    rw[lf,if_neg (by simp)]at aQ;dsimp only at aQ;have dN:=dN lf;obtain⟨Ly,R0,WV⟩:=Sp lf;dsimp only at dN zn Ly R0 WV xP;have CI:aL.length<=3:=by simp only[dz,xz,decide_eq_true_iff]at lf;exact lf.2.2.1
    refine aC (S.row 2 rfl) ?_;conv=>whnf
    refine fp S Gi rfl rfl fun v q1 F1 o1 S1=>?_;clear S Gi eb o1;obtain⟨W,T,V,G1,G2,G3,rfl,cW,cT,cV,S⟩:=aj.iZ S1;clear S1;conv=>whnf
    intro k4 a4 vp qX;replace S:=S.alloc vp qX;conv=>whnf
    refine⟨[W,T,V,i64 now,i64 keep],(by kernel_rfl),rfl,(bM cW (bM cT (bM cV rfl))),.inl ⟨_,S.row 0 rfl,rfl,?_⟩⟩;conv=>whnf
    intro b1 fw;replace S:=S.w0 fw;refine aC (S.row 5 rfl) ?_;refine aC (S.row 6 rfl) ?_;conv=>whnf
    refine⟨_,xP _,?_⟩;conv=>whnf
    refine ae (fun g1=>?_) (fun g1=>?_)
    ·rw[if_pos (by simpa using g1)]at aQ;subst aQ;refine aC (S.row 0 rfl) ?_;conv=>whnf
     refine⟨[W,T,V,i64 now,i64 keep],(by kernel_rfl),rfl,(bM cW (bM cT (bM cV rfl))),.inl ⟨_,S.row 4 rfl,rfl,?_⟩⟩;conv=>whnf
     intro b2 ea;replace S:=S.w4 ea;conv=>whnf
     exact⟨_,aS rfl rfl (S.row 4 rfl) rfl rfl,_,_,_,rfl,mA (aj.ik (S.drop 0)) 2⟩
    ·have yu:1<=dY (.mk au n aD cells a b aq agg col ao) bc:=by simp at g1;omega
     rw[if_neg (by simpa using g1)]at aQ;have mw:=dN yu;refine aC (S.row 0 rfl) ?_;conv=>whnf
     rcases CU (show cq b1 (.a 25 (aL.map View.da)) V G3 from S.get 3 rfl)with⟨rfl,rfl⟩|⟨id,rfl⟩
     ·rw[if_neg (by simp)]at aQ;simp only[iX]at Fx mw aQ;have Fx:=Fx;refine aC (S.row 5 rfl) ?_;conv=>whnf
      refine fp S Fx rfl rfl fun fv q5 F5 o5 S5=>?_;clear S;have S:=S5;obtain⟨C5,K5,D5,L5,R5,KS5,rfl,hc5⟩:=pz o5;clear S5 o5 hc5;refine aC (S.row 1 rfl) ?_;conv=>whnf
      intro k5 a5 CS qJ;replace S:=(S.alloc CS qJ).swap;conv=>whnf
      obtain⟨Zk,hc,jH⟩:=BW hp Ly ⟨R0,WV⟩ T 6 (by omega) au n aD cells a b aq agg col ao [] [] (fW ao) _ mw _ _ _ _ _ (w9 _) S fun h' S'=>by
       rw[<-bX.fG];have:=(cq.IV (cq.WU (show cq h' (.a 1 (aH.map aI.da)) T G2 from S'.get 3 rfl))).1;exact cq.snap (d:=bX.d aH) this (by have:=iW aH;omega)
      refine⟨_,hc,?_⟩;clear hc S Fx;unfold gY at jH
      cases Cr:jg (.mk (.mk au n aD cells a b aq agg col ao) [] [] (fW ao)) aH with
      |none=>
       rw[Cr]at jH aQ;obtain⟨C2,K2,D2,L2,R2,so,w2,Dc,rfl,dR,CQ,S⟩:=jH;rcases CQ with rfl|rfl|⟨i9,n9,rfl⟩
       all_goals
        conv=>whnf
        refine⟨?_,?_⟩
        ·repeat
          ((conv=>whnf);first|trivial|refine⟨by first|((conv=>whnf);exact⟨_,rfl,S.row 0 rfl⟩)|((conv=>whnf);exact cm rfl (S.row 1 rfl) rfl rfl),?_⟩)
        conv=>whnf
        refine⟨(bL au n aD C2 a b K2 agg col D2 [L2,R2,so]),(by kernel_rfl),rfl,dR,.inl ⟨_,S.row 0 rfl,rfl,?_⟩⟩;conv=>whnf
        intro b5 jF;replace S:=S.w0 jF;conv=>whnf
        subst aQ;refine aC (S.row 1 rfl) ?_;conv=>whnf
        refine⟨[W,T,.nil,i64 now,i64 keep],(by kernel_rfl),rfl,(bM cW (bM cT (bM cV rfl))),.inl ⟨_,S.row 5 rfl,rfl,?_⟩⟩;conv=>whnf
        intro b2 ea;replace S:=S.w5 ea;conv=>whnf
        exact⟨_,aS rfl rfl (S.row 5 rfl) rfl rfl,_,_,_,rfl,mA (aj.ik ((S.drop 0).drop 0)) 5⟩
      |some p2=>
       obtain⟨f2,base⟩:=p2;rw[Cr]at jH aQ;obtain⟨v2,w2,d2,G4,H2,Dc,rfl,mU,S⟩:=jH;obtain⟨fP,Zl,hwb,vD⟩:=ud Ly 6 _ f2 _ base mw Cr;have zq:=tw 6 _ _ fP;have NC:=tp _ _ mU;obtain⟨⟨kd,nn,tt,cc,ta,tb,kk,ag,cl,qq⟩,ll,rr,fk⟩:=f2;obtain⟨C2,K2,D2,L2,R2,so,Ze,X1,X2,X3,RW,rfl,BX,y1,y2,y3,Sx⟩:=aj.uC mU S;have dR:(bL kd nn tt C2 ta tb K2 ag cl D2 [L2,R2,so]).all af.bQ=true:=pP y1 y2 y3 (bM (show XR _ ll L2 X1 from Sx.get 1 rfl).cell.2 (bM (show XR _ rr R2 X2 from Sx.get 2 rfl).cell.2 (bM (show cq _ (.s 22 RW) so X3 from Sx.get 3 rfl).cell.2 rfl)));clear Sx y1 y2 y3 BX;rcases(show cq _ (.s 2 (base.map Item.d)) w2 H2 from S.get 1 rfl).slice with rfl|rfl|⟨i9,n9,rfl⟩
       all_goals
        conv=>whnf
        refine⟨?_,?_⟩
        ·repeat
          ((conv=>whnf);first|trivial|refine⟨by first|((conv=>whnf);exact⟨_,rfl,S.row 2 rfl⟩)|((conv=>whnf);exact cm rfl (S.row 3 rfl) rfl rfl),?_⟩)
        conv=>whnf
        refine⟨(bL kd nn tt C2 ta tb K2 ag cl D2 [L2,R2,so]),(by kernel_rfl),rfl,dR,.inl ⟨_,S.row 2 rfl,rfl,?_⟩⟩;conv=>whnf
        intro b5 jF;replace S:=S.w2 jF;conv=>whnf
        subst aQ;dsimp only at ir;refine aC (S.row 3 rfl) ?_;refine aC (S.row 2 rfl) ?_;refine aC (S.row 3 rfl) ?_;conv=>whnf
        replace S:=aj.xg (d:=.a 2 (([]:List dg).map dg.d)) (v:=.nil) (fun _=>by unfold cq;exact .inl ⟨rfl,rfl,rfl⟩) S;replace S:=S.q2;replace S:=S.q2;replace S:=aj.Jc (bO:=now) S;replace S:=S.q5;replace S:=aj.Ls S;intro pI pJ dT dU;replace S:=S.alloc dT dU;conv=>whnf
        refine⟨trivial,?_⟩;conv=>whnf
        refine⟨[_],bT (S.row 0 rfl),fi rfl (rW (r:=[L2,R2,so]) dR rfl),?_⟩;replace S:=S.drop 0;dsimp only[List.eraseIdx]at S;refine lp (sz:=25) (d:=uE d2 now base []) S (by first|(simp[bB];done)|(simp[bB];omega)) fun k6 h6 F6 S2=>?_;clear S;have S:=S2;clear S2;conv=>whnf
        refine⟨_,rfl,rfl,rfl,.inl ⟨_,S.row 2 rfl,rfl,?_⟩⟩;conv=>whnf
        intro b6 tq;replace S:=S.w2 tq;refine aC (S.row 2 rfl) ?_;conv=>whnf
        replace S:=aj.qU S;replace S:=S.q4;replace S:=S.q4
        have oG:=z9 (aL:=[]++[⟨.mk (.mk kd nn tt cc ta tb kk ag cl qq) ll rr fk,now,base,[]⟩]) (now:=now) (keep:=keep) (by rw[aaD,aaD,List.map_map,aao,abA,qV mU];congr 1<;>exact List.map_congr_left fun x _=>View.iY x) (fun d hd=>by
         rcases aaS.1 hd with hd|hd
         ·obtain⟨v,hv,rfl⟩:=aaO.1 hd;exact tD (zn v hv)
         ·simp at hd;subst hd;exact qW _ _ _ (by omega)) S
        refine fp S ir rfl (bu oG (dM _)) fun v9 q9 F9 o9 S9=>?_;clear S oG ir o9;obtain⟨W9,T9,V9,_,_,_,rfl,c9,B6,pC,_⟩:=aj.iZ S9;conv=>whnf
        refine⟨[W9,T9,V9,i64 now,i64 keep],(by kernel_rfl),rfl,(bM c9 (bM B6 (bM pC rfl))),.inl ⟨_,S9.row 6 rfl,rfl,?_⟩⟩;conv=>whnf
        intro b9 j7;replace S9:=S9.w6 j7;conv=>whnf
        exact⟨_,aS rfl rfl (S9.row 6 rfl) rfl rfl,_,_,_,rfl,mA S9 0⟩
     ·conv=>whnf
      refine ae (fun g2=>?_) (fun g2=>?_)
      ·rw[if_pos (by simp at g2;omega)]at aQ;subst aQ;refine aC (S.row 0 rfl) ?_;conv=>whnf
       refine⟨[W,T,.own id 0 aL.length,i64 now,i64 keep],(by kernel_rfl),rfl,(bM cW (bM cT (bM cV rfl))),.inl ⟨_,S.row 4 rfl,rfl,?_⟩⟩;conv=>whnf
       intro b2 ea;replace S:=S.w4 ea;conv=>whnf
       exact⟨_,aS rfl rfl (S.row 4 rfl) rfl rfl,_,_,_,rfl,mA (aj.ik (S.drop 0)) 5⟩
      ·rw[if_neg (by simp at g2;omega)]at aQ;simp only[iX]at Fx mw aQ;have Fx:=Fx;refine aC (S.row 5 rfl) ?_;conv=>whnf
       refine fp S Fx rfl rfl fun fv q5 F5 o5 S5=>?_;clear S;have S:=S5;obtain⟨C5,K5,D5,L5,R5,KS5,rfl,hc5⟩:=pz o5;clear S5 o5 hc5;refine aC (S.row 1 rfl) ?_;conv=>whnf
       intro k5 a5 CS qJ;replace S:=(S.alloc CS qJ).swap;conv=>whnf
       obtain⟨Zk,hc,jH⟩:=BW hp Ly ⟨R0,WV⟩ T 6 (by omega) au n aD cells a b aq agg col ao [] [] (fW ao) _ mw _ _ _ _ _ (w9 _) S fun h' S'=>by
        rw[<-bX.fG];have:=(cq.IV (cq.WU (show cq h' (.a 1 (aH.map aI.da)) T G2 from S'.get 3 rfl))).1;exact cq.snap (d:=bX.d aH) this (by have:=iW aH;omega)
       refine⟨_,hc,?_⟩;clear hc S Fx;unfold gY at jH
       cases Cr:jg (.mk (.mk au n aD cells a b aq agg col ao) [] [] (fW ao)) aH with
       |none=>
        rw[Cr]at jH aQ;obtain⟨C2,K2,D2,L2,R2,so,w2,Dc,rfl,dR,CQ,S⟩:=jH;rcases CQ with rfl|rfl|⟨i9,n9,rfl⟩
        all_goals
         conv=>whnf
         refine⟨?_,?_⟩
         ·repeat
           ((conv=>whnf);first|trivial|refine⟨by first|((conv=>whnf);exact⟨_,rfl,S.row 0 rfl⟩)|((conv=>whnf);exact cm rfl (S.row 1 rfl) rfl rfl),?_⟩)
         conv=>whnf
         refine⟨(bL au n aD C2 a b K2 agg col D2 [L2,R2,so]),(by kernel_rfl),rfl,dR,.inl ⟨_,S.row 0 rfl,rfl,?_⟩⟩;conv=>whnf
         intro b5 jF;replace S:=S.w0 jF;conv=>whnf
         subst aQ;refine aC (S.row 1 rfl) ?_;conv=>whnf
         refine⟨[W,T,.own id 0 aL.length,i64 now,i64 keep],(by kernel_rfl),rfl,(bM cW (bM cT (bM cV rfl))),.inl ⟨_,S.row 5 rfl,rfl,?_⟩⟩;conv=>whnf
         intro b2 ea;replace S:=S.w5 ea;conv=>whnf
         exact⟨_,aS rfl rfl (S.row 5 rfl) rfl rfl,_,_,_,rfl,mA (aj.ik ((S.drop 0).drop 0)) 5⟩
       |some p2=>
        obtain⟨f2,base⟩:=p2;rw[Cr]at jH aQ;obtain⟨v2,w2,d2,G4,H2,Dc,rfl,mU,S⟩:=jH;obtain⟨fP,Zl,hwb,vD⟩:=ud Ly 6 _ f2 _ base mw Cr;have zq:=tw 6 _ _ fP;have NC:=tp _ _ mU;obtain⟨⟨kd,nn,tt,cc,ta,tb,kk,ag,cl,qq⟩,ll,rr,fk⟩:=f2;obtain⟨C2,K2,D2,L2,R2,so,Ze,X1,X2,X3,RW,rfl,BX,y1,y2,y3,Sx⟩:=aj.uC mU S;have dR:(bL kd nn tt C2 ta tb K2 ag cl D2 [L2,R2,so]).all af.bQ=true:=pP y1 y2 y3 (bM (show XR _ ll L2 X1 from Sx.get 1 rfl).cell.2 (bM (show XR _ rr R2 X2 from Sx.get 2 rfl).cell.2 (bM (show cq _ (.s 22 RW) so X3 from Sx.get 3 rfl).cell.2 rfl)));clear Sx y1 y2 y3 BX;rcases(show cq _ (.s 2 (base.map Item.d)) w2 H2 from S.get 1 rfl).slice with rfl|rfl|⟨i9,n9,rfl⟩
        all_goals
         conv=>whnf
         refine⟨?_,?_⟩
         ·repeat
           ((conv=>whnf);first|trivial|refine⟨by first|((conv=>whnf);exact⟨_,rfl,S.row 2 rfl⟩)|((conv=>whnf);exact cm rfl (S.row 3 rfl) rfl rfl),?_⟩)
         conv=>whnf
         refine⟨(bL kd nn tt C2 ta tb K2 ag cl D2 [L2,R2,so]),(by kernel_rfl),rfl,dR,.inl ⟨_,S.row 2 rfl,rfl,?_⟩⟩;conv=>whnf
         intro b5 jF;replace S:=S.w2 jF;conv=>whnf
         subst aQ;dsimp only at ir;refine aC (S.row 3 rfl) ?_;refine aC (S.row 2 rfl) ?_;refine aC (S.row 3 rfl) ?_;conv=>whnf
         replace S:=aj.xg (d:=.a 2 (([]:List dg).map dg.d)) (v:=.nil) (fun _=>by unfold cq;exact .inl ⟨rfl,rfl,rfl⟩) S;replace S:=S.q2;replace S:=S.q2;replace S:=aj.Jc (bO:=now) S;replace S:=S.q5;replace S:=aj.Ls S;intro pI pJ dT dU;replace S:=S.alloc dT dU;conv=>whnf
         refine⟨trivial,?_⟩;conv=>whnf
         refine⟨[_],bT (S.row 0 rfl),fi rfl (rW (r:=[L2,R2,so]) dR rfl),?_⟩;replace S:=S.drop 0;dsimp only[List.eraseIdx]at S;refine lp (sz:=25) (d:=uE d2 now base []) S (by first|(simp[bB];done)|(simp[bB];omega)) fun k6 h6 F6 S2=>?_;clear S;have S:=S2;clear S2;conv=>whnf
         refine⟨_,rfl,rfl,rfl,.inl ⟨_,S.row 2 rfl,rfl,?_⟩⟩;conv=>whnf
         intro b6 tq;replace S:=S.w2 tq;refine aC (S.row 2 rfl) ?_;conv=>whnf
         replace S:=aj.qU S;replace S:=S.q4;replace S:=S.q4
         have oG:=z9 (aL:=aL++[⟨.mk (.mk kd nn tt cc ta tb kk ag cl qq) ll rr fk,now,base,[]⟩]) (now:=now) (keep:=keep) (by rw[aaD,aaD,List.map_map,aao,abA,qV mU];congr 1<;>exact List.map_congr_left fun x _=>View.iY x) (fun d hd=>by
          rcases aaS.1 hd with hd|hd
          ·obtain⟨v,hv,rfl⟩:=aaO.1 hd;exact tD (zn v hv)
          ·simp at hd;subst hd;exact qW _ _ _ (by omega)) S
         refine fp S ir rfl (bu oG (dM _)) fun v9 q9 F9 o9 S9=>?_;clear S oG ir o9;obtain⟨W9,T9,V9,_,_,_,rfl,c9,B6,pC,_⟩:=aj.iZ S9;conv=>whnf
         refine⟨[W9,T9,V9,i64 now,i64 keep],(by kernel_rfl),rfl,(bM c9 (bM B6 (bM pC rfl))),.inl ⟨_,S9.row 6 rfl,rfl,?_⟩⟩;conv=>whnf
         intro b9 j7;replace S9:=S9.w6 j7;conv=>whnf
         exact⟨_,aS rfl rfl (S9.row 6 rfl) rfl rfl,_,_,_,rfl,mA S9 0⟩
theorem ga{α:Type}{A B:List α}{e:α}{j:Nat}(h:A.length=j):(A++e::B)[0+((j:Nat):Int).toNat]?=some e:=by
 rw[aaK,aaa,<-h];simp
theorem R4{h:aG}{p:dg}{v:af}{F:List Nat}(ho:cq h p.d v F): ∃O,v= .agg [i64 p.dP,O]/\O.bQ=true:=by
 obtain⟨vv,rfl,hu⟩:=iF.1 ho;obtain⟨w1,rfl,Wr⟩:=pc.1 hu;obtain⟨O,w2,G1,G2,rfl,rfl,gO,DC⟩:=l6.1 Wr;obtain⟨rfl,rfl⟩:=fO.1 DC;exact⟨O,rfl,gO.cell.2⟩
def tE(dP:Int)(ps:List dg):List dg:=ps.filter fun p=>decide (p.dP>dP)
def lH(dP:Int)(v:View):View:=⟨v.hU,v.bO,mP dP v.base v.aZ,tE dP v.aZ⟩
def vu(dP:Int)(v:View):Bool:=dS (mP dP v.base v.aZ)
def uG(s:bN)(dP:Int):bN×Int:=
 if dz s=false then(U6,6)else if dP>s.now then(s,1)else if dP<s.keep then(s,4)else
  if s.aL.all (vu dP)then(⟨s.bc,s.aH,s.aL.map (lH dP),s.now,dP⟩,0)else(s,5)
theorem Je(hp:cF pr)(s:bN)(dP:Int)(ht:s.d.fA<=1048576)(OY:(uG s dP).1.d.fA<=1048576):nc pr 83 [s.enc,i64 dP] [(uG s dP).1.da,.i (uG s dP).2]:=by
 have eb:=mQ hp s ht;have Gi:=nr hp s ht;have ir:=nr hp _ OY;have Pp:=fun h v hv=>tW (vi (s:=s) h v hv);have aQ:uG s dP=uG s dP:=rfl;conv at aQ=>rhs;unfold uG
 generalize uG s dP=res at aQ ir OY⊢;have zn: ∀v∈s.aL,v.d.fA<=1048576:=fun v hv=>by have:=eK s;have:=eA (f:=View.d) hv;omega
 obtain⟨bc,aH,aL,now,keep⟩:=s;refine gT hp rfl ?_;have S:=aj.nil [];conv=>whnf
 intro k1 a1 eg er;replace S:=S.alloc eg er;conv=>whnf
 intro k2 a2 jS jb;replace S:=S.alloc jS jb;refine aC (S.row 1 rfl) ?_;conv=>whnf
 refine⟨_,eb _,?_⟩;conv=>whnf
 cases lf:dz ⟨bc,aH,aL,now,keep⟩with
 |false=>
  rw[lf]at aQ;rw[if_pos rfl]at aQ;subst aQ;conv=>whnf
  refine⟨_,rfl,rfl,rfl,.inl ⟨_,S.row 0 rfl,rfl,?_⟩⟩;conv=>whnf
  intro a3 nq;replace S:=S.w0 nq;conv=>whnf
  exact⟨_,aS rfl rfl (S.row 0 rfl) rfl rfl,_,_,_,rfl,iH (xh _) (uq 6),by simp⟩
 |true=>
  rw[lf,if_neg (by simp)]at aQ;dsimp only at aQ;have Pp:=Pp lf;dsimp only at Pp zn;have CI:aL.length<=3:=by simp only[dz,xz,decide_eq_true_iff]at lf;exact lf.2.2.1
  refine aC (S.row 1 rfl) ?_;conv=>whnf
  refine fp S Gi rfl rfl fun v q1 F1 o1 S1=>?_;clear S eb o1;obtain⟨W,T,V,G1,G2,G3,rfl,cW,cT,cV,S⟩:=aj.iZ S1;clear S1;conv=>whnf
  intro k3 a4 mF lI;replace S:=S.alloc mF lI;conv=>whnf
  refine⟨[W,T,V,i64 now,i64 keep],(by kernel_rfl),rfl,(bM cW (bM cT (bM cV rfl))),.inl ⟨_,S.row 0 rfl,rfl,?_⟩⟩;conv=>whnf
  intro b1 fw;replace S:=S.w0 fw;refine aC (S.row 0 rfl) ?_;conv=>whnf
  refine ae (fun g1=>?_) (fun g1=>?_)
  ·rw[if_pos (by simpa using g1)]at aQ;subst aQ;refine aC (S.row 0 rfl) ?_;conv=>whnf
   refine⟨[W,T,V,i64 now,i64 keep],(by kernel_rfl),rfl,(bM cW (bM cT (bM cV rfl))),.inl ⟨_,S.row 4 rfl,rfl,?_⟩⟩;conv=>whnf
   intro b2 ea;replace S:=S.w4 ea;conv=>whnf
   exact⟨_,aS rfl rfl (S.row 4 rfl) rfl rfl,_,_,_,rfl,mA (aj.ik (S.drop 0)) 1⟩
  rw[if_neg (by simpa using g1)]at aQ;refine aC (S.row 0 rfl) ?_;conv=>whnf
  refine ae (fun g2=>?_) (fun g2=>?_)
  ·rw[if_pos (by simpa using g2)]at aQ;subst aQ;refine aC (S.row 0 rfl) ?_;conv=>whnf
   refine⟨[W,T,V,i64 now,i64 keep],(by kernel_rfl),rfl,(bM cW (bM cT (bM cV rfl))),.inl ⟨_,S.row 4 rfl,rfl,?_⟩⟩;conv=>whnf
   intro b2 ea;replace S:=S.w4 ea;conv=>whnf
   exact⟨_,aS rfl rfl (S.row 4 rfl) rfl rfl,_,_,_,rfl,mA (aj.ik (S.drop 0)) 4⟩
  rw[if_neg (by simpa using g2)]at aQ;have hV:=CU (show cq b1 (.a 25 (aL.map View.da)) V G3 from S.get 3 rfl);replace S:=S.q3;conv=>whnf
  refine dQ (fun m tm hp=>∃(j:Nat)(F:List Nat),j+m=aL.length/\tm 7=i64 (j:Nat)/\(aL.take j).all (vu dP)=true/\aj hp [.dL (.a 25 ((aL.take j).map (fun v=>(lH dP v).da)++(aL.drop j).map View.da)) V F,.row k3 (.box (.agg [W,T,V,i64 now,i64 keep])),.dL (.a 1 (bc.map bg.i)) W G1,.dL (.a 1 (aH.map aI.da)) T G2,.row k2 (.box rX),.row k1 (.box (bN.enc ⟨bc,aH,aL,now,keep⟩))]) (fun mi U2 hq bG hI=>?_) aL.length ⟨0,G3,by simp,rfl,rfl,S⟩;clear S;obtain⟨i,F,hj,e7,aF,S⟩:=hI;have e1:=bG 1 (by kernel_rfl);conv at e1=>rhs;whnf
  have e2:=bG 2 (by kernel_rfl);conv at e2=>rhs;whnf
  have e4:=bG 4 (by kernel_rfl);conv at e4=>rhs;whnf
  have e6:=bG 6 (by kernel_rfl);conv at e6=>rhs;whnf
  refine⟨[(1,_),(2,_),(4,_),(6,_),(7,_)],⟨e1,e2,e4,e6,e7,trivial⟩,?_⟩;clear bG e1 e2 e4 e6 e7;have xE:i<4611686018427387904:=by omega
  refine aC (S.row 1 rfl) ?_;conv=>whnf
  rcases hV with⟨rfl,hn⟩|⟨id,rfl⟩
  rotate_left 1
  ·conv=>whnf
   refine ae (fun g3=>?_) (fun g3=>?_)
   ·have nK:i<aL.length:=by simpa using g3
    have WW:=Pp _ (aac nK);have WX:=zn _ (aac nK);have vE:(aL.take (i+1)).map (fun v=>(lH dP v).da)++(aL.drop (i+1)).map View.da=(aL.take i).map (fun v=>(lH dP v).da)++(lH dP aL[i]).da::(aL.drop (i+1)).map View.da:=by rw[dX nK,aaD];simp
    have dR:vu dP aL[i]=true->(aL.take (i+1)).all (vu dP)=true:=fun h=>by rw[dX nK,List.all_append,aF];simp[h]
    have I8:vu dP aL[i]=false->aL.all (vu dP)=false:=fun h=>by rw[List.all_eq_false];exact⟨_,aac nK,by rw[h];simp⟩
    have Zg:((aL.take i).map (fun v=>(lH dP v).da)).length=i:=by simp;omega
    have tF: ∀d:bg,aL.length=((aL.take i).map (fun v=>(lH dP v).da)++d::(aL.drop (i+1)).map View.da).length:=fun d=>by simp;omega
    rw[aaf nK,aao]at S;generalize(aL.take i).map (fun v=>(lH dP v).da)=XAd at S vE Zg tF;generalize Rc:(aL.drop (i+1)).map View.da=Z4 at S vE tF;generalize aL[i]=vw at S vE dR I8 WW WX;obtain⟨⟨⟨au,n,aD,cells,a,b,aq,agg,col,ao⟩,l,r,ks⟩,bO,base,aZ⟩:=vw;dsimp only at WW;obtain⟨z1,z2,z3⟩:=WW;rcases aj.B5 S with⟨hx,_,_⟩|⟨zS,vs,Fs,dm,rfl,S1⟩
    ·simp at hx
    injection dm with vt _ FJ;subst vt;obtain⟨XA,xv,XB,FA,G,FB,rfl,WT,S2⟩:=aj.D6 S1.swap;clear S S1;obtain⟨C,K,DD,L,R,KS,B,P,H1,H2,H3,rfl,sL,cB,cP,S⟩:=aj.M3 S2;clear S2;have xj:XA.length=i:=by rw[WT,Zg]
    have Rs:=tF (View.da (lH dP ⟨.mk (.mk au n aD cells a b aq agg col ao) l r ks,bO,base,aZ⟩));have WY:=wQ dP aZ base z2 (dC z1).2;have uj:ij (mP dP base aZ):=⟨by have:=WY.1;have:=(dA z1).1;simp[dB];omega,WY.2⟩;clear WY;refine aC (S.row 6 rfl) ?_;conv=>whnf
    refine⟨_,S.row 5 rfl,⟨by omega,by omega⟩,?_⟩;conv=>whnf
    refine .inr ⟨_,_,_,S.row 5 rfl,ga xj,?_⟩;conv=>whnf
    replace S:=S.q2;replace S:=S.is (c':=.dL (.s 2 (aZ.map dg.d)) P H3) (cq.IV (S.get 0 rfl)).1 rfl;refine Rn hp (more:=[]) (.inr rfl) z1 z2 (by omega) rfl S (fun h' S'=>aI.iT (S'.get 2 rfl)) (fun _ _=>rfl) fun D F4 q4 S4=>?_;clear S;have S:=S4;clear S4;obtain⟨z,hz⟩: ∃z,mP dP base aZ=z:=⟨_,rfl⟩;rw[show dt (mP dP base aZ) []=z from hz]at S;rw[hz]at uj;have hkz:vu dP ⟨.mk (.mk au n aD cells a b aq agg col ao) l r ks,bO,base,aZ⟩=dS z:=by rw[<-hz];rfl
    rw[hkz]at dR I8;have oD:sv 2 q4 (z.map Item.d) D F4:=S.get 0 rfl;have cD:=oD.1.cell;conv=>whnf
    refine⟨_,(iU hp z uj).here (bu (aI.iT oD.1) (dM _)) rfl rfl,?_⟩;clear oD;conv=>whnf
    refine ae (fun g4=>?_) (fun g4=>?_)
    ·have dR:=dR g4;conv=>whnf
     replace S:=(S.drop 3).front 1 rfl;dsimp only[List.eraseIdx]at S;rcases aj.open S with⟨Pb,hP,S1⟩|⟨idp,pv,Fp,Zm,rfl,S1⟩
     ·rcases hP with rfl|rfl
      ·replace S:=aj.lJ 2 S1;refine dQ (fun m tm hp=>tm 9= .nil/\tm 10=i64 0/\aj hp [.jA 2 [] .nil [],.jA 2 (z.map Item.d) D F4,.dL (bz.mk (.mk au n aD cells a b aq agg col ao) l r ks).d (.agg (bL au n aD C a b K agg col DD [L,R,KS])) H1,.ed XAd XA FA,.ed Z4 XB FB,.row id (.arr 25 (XA++ .agg (bL au n aD C a b K agg col DD [L,R,KS,i64 bO,B,.nil])::XB)),.row k3 (.box (.agg [W,T,.own id 0 aL.length,i64 now,i64 keep])),.dL (.a 1 (bc.map bg.i)) W G1,.dL (.a 1 (aH.map aI.da)) T G2,.row k2 (.box rX),.row k1 (.box (bN.enc ⟨bc,aH,aL,now,keep⟩))]) (fun m tm qD bG hI=>?_) 0 ⟨rfl,rfl,S⟩;clear S S1;obtain⟨e9,sq,S⟩:=hI;have e1:=bG 1 (by kernel_rfl);conv at e1=>rhs;whnf
       have e2:=bG 2 (by kernel_rfl);conv at e2=>rhs;whnf
       have e4:=bG 4 (by kernel_rfl);conv at e4=>rhs;whnf
       have e6:=bG 6 (by kernel_rfl);conv at e6=>rhs;whnf
       have e7:=bG 7 (by kernel_rfl);conv at e7=>rhs;whnf
       have e8:=bG 8 (by kernel_rfl);conv at e8=>rhs;whnf
       refine⟨[(1,_),(2,_),(4,_),(6,_),(7,_),(8,_),(9,_),(10,_)],⟨e1,e2,e4,e6,e7,e8,e9,sq,trivial⟩,?_⟩;clear bG e1 e2 e4 e6 e7 e8 e9 sq;have cN:af.nil.cells=[af.nil]/\af.nil.bQ=true:=⟨rfl,rfl⟩;obtain⟨N,hN⟩: ∃N,af.nil=N:=⟨_,rfl⟩;refine aC (S.row 6 rfl) ?_;conv=>whnf
       refine⟨_,S.row 5 rfl,⟨by omega,by omega⟩,?_⟩;conv=>whnf
       refine .inr ⟨_,_,_,S.row 5 rfl,ga xj,?_⟩;conv=>whnf
       rw[show([]:List bg)=(tE dP aZ).map dg.d by rw[List.map_eq_nil_iff.1 Pb];rfl]at S;refine aC (S.row 6 rfl) ?_;conv=>whnf
       refine⟨_,S.row 5 rfl,⟨by omega,by omega⟩,?_⟩;conv=>whnf
       refine⟨[D],cD.1,rfl,Ii cD.2,.inr ⟨_,_,_,S.row 5 rfl,ga xj,?_⟩⟩;conv=>whnf
       intro c1 se;replace S:=S.w5 se;rw[aaK,aaa,mu xj]at S;refine aC (S.row 6 rfl) ?_;conv=>whnf
       refine⟨_,S.row 5 rfl,⟨by omega,by omega⟩,?_⟩;conv=>whnf
       refine⟨[.nil],cN.1,rfl,Ii cN.2,.inr ⟨_,_,_,S.row 5 rfl,ga xj,?_⟩⟩;conv=>whnf
       intro c2 B7;replace S:=S.w5 B7;rw[aaK,aaa,mu xj]at S;conv=>whnf
       replace S:=aj.qU S;replace S:=S.q1;replace S:=aj.ek S;replace S:=S.q2;replace S:=aj.CT (uc (bO:=bO) (base:=z) S);replace S:=aj.r0 (n:=aL.length) S.swap (tF _);exact⟨mi-1,by omega,i+1,_,by omega,aP i xE,dR,by rw[Rc,vE];simpa only[lH,hz]using S⟩
      ·replace S:=aj.lJ 2 S1;refine dQ (fun m tm hp=>tm 9= .nil/\tm 10=i64 0/\aj hp [.jA 2 [] .nil [],.jA 2 (z.map Item.d) D F4,.dL (bz.mk (.mk au n aD cells a b aq agg col ao) l r ks).d (.agg (bL au n aD C a b K agg col DD [L,R,KS])) H1,.ed XAd XA FA,.ed Z4 XB FB,.row id (.arr 25 (XA++ .agg (bL au n aD C a b K agg col DD [L,R,KS,i64 bO,B,.sl []])::XB)),.row k3 (.box (.agg [W,T,.own id 0 aL.length,i64 now,i64 keep])),.dL (.a 1 (bc.map bg.i)) W G1,.dL (.a 1 (aH.map aI.da)) T G2,.row k2 (.box rX),.row k1 (.box (bN.enc ⟨bc,aH,aL,now,keep⟩))]) (fun m tm qD bG hI=>?_) 0 ⟨rfl,rfl,S⟩;clear S S1;obtain⟨e9,sq,S⟩:=hI;have e1:=bG 1 (by kernel_rfl);conv at e1=>rhs;whnf
       have e2:=bG 2 (by kernel_rfl);conv at e2=>rhs;whnf
       have e4:=bG 4 (by kernel_rfl);conv at e4=>rhs;whnf
       have e6:=bG 6 (by kernel_rfl);conv at e6=>rhs;whnf
       have e7:=bG 7 (by kernel_rfl);conv at e7=>rhs;whnf
       have e8:=bG 8 (by kernel_rfl);conv at e8=>rhs;whnf
       refine⟨[(1,_),(2,_),(4,_),(6,_),(7,_),(8,_),(9,_),(10,_)],⟨e1,e2,e4,e6,e7,e8,e9,sq,trivial⟩,?_⟩;clear bG e1 e2 e4 e6 e7 e8 e9 sq;have cN:af.nil.cells=[af.nil]/\af.nil.bQ=true:=⟨rfl,rfl⟩;obtain⟨N,hN⟩: ∃N,af.nil=N:=⟨_,rfl⟩;refine aC (S.row 6 rfl) ?_;conv=>whnf
       refine⟨_,S.row 5 rfl,⟨by omega,by omega⟩,?_⟩;conv=>whnf
       refine .inr ⟨_,_,_,S.row 5 rfl,ga xj,?_⟩;conv=>whnf
       rw[show([]:List bg)=(tE dP aZ).map dg.d by rw[List.map_eq_nil_iff.1 Pb];rfl]at S;refine aC (S.row 6 rfl) ?_;conv=>whnf
       refine⟨_,S.row 5 rfl,⟨by omega,by omega⟩,?_⟩;conv=>whnf
       refine⟨[D],cD.1,rfl,Ii cD.2,.inr ⟨_,_,_,S.row 5 rfl,ga xj,?_⟩⟩;conv=>whnf
       intro c1 se;replace S:=S.w5 se;rw[aaK,aaa,mu xj]at S;refine aC (S.row 6 rfl) ?_;conv=>whnf
       refine⟨_,S.row 5 rfl,⟨by omega,by omega⟩,?_⟩;conv=>whnf
       refine⟨[.nil],cN.1,rfl,Ii cN.2,.inr ⟨_,_,_,S.row 5 rfl,ga xj,?_⟩⟩;conv=>whnf
       intro c2 B7;replace S:=S.w5 B7;rw[aaK,aaa,mu xj]at S;conv=>whnf
       replace S:=aj.qU S;replace S:=S.q1;replace S:=aj.ek S;replace S:=S.q2;replace S:=aj.CT (uc (bO:=bO) (base:=z) S);replace S:=aj.r0 (n:=aL.length) S.swap (tF _);exact⟨mi-1,by omega,i+1,_,by omega,aP i xE,dR,by rw[Rc,vE];simpa only[lH,hz]using S⟩
     ·have vD:(aZ.map dg.d).length=aZ.length:=by simp
      rw[vD]at Zm;subst Zm;replace S:=aj.lJ 2 S1.swap;refine dQ (fun m tm hp=>∃(j:Nat)(N:af)(FN FR:List Nat)(pd HT:List af),j+m=aZ.length/\tm 9=N/\tm 10=i64 (j:Nat)/\pd.length=j/\aj hp [.jA 2 ((tE dP (aZ.take j)).map dg.d) N FN,.ed ((aZ.drop j).map dg.d) HT FR,.row idp (.arr 2 (pd++HT)),.jA 2 (z.map Item.d) D F4,.dL (bz.mk (.mk au n aD cells a b aq agg col ao) l r ks).d (.agg (bL au n aD C a b K agg col DD [L,R,KS])) H1,.ed XAd XA FA,.ed Z4 XB FB,.row id (.arr 25 (XA++ .agg (bL au n aD C a b K agg col DD [L,R,KS,i64 bO,B,.own idp 0 aZ.length])::XB)),.row k3 (.box (.agg [W,T,.own id 0 aL.length,i64 now,i64 keep])),.dL (.a 1 (bc.map bg.i)) W G1,.dL (.a 1 (aH.map aI.da)) T G2,.row k2 (.box rX),.row k1 (.box (bN.enc ⟨bc,aH,aL,now,keep⟩))]) (fun m tm qD bG hI=>?_) aZ.length ⟨0,.nil,[],Fp,[],pv,by simp,rfl,rfl,rfl,S⟩;clear S S1;obtain⟨j,N,FN,FR,pd,HT,Pl,e9,sq,Z5,S⟩:=hI;have e1:=bG 1 (by kernel_rfl);conv at e1=>rhs;whnf
      have e2:=bG 2 (by kernel_rfl);conv at e2=>rhs;whnf
      have e4:=bG 4 (by kernel_rfl);conv at e4=>rhs;whnf
      have e6:=bG 6 (by kernel_rfl);conv at e6=>rhs;whnf
      have e7:=bG 7 (by kernel_rfl);conv at e7=>rhs;whnf
      have e8:=bG 8 (by kernel_rfl);conv at e8=>rhs;whnf
      refine⟨[(1,_),(2,_),(4,_),(6,_),(7,_),(8,_),(9,_),(10,_)],⟨e1,e2,e4,e6,e7,e8,e9,sq,trivial⟩,?_⟩;clear bG e1 e2 e4 e6 e7 e8 e9 sq;have gA:j<4611686018427387904:=by omega
      refine aC (S.row 8 rfl) ?_;conv=>whnf
      refine⟨_,S.row 7 rfl,⟨by omega,by omega⟩,?_⟩;conv=>whnf
      refine .inr ⟨_,_,_,S.row 7 rfl,ga xj,?_⟩;conv=>whnf
      refine ae (fun g5=>?_) (fun g5=>?_)
      ·have bp:j<aZ.length:=by simpa using g5
       have fK:tE dP (aZ.take (j+1))=tE dP (aZ.take j)++(if decide (aZ[j].dP>dP)then [aZ[j]]else []):=by
        unfold tE;rw[dX bp,List.filter_append];simp only[List.filter_cons,List.filter_nil]
       have adV:(tE dP (aZ.take j)).length<=aZ.length:=aa3 (abH _ _) (by simp;omega);rw[aaf bp,aao]at S;generalize aZ[j]=p at S fK;obtain⟨xp,XC,G9,H9,rfl,rfl,S9⟩:=aj.uZ S.swap;clear S;have S:=S9;clear S9;obtain⟨O,rfl,cO⟩:=R4 (S.get 0 rfl);obtain⟨t,out⟩:=p;dsimp only at fK;refine aC (S.row 9 rfl) ?_;conv=>whnf
       refine⟨_,S.row 8 rfl,⟨by omega,by omega⟩,?_⟩;conv=>whnf
       refine .inr ⟨_,_,_,S.row 8 rfl,ga xj,?_⟩;conv=>whnf
       refine⟨_,S.row 3 rfl,⟨by omega,by omega⟩,?_⟩;conv=>whnf
       refine .inr ⟨_,_,_,S.row 3 rfl,ga Z5,?_⟩;conv=>whnf
       refine ae (fun g6=>?_) (fun g6=>?_)
       ·rw[if_pos (by simpa using g6)]at fK;refine aC (S.row 9 rfl) ?_;conv=>whnf
        refine⟨_,S.row 8 rfl,⟨by omega,by omega⟩,?_⟩;conv=>whnf
        refine .inr ⟨_,_,_,S.row 8 rfl,ga xj,?_⟩;conv=>whnf
        refine⟨_,S.row 3 rfl,⟨by omega,by omega⟩,?_⟩;conv=>whnf
        refine .inr ⟨_,_,_,S.row 3 rfl,ga Z5,?_⟩;conv=>whnf
        replace S:=S.q2;intro pI pJ dT dU;replace S:=S.alloc dT dU;conv=>whnf
        refine⟨trivial,?_⟩;conv=>whnf
        refine⟨[_],bT (S.row 0 rfl),fi rfl (bM rfl (bM cO rfl)),?_⟩;replace S:=S.drop 0;dsimp only[List.eraseIdx]at S;refine lp (sz:=2) (d:=dg.d ⟨t,out⟩) S (by simp[bB];omega) fun k6 h6 F6 S2=>?_;clear S;have S:=S2;clear S2;conv=>whnf
        rw[show pd++af.agg [i64 t,O]::XC=(pd++[af.agg [i64 t,O]])++XC by simp]at S;exact⟨m-1,by omega,j+1,_,_,_,pd++[.agg [i64 t,O]],XC,by omega,rfl,aP j gA,by simp[Z5],by rw[fK,aaD];exact S⟩
       ·rw[if_neg (by simpa using g6),aaw]at fK;conv=>whnf
        replace S:=(S.front 2 rfl).drop 1;dsimp only[List.eraseIdx]at S;rw[show pd++af.agg [i64 t,O]::XC=(pd++[af.agg [i64 t,O]])++XC by simp]at S;exact⟨m-1,by omega,j+1,_,_,_,pd++[.agg [i64 t,O]],XC,by omega,rfl,aP j gA,by simp[Z5],by rw[fK];exact S⟩
      ·have bp:j=aZ.length:=by simp at g5;omega
       subst bp;rw[aar]at S;replace S:=(S.drop 1).drop 1;dsimp only[List.eraseIdx]at S;have cN:=(show sv 2 qD ((tE dP aZ).map dg.d) N FN from S.get 0 rfl).1.cell;refine aC (S.row 6 rfl) ?_;conv=>whnf
       refine⟨_,S.row 5 rfl,⟨by omega,by omega⟩,?_⟩;conv=>whnf
       refine⟨[D],cD.1,rfl,Ii cD.2,.inr ⟨_,_,_,S.row 5 rfl,ga xj,?_⟩⟩;conv=>whnf
       intro c1 se;replace S:=S.w5 se;rw[aaK,aaa,mu xj]at S;refine aC (S.row 6 rfl) ?_;conv=>whnf
       refine⟨_,S.row 5 rfl,⟨by omega,by omega⟩,?_⟩;conv=>whnf
       refine⟨[N],cN.1,rfl,Ii cN.2,.inr ⟨_,_,_,S.row 5 rfl,ga xj,?_⟩⟩;conv=>whnf
       intro c2 B7;replace S:=S.w5 B7;rw[aaK,aaa,mu xj]at S;conv=>whnf
       replace S:=aj.qU S;replace S:=S.q1;replace S:=aj.ek S;replace S:=S.q2;replace S:=aj.CT (uc (bO:=bO) (base:=z) S);replace S:=aj.r0 (n:=aL.length) S.swap (tF _);exact⟨mi-1,by omega,i+1,_,by omega,aP i xE,dR,by rw[Rc,vE];simpa only[lH,hz]using S⟩
    ·rw[if_neg (by rw[I8 g4];simp)]at aQ;refine aC (S.row 11 rfl) ?_;conv=>whnf
     refine fp S Gi rfl rfl fun v9 q9 F9 o9 S9=>?_;clear S o9;obtain⟨W9,T9,V9,_,_,_,rfl,c9,B6,pC,_⟩:=aj.iZ S9;subst aQ;conv=>whnf
     refine⟨[W9,T9,V9,i64 now,i64 keep],(by kernel_rfl),rfl,(bM c9 (bM B6 (bM pC rfl))),.inl ⟨_,S9.row 11 rfl,rfl,?_⟩⟩;conv=>whnf
     intro b9 j7;replace S9:=S9.w11 j7;conv=>whnf
     exact⟨_,aS rfl rfl (S9.row 11 rfl) rfl rfl,_,_,_,rfl,mA S9 5⟩
   ·have bp:i=aL.length:=by simp at g3;omega
    subst bp;rw[aar,aal,abA,aaw]at S;rw[aar]at aF;rw[if_pos aF]at aQ;subst aQ;dsimp only at ir OY;conv=>whnf
    refine⟨_,rfl,rfl,rfl,.inl ⟨_,S.row 1 rfl,rfl,?_⟩⟩;conv=>whnf
    intro b5 jF;replace S:=S.w1 jF;refine aC (S.row 1 rfl) ?_;conv=>whnf
    replace S:=S.q3;replace S:=S.q3;have dN:=eK ⟨bc,aH,aL.map (lH dP),now,dP⟩;dsimp only at dN
    have oG:=z9 (aL:=aL.map (lH dP)) (now:=now) (keep:=dP) (by rw[List.map_map,List.map_map];exact List.map_congr_left fun x _=>View.iY _) (fun d hd=>by
     obtain⟨v,hv,rfl⟩:=aaO.1 hd;have:=eA (f:=View.d) (aaO.2 ⟨v,hv,rfl⟩:lH dP v∈aL.map (lH dP));exact tD (by omega)) S
    refine fp S ir rfl (bu oG (dM _)) fun v9 q9 F9 o9 S9=>?_;clear S oG ir o9;obtain⟨W9,T9,V9,_,_,_,rfl,c9,B6,pC,_⟩:=aj.iZ S9;conv=>whnf
    refine⟨[W9,T9,V9,i64 now,i64 dP],(by kernel_rfl),rfl,(bM c9 (bM B6 (bM pC rfl))),.inl ⟨_,S9.row 5 rfl,rfl,?_⟩⟩;conv=>whnf
    intro b9 j7;replace S9:=S9.w5 j7;conv=>whnf
    exact⟨_,aS rfl rfl (S9.row 5 rfl) rfl rfl,_,_,_,rfl,mA S9 0⟩
  ·have bp:i=aL.length:=by rw[hn]at hj⊢;simp at hj⊢;omega
   conv=>whnf
   subst bp;rw[aar,aal,abA,aaw]at S;rw[aar]at aF;rw[if_pos aF]at aQ;subst aQ;dsimp only at ir OY;conv=>whnf
   refine⟨_,rfl,rfl,rfl,.inl ⟨_,S.row 1 rfl,rfl,?_⟩⟩;conv=>whnf
   intro b5 jF;replace S:=S.w1 jF;refine aC (S.row 1 rfl) ?_;conv=>whnf
   replace S:=S.q3;replace S:=S.q3;have dN:=eK ⟨bc,aH,aL.map (lH dP),now,dP⟩;dsimp only at dN
   have oG:=z9 (aL:=aL.map (lH dP)) (now:=now) (keep:=dP) (by rw[List.map_map,List.map_map];exact List.map_congr_left fun x _=>View.iY _) (fun d hd=>by
    obtain⟨v,hv,rfl⟩:=aaO.1 hd;have:=eA (f:=View.d) (aaO.2 ⟨v,hv,rfl⟩:lH dP v∈aL.map (lH dP));exact tD (by omega)) S
   refine fp S ir rfl (bu oG (dM _)) fun v9 q9 F9 o9 S9=>?_;clear S oG ir o9;obtain⟨W9,T9,V9,_,_,_,rfl,c9,B6,pC,_⟩:=aj.iZ S9;conv=>whnf
   refine⟨[W9,T9,V9,i64 now,i64 dP],(by kernel_rfl),rfl,(bM c9 (bM B6 (bM pC rfl))),.inl ⟨_,S9.row 5 rfl,rfl,?_⟩⟩;conv=>whnf
   intro b9 j7;replace S9:=S9.w5 j7;conv=>whnf
   exact⟨_,aS rfl rfl (S9.row 5 rfl) rfl rfl,_,_,_,rfl,mA S9 0⟩
end Go.Proofs.YtfepbikckfehlaaGreat

/- What a store keeps: the reference's. -/
import Derived.Test.YtfepbikckfehlaaGreatGH37
set_option linter.unusedVariables false
set_option linter.unusedSimpArgs false
set_option maxHeartbeats 4000000
namespace Go.Proofs.YtfepbikckfehlaaGreat
open Go Go.Am
variable{pr:bL}(hp:bV pr)
set_option maxRecDepth 100000
theorem lW{N:Nat}: ∀{ds:List ba},(∀d∈ds,d.dep<=N)->ba.cZ ds<=N+1
 | [],_=>by simp[ba.cZ]
 |d::ds,h=>by
  have h1:=h d (by simp);have h2:=lW (ds:=ds) fun x hx=>h x (by simp[hx]);simp only[ba.cZ];omega
theorem Hn{h:aC}{Q:List Chunk}{f:List Item->ba}{bc:List Int}{aF:List (List Item)}{aK:List View}{yj:List ba}{now keep:Int}{W T V:af}{F1 F2 F3:List Nat}(hf: ∀z,(f z).enc=aE.enc z/\(f z).dep<=15)(hv:yj.map ba.enc=aK.map View.enc)(hd: ∀d∈yj,d.dep<=4000000)
  (S:ah h (.cU (.a 1 (bc.map ba.i)) W F1:: .cU (.a 1 (aF.map f)) T F2:: .cU (.a 25 yj) V F3::Q)):Am.snap h (.agg [W,T,V,i64 now,i64 keep])=some (bJ.enc ⟨bc,aF,aK,now,keep⟩):=by
   have ho:bP h (.g [.a 1 (bc.map ba.i),.a 1 (aF.map f),.a 25 yj,.i now,.i keep]) (.agg [W,T,V,i64 now,i64 keep]) _:=gx.2 ⟨_,rfl,gF (S.get 0 rfl) (gF (S.get 1 rfl) (gF (S.get 2 rfl) (ee (ee gE))))⟩
   have e:(ba.g [.a 1 (bc.map ba.i),.a 1 (aF.map f),.a 25 yj,.i now,.i keep]).enc=bJ.enc ⟨bc,aF,aK,now,keep⟩:=by
    have h1:ba.cz (aF.map f)=aF.map aE.enc:=iD (fun z=>(hf z).1) _;simp only[bJ.enc,ba.enc,ba.sL,ba.tA,h1,ba.nb yj,hv];rfl
   rw[<-e];have d1:=wC bc;have d2:ba.cZ (aF.map f)<=16:=lW fun d hd=>by obtain⟨z,_,rfl⟩:=bj.1 hd;exact(hf z).2
   have d3:=lW hd;exact bP.snap ho (by simp only[ba.dep,ba.cZ];omega)
theorem aE.r5(z:List Item):(aE.da z).dep<=15:=by have:=j0 z;simpa only[aE.da,aE.d,ba.dep]using this
theorem yE{h:aC}{Q:List Chunk}{bc:List Int}{aF:List (List Item)}{aK:List View}{yj:List ba}{now keep:Int}{W T V:af}{F1 F2 F3:List Nat}(hv:yj.map ba.enc=aK.map View.enc)(hd: ∀d∈yj,d.dep<=4000000)
  (S:ah h (.cU (.a 1 (bc.map ba.i)) W F1:: .cU (.a 1 (aF.map aE.da)) T F2:: .cU (.a 25 yj) V F3::Q)):Am.snap h (.agg [W,T,V,i64 now,i64 keep])=some (bJ.enc ⟨bc,aF,aK,now,keep⟩):=
   Hn (fun z=>⟨aE.gS z,aE.r5 z⟩) hv hd S
theorem Ho{h:aC}{Q:List Chunk}{bc:List Int}{aF:List (List Item)}{aK:List View}{yj:List ba}{now keep:Int}{W T V:af}{F1 F2 F3:List Nat}(hv:yj.map ba.enc=aK.map View.enc)(hd: ∀d∈yj,d.dep<=4000000)
  (S:ah h (.cU (.a 1 (bc.map ba.i)) W F1:: .cU (.a 1 (aF.map aE.d)) T F2:: .cU (.a 25 yj) V F3::Q)):Am.snap h (.agg [W,T,V,i64 now,i64 keep])=some (bJ.enc ⟨bc,aF,aK,now,keep⟩):=
   Hn (fun z=>⟨aE.eD z,j0 z⟩) hv hd S
theorem bZ.mono{f g:List Item->ba}{h:aC}(hm: ∀z v F,bP h (f z) v F->bP h (g z) v F): ∀{xs:List (List Item)}{vs:List af}{F:List Nat},bZ h (xs.map f) vs F->bZ h (xs.map g) vs F
 | [],vs,F,ho=>by simpa[bZ]using ho
 |x::xs,vs,F,ho=>by
  simp only[aM,bZ]at ho⊢;obtain⟨v,eo,F1,F2,rfl,rfl,h1,h2⟩:=ho;exact⟨v,eo,F1,F2,rfl,rfl,hm _ _ _ h1,bZ.mono hm h2⟩
theorem bP.UY{h:aC}{aF:List (List Item)}{T:af}{F:List Nat}(ho:bP h (.a 1 (aF.map aE.da)) T F):bP h (.a 1 (aF.map aE.d)) T F:=by
 simp only[bP]at ho⊢;rcases ho with⟨h1,h2,h3⟩|⟨id,vs,Fs,h1,h2,h3,h4⟩
 ·exact .inl ⟨by simpa using h1,h2,h3⟩
 ·exact .inr ⟨id,vs,Fs,by simpa using h1,h2,bZ.mono (fun z v F h=>(bP.GZ h).1) h3,h4⟩
theorem r5{v:View}(ht:v.d.eX<=1048576):v.da.dep<=4000000:=by
 have e:v.da.eX=v.d.eX:=by simp only[View.da,View.d,ba.eX,ba.eQ]
 have:=(Kz _).1 v.da (aB _);omega
def s8(d:ba)(bF:Int)(base:List Item)(aZ:List cC):ba:=.g [d,.i bF,aE.d base,.a 2 (aZ.map cC.d)]
theorem pK{f:bA}{d:ba}(hd:FD f d)(bF:Int)(base:List Item)(aZ:List cC):(s8 d bF base aZ).enc=View.enc ⟨f,bF,base,aZ⟩:=by
 simp only[s8,View.enc,ba.enc,ba.sL,aE.eD,wN f d hd,iD cC.eD];rfl
theorem JJ(ps:List cC):ba.cZ (ps.map cC.d)<=16:=lW fun d hd=>by
 obtain⟨x,_,rfl⟩:=bj.1 hd;have:=j0 x.out;simp only[cC.d,ba.dep,ba.cZ];omega
theorem pL{d:ba}(bF:Int)(base:List Item)(aZ:List cC)(h:d.dep<=3000000):(s8 d bF base aZ).dep<=4000000:=by
 have h1:=j0 base;have h2:=JJ aZ;simp only[s8,ba.dep,ba.cZ];omega
theorem ah.Hp{h:aC}{L':List Chunk}{aw n:Int}{aA:Test}{a b:Int}{agg col:Int}{d:ba}{C K D L R KS B P:af}{bF:Int}{base:List Item}{aZ:List cC}{F1 F2 F3:List Nat}
  (S:ah h (.cU d (.agg (bB aw n aA C a b K agg col D [L,R,KS])) F1:: .cU (aE.d base) B F2:: .cU (.a 2 (aZ.map cC.d)) P F3::L')):
  ah h (.cU (s8 d bF base aZ) (.agg (bB aw n aA C a b K agg col D [L,R,KS,i64 bF,B,P])) (F1++(F2++(F3++[])))::L'):=by
   refine ah.Tj [.cU d (.agg (bB aw n aA C a b K agg col D [L,R,KS])) F1,.cU (aE.d base) B F2,.cU (.a 2 (aZ.map cC.d)) P F3] S ?_ (by simp[Chunk.cU]);exact gx.2 ⟨_,rfl,gJ (S.get 0 rfl) (ee (iF (S.get 1 rfl) (gF (S.get 2 rfl) gE)))⟩
def s9(s:bJ)(p:ax):bJ×Int:=
 if cu s=false then(Tk,6)else if dq p s.bc<1 then(s,2)else if 3<=s.aK.length then(s,5)else match hH (gQ p) s.aF with
  |none=>(s,5)
  |some (f,base)=>(⟨s.bc,s.aF,s.aK++[⟨f,s.now,base,[]⟩],s.now,s.keep⟩,0)
theorem Hq(hp:bV pr)(s:bJ)(p:ax)(ht:s.d.eX<=1048576)(fm:p.small)(cY:cu s=true->1<=dq p s.bc->lA s.bc 6 (gQ p) (dq p s.bc))
  (QC:cu s=true->(∀(i:Nat) z v,s.aF[i]?=some z->s.bc[i]?=some v->c7 z=true/\dH v z)/\s.aF.length<=1000/\ ∀z∈s.aF,c7 z=true) (M1:(s9 s p).1.d.eX<=1048576):
  lu pr 81 [s.enc,p.enc] [(s9 s p).1.da,.i (s9 s p).2]:=by
   have dt:=jS hp s ht;have Ed:=lV hp s ht;have wH:=ox hp p s.bc fm;have DE:=UN hp p fm;have fR:=lV hp _ M1;clear M1;have aN:s9 s p=s9 s p:=rfl;conv at aN=>rhs;unfold s9
   generalize s9 s p=res at aN fR⊢;have xT: ∀v∈s.aK,v.d.eX<=1048576:=fun v hv=>by have:=d5 s;have:=ed (f:=View.d) hv;omega
   obtain⟨bc,aF,aK,now,keep⟩:=s;obtain⟨aw,n,aA,cells,a,b,ao,agg,col,al⟩:=p;refine fN hp rfl ?_;have S:ah [] []:=ah.nil [];conv=>whnf
   intro k1 a1 dw dC;replace S:=S.alloc dw dC;conv=>whnf
   intro k2 a2 jf iB;replace S:=S.alloc jf iB;conv=>whnf
   intro k3 a3 kS jN;replace S:=S.alloc kS jN;conv=>whnf
   refine aI (S.row 2 rfl) ?_;conv=>whnf
   refine⟨_,dt _,?_⟩;conv=>whnf
   cases jK:cu ⟨bc,aF,aK,now,keep⟩with
   |false=>
    rw[jK]at aN;rw[if_pos rfl]at aN;subst aN;conv=>whnf
    refine⟨_,rfl,rfl,rfl,.inl ⟨_,S.row 0 rfl,rfl,?_⟩⟩;conv=>whnf
    intro a3 lS;replace S:=S.w0 lS;conv=>whnf
    exact⟨_,aR rfl rfl (S.row 0 rfl) rfl rfl,_,_,_,rfl,eW (vq _) (nk 6),by simp⟩
   |true=>
    rw[jK,if_neg (by simp)]at aN;dsimp only at aN;have cY:=cY jK;obtain⟨JK,Qd,UZ⟩:=QC jK;dsimp only at cY xT JK Qd UZ wH;have wh:aK.length<=3:=by simp only[cu,aj,decide_eq_true_iff]at jK;exact jK.2.2.1
    conv=>whnf
    refine aI (S.row 2 rfl) ?_;conv=>whnf
    refine ek S Ed rfl rfl fun v q1 F1 o1 S1=>?_;clear S Ed dt o1;obtain⟨W,T,V,G1,G2,G3,rfl,cW,cT,cV,S⟩:=ah.gT S1;clear S1;conv=>whnf
    intro k4 a4 tN pM;replace S:=S.alloc tN pM;conv=>whnf
    refine⟨[W,T,V,i64 now,i64 keep],(by kernel_rfl),rfl,(bC cW (bC cT (bC cV rfl))),.inl ⟨_,S.row 0 rfl,rfl,?_⟩⟩;conv=>whnf
    intro b1 eN;replace S:=S.w0 eN;conv=>whnf
    refine aI (S.row 5 rfl) ?_;conv=>whnf
    refine aI (S.row 6 rfl) ?_;conv=>whnf
    refine⟨_,wH _,?_⟩;conv=>whnf
    refine ae (fun g1=>?_) (fun g1=>?_)
    ·rw[if_pos (by simpa using g1)]at aN;subst aN;conv=>whnf
     refine aI (S.row 0 rfl) ?_;conv=>whnf
     refine⟨[W,T,V,i64 now,i64 keep],(by kernel_rfl),rfl,(bC cW (bC cT (bC cV rfl))),.inl ⟨_,S.row 4 rfl,rfl,?_⟩⟩;conv=>whnf
     intro b2 dB;replace S:=S.w4 dB;conv=>whnf
     exact⟨_,aR rfl rfl (S.row 4 rfl) rfl rfl,_,_,_,rfl,kV (ah.fZ (S.drop 0)) 2⟩
    ·have wS:1<=dq (.mk aw n aA cells a b ao agg col al) bc:=by simp at g1;omega
     rw[if_neg (by simpa using g1)]at aN;have kP:=cY wS;conv=>whnf
     refine aI (S.row 0 rfl) ?_;conv=>whnf
     rcases Br (show bP b1 (.a 25 (aK.map View.da)) V G3 from S.get 3 rfl)with⟨rfl,rfl⟩|⟨id,rfl⟩
     ·rw[if_neg (by simp)]at aN;simp only[gQ]at DE kP aN;have DE:=DE;conv=>whnf
      refine aI (S.row 5 rfl) ?_;conv=>whnf
      refine ek S DE rfl rfl fun fv q5 F5 o5 S5=>?_;clear S;have S:=S5;obtain⟨C5,K5,D5,L5,R5,KS5,rfl,hc5⟩:=nC o5;clear S5 o5 hc5;conv=>whnf
      refine aI (S.row 1 rfl) ?_;conv=>whnf
      intro k5 a5 DI qf;replace S:=(S.alloc DI qf).swap;conv=>whnf
      obtain⟨Xq,hc,iJ⟩:=Au hp JK ⟨Qd,UZ⟩ T 6 (by omega) aw n aA cells a b ao agg col al [] [] (eT al) _ kP _ _ _ _ _ (vg _) S fun h' S'=>by
       rw[<-bM.eD];have:=(bP.GZ (bP.UY (show bP h' (.a 1 (aF.map aE.da)) T G2 from S'.get 3 rfl))).1;exact bP.snap (d:=bM.d aF) this (by have:=gM aF;omega)
      refine⟨_,hc,?_⟩;clear hc S DE;unfold fQ at iJ
      cases A5:hH (.mk (.mk aw n aA cells a b ao agg col al) [] [] (eT al)) aF with
      |none=>
       rw[A5]at iJ aN;obtain⟨C2,K2,D2,L2,R2,qW,w2,BF,rfl,c8,Bo,S⟩:=iJ;rcases Bo with rfl|rfl|⟨i9,n9,rfl⟩
       all_goals
        conv=>whnf
        refine⟨?_,?_⟩
        ·repeat
          ((conv=>whnf);first|trivial|refine⟨by first|((conv=>whnf);exact⟨_,rfl,S.row 0 rfl⟩)|((conv=>whnf);exact bO rfl (S.row 1 rfl) rfl rfl),?_⟩)
        conv=>whnf
        refine⟨(bB aw n aA C2 a b K2 agg col D2 [L2,R2,qW]),(by kernel_rfl),rfl,c8,.inl ⟨_,S.row 0 rfl,rfl,?_⟩⟩;conv=>whnf
        intro b5 iZ;replace S:=S.w0 iZ;conv=>whnf
        subst aN;refine aI (S.row 1 rfl) ?_;conv=>whnf
        refine⟨[W,T,.nil,i64 now,i64 keep],(by kernel_rfl),rfl,(bC cW (bC cT (bC cV rfl))),.inl ⟨_,S.row 5 rfl,rfl,?_⟩⟩;conv=>whnf
        intro b2 dB;replace S:=S.w5 dB;conv=>whnf
        exact⟨_,aR rfl rfl (S.row 5 rfl) rfl rfl,_,_,_,rfl,kV (ah.fZ ((S.drop 0).drop 0)) 5⟩
      |some p2=>
       obtain⟨f2,base⟩:=p2;rw[A5]at iJ aN;obtain⟨v2,w2,d2,G4,H2,BF,rfl,lB,S⟩:=iJ;obtain⟨eM,Xr,hwb,yt⟩:=sB JK 6 _ f2 _ base kP A5;have xX:=rV 6 _ _ eM;have LO:=rT _ _ lB;obtain⟨⟨kd,nn,tt,cc,ta,tb,kk,ag,cl,qq⟩,ll,rr,fk⟩:=f2;obtain⟨C2,K2,D2,L2,R2,qW,Xk,X1,X2,X3,P9,rfl,Av,y1,y2,y3,Sx⟩:=ah.s6 lB S;have c8:(bB kd nn tt C2 ta tb K2 ag cl D2 [L2,R2,qW]).all af.bE=true:=nU y1 y2 y3 (bC (show XR _ ll L2 X1 from Sx.get 1 rfl).cell.2 (bC (show XR _ rr R2 X2 from Sx.get 2 rfl).cell.2 (bC (show bP _ (.s 22 P9) qW X3 from Sx.get 3 rfl).cell.2 rfl)));clear Sx y1 y2 y3 Av;rcases(show bP _ (.s 2 (base.map Item.d)) w2 H2 from S.get 1 rfl).slice with rfl|rfl|⟨i9,n9,rfl⟩
       all_goals
        conv=>whnf
        refine⟨?_,?_⟩
        ·repeat
          ((conv=>whnf);first|trivial|refine⟨by first|((conv=>whnf);exact⟨_,rfl,S.row 2 rfl⟩)|((conv=>whnf);exact bO rfl (S.row 3 rfl) rfl rfl),?_⟩)
        conv=>whnf
        refine⟨(bB kd nn tt C2 ta tb K2 ag cl D2 [L2,R2,qW]),(by kernel_rfl),rfl,c8,.inl ⟨_,S.row 2 rfl,rfl,?_⟩⟩;conv=>whnf
        intro b5 iZ;replace S:=S.w2 iZ;conv=>whnf
        subst aN;dsimp only at fR;refine aI (S.row 3 rfl) ?_;conv=>whnf
        refine aI (S.row 2 rfl) ?_;conv=>whnf
        refine aI (S.row 3 rfl) ?_;conv=>whnf
        replace S:=ah.vp (d:=.a 2 (([]:List cC).map cC.d)) (v:=.nil) (fun _=>by unfold bP;exact .inl ⟨rfl,rfl,rfl⟩) S;replace S:=S.q2;replace S:=S.q2;replace S:=ah.Hp (bF:=now) S;replace S:=S.q5;replace S:=ah.JD S;intro nM nN de dg;replace S:=S.alloc de dg;conv=>whnf
        refine⟨trivial,?_⟩;conv=>whnf
        refine⟨[_],bG (S.row 0 rfl),ef rfl (qC (r:=[L2,R2,qW]) c8 rfl),?_⟩;replace S:=S.drop 0;dsimp only[List.eraseIdx]at S;refine jM (sz:=25) (d:=s8 d2 now base []) S (by first|(simp[br];done)|(simp[br];omega)) fun k6 h6 F6 S2=>?_;clear S;have S:=S2;clear S2;conv=>whnf
        refine⟨_,rfl,rfl,rfl,.inl ⟨_,S.row 2 rfl,rfl,?_⟩⟩;conv=>whnf
        intro b6 rU;replace S:=S.w2 rU;conv=>whnf
        refine aI (S.row 2 rfl) ?_;conv=>whnf
        replace S:=ah.pH S;replace S:=S.q4;replace S:=S.q4
        have mY:=yE (aK:=[]++[⟨.mk (.mk kd nn tt cc ta tb kk ag cl qq) ll rr fk,now,base,[]⟩]) (now:=now) (keep:=keep) (by rw[bd,bd,List.map_map,aM,List.map_nil,pK lB];congr 1<;>exact List.map_congr_left fun x _=>View.gS x) (fun d hd=>by
         rcases bu.1 hd with hd|hd
         ·obtain⟨v,hv,rfl⟩:=bj.1 hd;exact r5 (xT v hv)
         ·simp at hd;subst hd;exact pL _ _ _ (by omega)) S
        refine ek S fR rfl (bm mY (dc _)) fun v9 q9 F9 o9 S9=>?_;clear S mY fR o9;obtain⟨W9,T9,V9,_,_,_,rfl,c9,AF,nH,_⟩:=ah.gT S9;conv=>whnf
        refine⟨[W9,T9,V9,i64 now,i64 keep],(by kernel_rfl),rfl,(bC c9 (bC AF (bC nH rfl))),.inl ⟨_,S9.row 6 rfl,rfl,?_⟩⟩;conv=>whnf
        intro b9 i3;replace S9:=S9.w6 i3;conv=>whnf
        exact⟨_,aR rfl rfl (S9.row 6 rfl) rfl rfl,_,_,_,rfl,kV S9 0⟩
     ·conv=>whnf
      refine ae (fun g2=>?_) (fun g2=>?_)
      ·rw[if_pos (by simp at g2;omega)]at aN;subst aN;conv=>whnf
       refine aI (S.row 0 rfl) ?_;conv=>whnf
       refine⟨[W,T,.own id 0 aK.length,i64 now,i64 keep],(by kernel_rfl),rfl,(bC cW (bC cT (bC cV rfl))),.inl ⟨_,S.row 4 rfl,rfl,?_⟩⟩;conv=>whnf
       intro b2 dB;replace S:=S.w4 dB;conv=>whnf
       exact⟨_,aR rfl rfl (S.row 4 rfl) rfl rfl,_,_,_,rfl,kV (ah.fZ (S.drop 0)) 5⟩
      ·rw[if_neg (by simp at g2;omega)]at aN;simp only[gQ]at DE kP aN;have DE:=DE;conv=>whnf
       refine aI (S.row 5 rfl) ?_;conv=>whnf
       refine ek S DE rfl rfl fun fv q5 F5 o5 S5=>?_;clear S;have S:=S5;obtain⟨C5,K5,D5,L5,R5,KS5,rfl,hc5⟩:=nC o5;clear S5 o5 hc5;conv=>whnf
       refine aI (S.row 1 rfl) ?_;conv=>whnf
       intro k5 a5 DI qf;replace S:=(S.alloc DI qf).swap;conv=>whnf
       obtain⟨Xq,hc,iJ⟩:=Au hp JK ⟨Qd,UZ⟩ T 6 (by omega) aw n aA cells a b ao agg col al [] [] (eT al) _ kP _ _ _ _ _ (vg _) S fun h' S'=>by
        rw[<-bM.eD];have:=(bP.GZ (bP.UY (show bP h' (.a 1 (aF.map aE.da)) T G2 from S'.get 3 rfl))).1;exact bP.snap (d:=bM.d aF) this (by have:=gM aF;omega)
       refine⟨_,hc,?_⟩;clear hc S DE;unfold fQ at iJ
       cases A5:hH (.mk (.mk aw n aA cells a b ao agg col al) [] [] (eT al)) aF with
       |none=>
        rw[A5]at iJ aN;obtain⟨C2,K2,D2,L2,R2,qW,w2,BF,rfl,c8,Bo,S⟩:=iJ;rcases Bo with rfl|rfl|⟨i9,n9,rfl⟩
        all_goals
         conv=>whnf
         refine⟨?_,?_⟩
         ·repeat
           ((conv=>whnf);first|trivial|refine⟨by first|((conv=>whnf);exact⟨_,rfl,S.row 0 rfl⟩)|((conv=>whnf);exact bO rfl (S.row 1 rfl) rfl rfl),?_⟩)
         conv=>whnf
         refine⟨(bB aw n aA C2 a b K2 agg col D2 [L2,R2,qW]),(by kernel_rfl),rfl,c8,.inl ⟨_,S.row 0 rfl,rfl,?_⟩⟩;conv=>whnf
         intro b5 iZ;replace S:=S.w0 iZ;conv=>whnf
         subst aN;refine aI (S.row 1 rfl) ?_;conv=>whnf
         refine⟨[W,T,.own id 0 aK.length,i64 now,i64 keep],(by kernel_rfl),rfl,(bC cW (bC cT (bC cV rfl))),.inl ⟨_,S.row 5 rfl,rfl,?_⟩⟩;conv=>whnf
         intro b2 dB;replace S:=S.w5 dB;conv=>whnf
         exact⟨_,aR rfl rfl (S.row 5 rfl) rfl rfl,_,_,_,rfl,kV (ah.fZ ((S.drop 0).drop 0)) 5⟩
       |some p2=>
        obtain⟨f2,base⟩:=p2;rw[A5]at iJ aN;obtain⟨v2,w2,d2,G4,H2,BF,rfl,lB,S⟩:=iJ;obtain⟨eM,Xr,hwb,yt⟩:=sB JK 6 _ f2 _ base kP A5;have xX:=rV 6 _ _ eM;have LO:=rT _ _ lB;obtain⟨⟨kd,nn,tt,cc,ta,tb,kk,ag,cl,qq⟩,ll,rr,fk⟩:=f2;obtain⟨C2,K2,D2,L2,R2,qW,Xk,X1,X2,X3,P9,rfl,Av,y1,y2,y3,Sx⟩:=ah.s6 lB S;have c8:(bB kd nn tt C2 ta tb K2 ag cl D2 [L2,R2,qW]).all af.bE=true:=nU y1 y2 y3 (bC (show XR _ ll L2 X1 from Sx.get 1 rfl).cell.2 (bC (show XR _ rr R2 X2 from Sx.get 2 rfl).cell.2 (bC (show bP _ (.s 22 P9) qW X3 from Sx.get 3 rfl).cell.2 rfl)));clear Sx y1 y2 y3 Av;rcases(show bP _ (.s 2 (base.map Item.d)) w2 H2 from S.get 1 rfl).slice with rfl|rfl|⟨i9,n9,rfl⟩
        all_goals
         conv=>whnf
         refine⟨?_,?_⟩
         ·repeat
           ((conv=>whnf);first|trivial|refine⟨by first|((conv=>whnf);exact⟨_,rfl,S.row 2 rfl⟩)|((conv=>whnf);exact bO rfl (S.row 3 rfl) rfl rfl),?_⟩)
         conv=>whnf
         refine⟨(bB kd nn tt C2 ta tb K2 ag cl D2 [L2,R2,qW]),(by kernel_rfl),rfl,c8,.inl ⟨_,S.row 2 rfl,rfl,?_⟩⟩;conv=>whnf
         intro b5 iZ;replace S:=S.w2 iZ;conv=>whnf
         subst aN;dsimp only at fR;refine aI (S.row 3 rfl) ?_;conv=>whnf
         refine aI (S.row 2 rfl) ?_;conv=>whnf
         refine aI (S.row 3 rfl) ?_;conv=>whnf
         replace S:=ah.vp (d:=.a 2 (([]:List cC).map cC.d)) (v:=.nil) (fun _=>by unfold bP;exact .inl ⟨rfl,rfl,rfl⟩) S;replace S:=S.q2;replace S:=S.q2;replace S:=ah.Hp (bF:=now) S;replace S:=S.q5;replace S:=ah.JD S;intro nM nN de dg;replace S:=S.alloc de dg;conv=>whnf
         refine⟨trivial,?_⟩;conv=>whnf
         refine⟨[_],bG (S.row 0 rfl),ef rfl (qC (r:=[L2,R2,qW]) c8 rfl),?_⟩;replace S:=S.drop 0;dsimp only[List.eraseIdx]at S;refine jM (sz:=25) (d:=s8 d2 now base []) S (by first|(simp[br];done)|(simp[br];omega)) fun k6 h6 F6 S2=>?_;clear S;have S:=S2;clear S2;conv=>whnf
         refine⟨_,rfl,rfl,rfl,.inl ⟨_,S.row 2 rfl,rfl,?_⟩⟩;conv=>whnf
         intro b6 rU;replace S:=S.w2 rU;conv=>whnf
         refine aI (S.row 2 rfl) ?_;conv=>whnf
         replace S:=ah.pH S;replace S:=S.q4;replace S:=S.q4
         have mY:=yE (aK:=aK++[⟨.mk (.mk kd nn tt cc ta tb kk ag cl qq) ll rr fk,now,base,[]⟩]) (now:=now) (keep:=keep) (by rw[bd,bd,List.map_map,aM,List.map_nil,pK lB];congr 1<;>exact List.map_congr_left fun x _=>View.gS x) (fun d hd=>by
          rcases bu.1 hd with hd|hd
          ·obtain⟨v,hv,rfl⟩:=bj.1 hd;exact r5 (xT v hv)
          ·simp at hd;subst hd;exact pL _ _ _ (by omega)) S
         refine ek S fR rfl (bm mY (dc _)) fun v9 q9 F9 o9 S9=>?_;clear S mY fR o9;obtain⟨W9,T9,V9,_,_,_,rfl,c9,AF,nH,_⟩:=ah.gT S9;conv=>whnf
         refine⟨[W9,T9,V9,i64 now,i64 keep],(by kernel_rfl),rfl,(bC c9 (bC AF (bC nH rfl))),.inl ⟨_,S9.row 6 rfl,rfl,?_⟩⟩;conv=>whnf
         intro b9 i3;replace S9:=S9.w6 i3;conv=>whnf
         exact⟨_,aR rfl rfl (S9.row 6 rfl) rfl rfl,_,_,_,rfl,kV S9 0⟩
theorem fa{α:Type}{A B:List α}{e:α}{j:Nat}(h:A.length=j):(A++e::B)[0+((j:Nat):Int).toNat]?=some e:=by
 rw[bg,aq,<-h];simp
theorem Qe{h:aC}{p:cC}{v:af}{F:List Nat}(ho:bP h p.d v F): ∃O,v= .agg [i64 p.cA,O]/\O.bE=true:=by
 obtain⟨vv,rfl,hu⟩:=gx.1 ho;obtain⟨w1,rfl,UK⟩:=ni.1 hu;obtain⟨O,w2,G1,G2,rfl,rfl,gO,BZ⟩:=kD.1 UK;obtain⟨rfl,rfl⟩:=eL.1 BZ;exact⟨O,rfl,gO.cell.2⟩
def r6(cA:Int)(ps:List cC):List cC:=ps.filter fun p=>decide (p.cA>cA)
def j6(cA:Int)(v:View):View:=⟨v.fM,v.bF,jP cA v.base v.aZ,r6 cA v.aZ⟩
def tR(cA:Int)(v:View):Bool:=c7 (jP cA v.base v.aZ)
def tc(s:bJ)(cA:Int):bJ×Int:=
 if cu s=false then(Tk,6)else if cA>s.now then(s,1)else if cA<s.keep then(s,4)else
  if s.aK.all (tR cA)then(⟨s.bc,s.aF,s.aK.map (j6 cA),s.now,cA⟩,0)else(s,5)
theorem Hr(hp:bV pr)(s:bJ)(cA:Int)(ht:s.d.eX<=1048576)(M1:(tc s cA).1.d.eX<=1048576):lu pr 83 [s.enc,i64 cA] [(tc s cA).1.da,.i (tc s cA).2]:=by
 have dt:=jS hp s ht;have Ed:=lV hp s ht;have fR:=lV hp _ M1;have Nz:=fun h v hv=>pJ (qG (s:=s) h v hv);have aN:tc s cA=tc s cA:=rfl;conv at aN=>rhs;unfold tc
 generalize tc s cA=res at aN fR M1⊢;have xT: ∀v∈s.aK,v.d.eX<=1048576:=fun v hv=>by have:=d5 s;have:=ed (f:=View.d) hv;omega
 obtain⟨bc,aF,aK,now,keep⟩:=s;refine fN hp rfl ?_;have S:ah [] []:=ah.nil [];conv=>whnf
 intro k1 a1 dw dC;replace S:=S.alloc dw dC;conv=>whnf
 intro k2 a2 jf iB;replace S:=S.alloc jf iB;conv=>whnf
 refine aI (S.row 1 rfl) ?_;conv=>whnf
 refine⟨_,dt _,?_⟩;conv=>whnf
 cases jK:cu ⟨bc,aF,aK,now,keep⟩with
 |false=>
  rw[jK]at aN;rw[if_pos rfl]at aN;subst aN;conv=>whnf
  refine⟨_,rfl,rfl,rfl,.inl ⟨_,S.row 0 rfl,rfl,?_⟩⟩;conv=>whnf
  intro a3 lS;replace S:=S.w0 lS;conv=>whnf
  exact⟨_,aR rfl rfl (S.row 0 rfl) rfl rfl,_,_,_,rfl,eW (vq _) (nk 6),by simp⟩
 |true=>
  rw[jK,if_neg (by simp)]at aN;dsimp only at aN;have Nz:=Nz jK;dsimp only at Nz xT;have wh:aK.length<=3:=by simp only[cu,aj,decide_eq_true_iff]at jK;exact jK.2.2.1
  conv=>whnf
  refine aI (S.row 1 rfl) ?_;conv=>whnf
  refine ek S Ed rfl rfl fun v q1 F1 o1 S1=>?_;clear S dt o1;obtain⟨W,T,V,G1,G2,G3,rfl,cW,cT,cV,S⟩:=ah.gT S1;clear S1;conv=>whnf
  intro k3 a4 kS jN;replace S:=S.alloc kS jN;conv=>whnf
  refine⟨[W,T,V,i64 now,i64 keep],(by kernel_rfl),rfl,(bC cW (bC cT (bC cV rfl))),.inl ⟨_,S.row 0 rfl,rfl,?_⟩⟩;conv=>whnf
  intro b1 eN;replace S:=S.w0 eN;conv=>whnf
  refine aI (S.row 0 rfl) ?_;conv=>whnf
  refine ae (fun g1=>?_) (fun g1=>?_)
  ·rw[if_pos (by simpa using g1)]at aN;subst aN;conv=>whnf
   refine aI (S.row 0 rfl) ?_;conv=>whnf
   refine⟨[W,T,V,i64 now,i64 keep],(by kernel_rfl),rfl,(bC cW (bC cT (bC cV rfl))),.inl ⟨_,S.row 4 rfl,rfl,?_⟩⟩;conv=>whnf
   intro b2 dB;replace S:=S.w4 dB;conv=>whnf
   exact⟨_,aR rfl rfl (S.row 4 rfl) rfl rfl,_,_,_,rfl,kV (ah.fZ (S.drop 0)) 1⟩
  rw[if_neg (by simpa using g1)]at aN;conv=>whnf
  refine aI (S.row 0 rfl) ?_;conv=>whnf
  refine ae (fun g2=>?_) (fun g2=>?_)
  ·rw[if_pos (by simpa using g2)]at aN;subst aN;conv=>whnf
   refine aI (S.row 0 rfl) ?_;conv=>whnf
   refine⟨[W,T,V,i64 now,i64 keep],(by kernel_rfl),rfl,(bC cW (bC cT (bC cV rfl))),.inl ⟨_,S.row 4 rfl,rfl,?_⟩⟩;conv=>whnf
   intro b2 dB;replace S:=S.w4 dB;conv=>whnf
   exact⟨_,aR rfl rfl (S.row 4 rfl) rfl rfl,_,_,_,rfl,kV (ah.fZ (S.drop 0)) 4⟩
  rw[if_neg (by simpa using g2)]at aN;have hV:=Br (show bP b1 (.a 25 (aK.map View.da)) V G3 from S.get 3 rfl);replace S:=S.q3;conv=>whnf
  refine dh (fun m tm hp=>∃(j:Nat)(F:List Nat),j+m=aK.length/\tm 7=i64 (j:Nat)/\(aK.take j).all (tR cA)=true/\ah hp [.cU (.a 25 ((aK.take j).map (fun v=>(j6 cA v).da)++(aK.drop j).map View.da)) V F,.row k3 (.box (.agg [W,T,V,i64 now,i64 keep])),.cU (.a 1 (bc.map ba.i)) W G1,.cU (.a 1 (aF.map aE.da)) T G2,.row k2 (.box qD),.row k1 (.box (bJ.enc ⟨bc,aF,aK,now,keep⟩))]) (fun mi Te hq bz hI=>?_) aK.length ⟨0,G3,by simp,rfl,rfl,S⟩;clear S;obtain⟨i,F,hj,e7,aD,S⟩:=hI;have e1:=bz 1 (by kernel_rfl);conv at e1=>rhs;whnf
  have e2:=bz 2 (by kernel_rfl);conv at e2=>rhs;whnf
  have e4:=bz 4 (by kernel_rfl);conv at e4=>rhs;whnf
  have e6:=bz 6 (by kernel_rfl);conv at e6=>rhs;whnf
  refine⟨[(1,_),(2,_),(4,_),(6,_),(7,_)],⟨e1,e2,e4,e6,e7,trivial⟩,?_⟩;clear bz e1 e2 e4 e6 e7;have vQ:i<4611686018427387904:=by omega
  conv=>whnf
  refine aI (S.row 1 rfl) ?_;conv=>whnf
  rcases hV with⟨rfl,hn⟩|⟨id,rfl⟩
  rotate_left 1
  ·conv=>whnf
   refine ae (fun g3=>?_) (fun g3=>?_)
   ·have mg:i<aK.length:=by simpa using g3
    have U0:=Nz _ (ay mg);have U1:=xT _ (ay mg);have tW:(aK.take (i+1)).map (fun v=>(j6 cA v).da)++(aK.drop (i+1)).map View.da=(aK.take i).map (fun v=>(j6 cA v).da)++(j6 cA aK[i]).da::(aK.drop (i+1)).map View.da:=by rw[dn mg,bd];simp
    have c8:tR cA aK[i]=true->(aK.take (i+1)).all (tR cA)=true:=fun h=>by rw[dn mg,List.all_append,aD];simp[h]
    have Hl:tR cA aK[i]=false->aK.all (tR cA)=false:=fun h=>by rw[List.all_eq_false];exact⟨_,ay mg,by rw[h];simp⟩
    have Xm:((aK.take i).map (fun v=>(j6 cA v).da)).length=i:=by simp;omega
    have r7: ∀d:ba,aK.length=((aK.take i).map (fun v=>(j6 cA v).da)++d::(aK.drop (i+1)).map View.da).length:=fun d=>by simp;omega
    rw[ar mg,aM]at S;generalize(aK.take i).map (fun v=>(j6 cA v).da)=XAd at S tW Xm r7;generalize Pq:(aK.drop (i+1)).map View.da=Yj at S tW r7;generalize aK[i]=vw at S tW c8 Hl U0 U1;obtain⟨⟨⟨aw,n,aA,cells,a,b,ao,agg,col,al⟩,l,r,ks⟩,bF,base,aZ⟩:=vw;dsimp only at U0;obtain⟨z1,z2,z3⟩:=U0;rcases ah.AE S with⟨hx,_,_⟩|⟨yu,vs,Fs,cq,rfl,S1⟩
    ·simp at hx
    injection cq with rW _ DT;subst rW;obtain⟨XA,xv,XB,FA,G,FB,rfl,UX,S2⟩:=ah.Cq S1.swap;clear S S1;obtain⟨C,K,DD,L,R,KS,B,P,H1,H2,H3,rfl,rq,cB,cP,S⟩:=ah.Lf S2;clear S2;have vu:XA.length=i:=by rw[UX,Xm]
    have ab0:=r7 (View.da (j6 cA ⟨.mk (.mk aw n aA cells a b ao agg col al) l r ks,bF,base,aZ⟩));have U2:=rY cA aZ base z2 (cF z1).2;have sI:gi (jP cA base aZ):=⟨by have:=U2.1;have:=(cE z1).1;simp[cM];omega,U2.2⟩;clear U2;conv=>whnf
    refine aI (S.row 6 rfl) ?_;conv=>whnf
    refine⟨_,S.row 5 rfl,⟨by omega,by omega⟩,?_⟩;conv=>whnf
    refine .inr ⟨_,_,_,S.row 5 rfl,fa vu,?_⟩;conv=>whnf
    replace S:=S.q2;replace S:=S.is (c':=.cU (.s 2 (aZ.map cC.d)) P H3) (bP.GZ (S.get 0 rfl)).1 rfl;refine JG hp (more:=[]) (.inr rfl) z1 z2 (by omega) rfl S (fun h' S'=>aE.fU (S'.get 2 rfl)) (fun _ _=>rfl) fun D F4 q4 S4=>?_;clear S;have S:=S4;clear S4;obtain⟨z,hz⟩: ∃z,jP cA base aZ=z:=⟨_,rfl⟩;rw[show ct (jP cA base aZ) []=z from hz]at S;rw[hz]at sI;have hkz:tR cA ⟨.mk (.mk aw n aA cells a b ao agg col al) l r ks,bF,base,aZ⟩=c7 z:=by rw[<-hz];rfl
    rw[hkz]at c8 Hl;have oD:qS 2 q4 (z.map Item.d) D F4:=S.get 0 rfl;have cD:=oD.1.cell;conv=>whnf
    refine⟨_,(gu hp z sI).here (bm (aE.fU oD.1) (dc _)) rfl rfl,?_⟩;clear oD;conv=>whnf
    refine ae (fun g4=>?_) (fun g4=>?_)
    ·have c8:=c8 g4;conv=>whnf
     replace S:=(S.drop 3).front 1 rfl;dsimp only[List.eraseIdx]at S;rcases ah.open S with⟨Nl,hP,S1⟩|⟨idp,pv,Fp,Xs,rfl,S1⟩
     ·rcases hP with rfl|rfl
      ·replace S:=ah.j7 2 S1;refine dh (fun m tm hp=>tm 9= .nil/\tm 10=i64 0/\ah hp [.iA 2 [] .nil [],.iA 2 (z.map Item.d) D F4,.cU (bA.mk (.mk aw n aA cells a b ao agg col al) l r ks).d (.agg (bB aw n aA C a b K agg col DD [L,R,KS])) H1,.dy XAd XA FA,.dy Yj XB FB,.row id (.arr 25 (XA++ .agg (bB aw n aA C a b K agg col DD [L,R,KS,i64 bF,B,.nil])::XB)),.row k3 (.box (.agg [W,T,.own id 0 aK.length,i64 now,i64 keep])),.cU (.a 1 (bc.map ba.i)) W G1,.cU (.a 1 (aF.map aE.da)) T G2,.row k2 (.box qD),.row k1 (.box (bJ.enc ⟨bc,aF,aK,now,keep⟩))]) (fun m tm pg bz hI=>?_) 0 ⟨rfl,rfl,S⟩;clear S S1;obtain⟨e9,qX,S⟩:=hI;have e1:=bz 1 (by kernel_rfl);conv at e1=>rhs;whnf
       have e2:=bz 2 (by kernel_rfl);conv at e2=>rhs;whnf
       have e4:=bz 4 (by kernel_rfl);conv at e4=>rhs;whnf
       have e6:=bz 6 (by kernel_rfl);conv at e6=>rhs;whnf
       have e7:=bz 7 (by kernel_rfl);conv at e7=>rhs;whnf
       have e8:=bz 8 (by kernel_rfl);conv at e8=>rhs;whnf
       refine⟨[(1,_),(2,_),(4,_),(6,_),(7,_),(8,_),(9,_),(10,_)],⟨e1,e2,e4,e6,e7,e8,e9,qX,trivial⟩,?_⟩;clear bz e1 e2 e4 e6 e7 e8 e9 qX;have cN:af.nil.cells=[af.nil]/\af.nil.bE=true:=⟨rfl,rfl⟩;obtain⟨N,hN⟩: ∃N,af.nil=N:=⟨_,rfl⟩;conv=>whnf
       refine aI (S.row 6 rfl) ?_;conv=>whnf
       refine⟨_,S.row 5 rfl,⟨by omega,by omega⟩,?_⟩;conv=>whnf
       refine .inr ⟨_,_,_,S.row 5 rfl,fa vu,?_⟩;conv=>whnf
       rw[show([]:List ba)=(r6 cA aZ).map cC.d by rw[List.map_eq_nil_iff.1 Nl];rfl]at S;refine aI (S.row 6 rfl) ?_;conv=>whnf
       refine⟨_,S.row 5 rfl,⟨by omega,by omega⟩,?_⟩;conv=>whnf
       refine⟨[D],cD.1,rfl,FL cD.2,.inr ⟨_,_,_,S.row 5 rfl,fa vu,?_⟩⟩;conv=>whnf
       intro c1 qO;replace S:=S.w5 qO;rw[bg,aq,kO vu]at S;conv=>whnf
       refine aI (S.row 6 rfl) ?_;conv=>whnf
       refine⟨_,S.row 5 rfl,⟨by omega,by omega⟩,?_⟩;conv=>whnf
       refine⟨[.nil],cN.1,rfl,FL cN.2,.inr ⟨_,_,_,S.row 5 rfl,fa vu,?_⟩⟩;conv=>whnf
       intro c2 AG;replace S:=S.w5 AG;rw[bg,aq,kO vu]at S;conv=>whnf
       replace S:=ah.pH S;replace S:=S.q1;replace S:=ah.dv S;replace S:=S.q2;replace S:=ah.Bq (sA (bF:=bF) (base:=z) S);replace S:=ah.qH (n:=aK.length) S.swap (r7 _);exact⟨mi-1,by omega,i+1,_,by omega,aQ i vQ,c8,by rw[Pq,tW];simpa only[j6,hz]using S⟩
      ·replace S:=ah.j7 2 S1;refine dh (fun m tm hp=>tm 9= .nil/\tm 10=i64 0/\ah hp [.iA 2 [] .nil [],.iA 2 (z.map Item.d) D F4,.cU (bA.mk (.mk aw n aA cells a b ao agg col al) l r ks).d (.agg (bB aw n aA C a b K agg col DD [L,R,KS])) H1,.dy XAd XA FA,.dy Yj XB FB,.row id (.arr 25 (XA++ .agg (bB aw n aA C a b K agg col DD [L,R,KS,i64 bF,B,.sl []])::XB)),.row k3 (.box (.agg [W,T,.own id 0 aK.length,i64 now,i64 keep])),.cU (.a 1 (bc.map ba.i)) W G1,.cU (.a 1 (aF.map aE.da)) T G2,.row k2 (.box qD),.row k1 (.box (bJ.enc ⟨bc,aF,aK,now,keep⟩))]) (fun m tm pg bz hI=>?_) 0 ⟨rfl,rfl,S⟩;clear S S1;obtain⟨e9,qX,S⟩:=hI;have e1:=bz 1 (by kernel_rfl);conv at e1=>rhs;whnf
       have e2:=bz 2 (by kernel_rfl);conv at e2=>rhs;whnf
       have e4:=bz 4 (by kernel_rfl);conv at e4=>rhs;whnf
       have e6:=bz 6 (by kernel_rfl);conv at e6=>rhs;whnf
       have e7:=bz 7 (by kernel_rfl);conv at e7=>rhs;whnf
       have e8:=bz 8 (by kernel_rfl);conv at e8=>rhs;whnf
       refine⟨[(1,_),(2,_),(4,_),(6,_),(7,_),(8,_),(9,_),(10,_)],⟨e1,e2,e4,e6,e7,e8,e9,qX,trivial⟩,?_⟩;clear bz e1 e2 e4 e6 e7 e8 e9 qX;have cN:af.nil.cells=[af.nil]/\af.nil.bE=true:=⟨rfl,rfl⟩;obtain⟨N,hN⟩: ∃N,af.nil=N:=⟨_,rfl⟩;conv=>whnf
       refine aI (S.row 6 rfl) ?_;conv=>whnf
       refine⟨_,S.row 5 rfl,⟨by omega,by omega⟩,?_⟩;conv=>whnf
       refine .inr ⟨_,_,_,S.row 5 rfl,fa vu,?_⟩;conv=>whnf
       rw[show([]:List ba)=(r6 cA aZ).map cC.d by rw[List.map_eq_nil_iff.1 Nl];rfl]at S;refine aI (S.row 6 rfl) ?_;conv=>whnf
       refine⟨_,S.row 5 rfl,⟨by omega,by omega⟩,?_⟩;conv=>whnf
       refine⟨[D],cD.1,rfl,FL cD.2,.inr ⟨_,_,_,S.row 5 rfl,fa vu,?_⟩⟩;conv=>whnf
       intro c1 qO;replace S:=S.w5 qO;rw[bg,aq,kO vu]at S;conv=>whnf
       refine aI (S.row 6 rfl) ?_;conv=>whnf
       refine⟨_,S.row 5 rfl,⟨by omega,by omega⟩,?_⟩;conv=>whnf
       refine⟨[.nil],cN.1,rfl,FL cN.2,.inr ⟨_,_,_,S.row 5 rfl,fa vu,?_⟩⟩;conv=>whnf
       intro c2 AG;replace S:=S.w5 AG;rw[bg,aq,kO vu]at S;conv=>whnf
       replace S:=ah.pH S;replace S:=S.q1;replace S:=ah.dv S;replace S:=S.q2;replace S:=ah.Bq (sA (bF:=bF) (base:=z) S);replace S:=ah.qH (n:=aK.length) S.swap (r7 _);exact⟨mi-1,by omega,i+1,_,by omega,aQ i vQ,c8,by rw[Pq,tW];simpa only[j6,hz]using S⟩
     ·have yt:(aZ.map cC.d).length=aZ.length:=by simp
      rw[yt]at Xs;subst Xs;replace S:=ah.j7 2 S1.swap;refine dh (fun m tm hp=>∃(j:Nat)(N:af)(FN FR:List Nat)(pd Ge:List af),j+m=aZ.length/\tm 9=N/\tm 10=i64 (j:Nat)/\pd.length=j/\ah hp [.iA 2 ((r6 cA (aZ.take j)).map cC.d) N FN,.dy ((aZ.drop j).map cC.d) Ge FR,.row idp (.arr 2 (pd++Ge)),.iA 2 (z.map Item.d) D F4,.cU (bA.mk (.mk aw n aA cells a b ao agg col al) l r ks).d (.agg (bB aw n aA C a b K agg col DD [L,R,KS])) H1,.dy XAd XA FA,.dy Yj XB FB,.row id (.arr 25 (XA++ .agg (bB aw n aA C a b K agg col DD [L,R,KS,i64 bF,B,.own idp 0 aZ.length])::XB)),.row k3 (.box (.agg [W,T,.own id 0 aK.length,i64 now,i64 keep])),.cU (.a 1 (bc.map ba.i)) W G1,.cU (.a 1 (aF.map aE.da)) T G2,.row k2 (.box qD),.row k1 (.box (bJ.enc ⟨bc,aF,aK,now,keep⟩))]) (fun m tm pg bz hI=>?_) aZ.length ⟨0,.nil,[],Fp,[],pv,by simp,rfl,rfl,rfl,S⟩;clear S S1;obtain⟨j,N,FN,FR,pd,Ge,Nw,e9,qX,Yk,S⟩:=hI;have e1:=bz 1 (by kernel_rfl);conv at e1=>rhs;whnf
      have e2:=bz 2 (by kernel_rfl);conv at e2=>rhs;whnf
      have e4:=bz 4 (by kernel_rfl);conv at e4=>rhs;whnf
      have e6:=bz 6 (by kernel_rfl);conv at e6=>rhs;whnf
      have e7:=bz 7 (by kernel_rfl);conv at e7=>rhs;whnf
      have e8:=bz 8 (by kernel_rfl);conv at e8=>rhs;whnf
      refine⟨[(1,_),(2,_),(4,_),(6,_),(7,_),(8,_),(9,_),(10,_)],⟨e1,e2,e4,e6,e7,e8,e9,qX,trivial⟩,?_⟩;clear bz e1 e2 e4 e6 e7 e8 e9 qX;have fw:j<4611686018427387904:=by omega
      conv=>whnf
      refine aI (S.row 8 rfl) ?_;conv=>whnf
      refine⟨_,S.row 7 rfl,⟨by omega,by omega⟩,?_⟩;conv=>whnf
      refine .inr ⟨_,_,_,S.row 7 rfl,fa vu,?_⟩;conv=>whnf
      refine ae (fun g5=>?_) (fun g5=>?_)
      ·have bq:j<aZ.length:=by simpa using g5
       have eH:r6 cA (aZ.take (j+1))=r6 cA (aZ.take j)++(if decide (aZ[j].cA>cA)then [aZ[j]]else []):=by
        unfold r6;rw[dn bq,List.filter_append];simp only[List.filter_cons,List.filter_nil]
       have ab1:(r6 cA (aZ.take j)).length<=aZ.length:=bw (List.length_filter_le _ _) (by simp;omega);rw[ar bq,aM]at S;generalize aZ[j]=p at S eH;obtain⟨xp,VH,G9,H9,rfl,rfl,S9⟩:=ah.tD S.swap;clear S;have S:=S9;clear S9;obtain⟨O,rfl,cO⟩:=Qe (S.get 0 rfl);obtain⟨t,out⟩:=p;dsimp only at eH;conv=>whnf
       refine aI (S.row 9 rfl) ?_;conv=>whnf
       refine⟨_,S.row 8 rfl,⟨by omega,by omega⟩,?_⟩;conv=>whnf
       refine .inr ⟨_,_,_,S.row 8 rfl,fa vu,?_⟩;conv=>whnf
       refine⟨_,S.row 3 rfl,⟨by omega,by omega⟩,?_⟩;conv=>whnf
       refine .inr ⟨_,_,_,S.row 3 rfl,fa Yk,?_⟩;conv=>whnf
       refine ae (fun g6=>?_) (fun g6=>?_)
       ·rw[if_pos (by simpa using g6)]at eH;conv=>whnf
        refine aI (S.row 9 rfl) ?_;conv=>whnf
        refine⟨_,S.row 8 rfl,⟨by omega,by omega⟩,?_⟩;conv=>whnf
        refine .inr ⟨_,_,_,S.row 8 rfl,fa vu,?_⟩;conv=>whnf
        refine⟨_,S.row 3 rfl,⟨by omega,by omega⟩,?_⟩;conv=>whnf
        refine .inr ⟨_,_,_,S.row 3 rfl,fa Yk,?_⟩;conv=>whnf
        replace S:=S.q2;intro nM nN de dg;replace S:=S.alloc de dg;conv=>whnf
        refine⟨trivial,?_⟩;conv=>whnf
        refine⟨[_],bG (S.row 0 rfl),ef rfl (bC rfl (bC cO rfl)),?_⟩;replace S:=S.drop 0;dsimp only[List.eraseIdx]at S;refine jM (sz:=2) (d:=cC.d ⟨t,out⟩) S (by simp[br];omega) fun k6 h6 F6 S2=>?_;clear S;have S:=S2;clear S2;conv=>whnf
        rw[show pd++af.agg [i64 t,O]::VH=(pd++[af.agg [i64 t,O]])++VH by simp]at S;exact⟨m-1,by omega,j+1,_,_,_,pd++[.agg [i64 t,O]],VH,by omega,rfl,aQ j fw,by simp[Yk],by rw[eH,bd];exact S⟩
       ·rw[if_neg (by simpa using g6),aU]at eH;conv=>whnf
        replace S:=(S.front 2 rfl).drop 1;dsimp only[List.eraseIdx]at S;rw[show pd++af.agg [i64 t,O]::VH=(pd++[af.agg [i64 t,O]])++VH by simp]at S;exact⟨m-1,by omega,j+1,_,_,_,pd++[.agg [i64 t,O]],VH,by omega,rfl,aQ j fw,by simp[Yk],by rw[eH];exact S⟩
      ·have bq:j=aZ.length:=by simp at g5;omega
       subst bq;rw[aS]at S;replace S:=(S.drop 1).drop 1;dsimp only[List.eraseIdx]at S;have cN:=(show qS 2 pg ((r6 cA aZ).map cC.d) N FN from S.get 0 rfl).1.cell;conv=>whnf
       refine aI (S.row 6 rfl) ?_;conv=>whnf
       refine⟨_,S.row 5 rfl,⟨by omega,by omega⟩,?_⟩;conv=>whnf
       refine⟨[D],cD.1,rfl,FL cD.2,.inr ⟨_,_,_,S.row 5 rfl,fa vu,?_⟩⟩;conv=>whnf
       intro c1 qO;replace S:=S.w5 qO;rw[bg,aq,kO vu]at S;conv=>whnf
       refine aI (S.row 6 rfl) ?_;conv=>whnf
       refine⟨_,S.row 5 rfl,⟨by omega,by omega⟩,?_⟩;conv=>whnf
       refine⟨[N],cN.1,rfl,FL cN.2,.inr ⟨_,_,_,S.row 5 rfl,fa vu,?_⟩⟩;conv=>whnf
       intro c2 AG;replace S:=S.w5 AG;rw[bg,aq,kO vu]at S;conv=>whnf
       replace S:=ah.pH S;replace S:=S.q1;replace S:=ah.dv S;replace S:=S.q2;replace S:=ah.Bq (sA (bF:=bF) (base:=z) S);replace S:=ah.qH (n:=aK.length) S.swap (r7 _);exact⟨mi-1,by omega,i+1,_,by omega,aQ i vQ,c8,by rw[Pq,tW];simpa only[j6,hz]using S⟩
    ·rw[if_neg (by rw[Hl g4];simp)]at aN;conv=>whnf
     refine aI (S.row 11 rfl) ?_;conv=>whnf
     refine ek S Ed rfl rfl fun v9 q9 F9 o9 S9=>?_;clear S o9;obtain⟨W9,T9,V9,_,_,_,rfl,c9,AF,nH,_⟩:=ah.gT S9;subst aN;conv=>whnf
     refine⟨[W9,T9,V9,i64 now,i64 keep],(by kernel_rfl),rfl,(bC c9 (bC AF (bC nH rfl))),.inl ⟨_,S9.row 11 rfl,rfl,?_⟩⟩;conv=>whnf
     intro b9 i3;replace S9:=S9.Za i3;conv=>whnf
     exact⟨_,aR rfl rfl (S9.row 11 rfl) rfl rfl,_,_,_,rfl,kV S9 5⟩
   ·have bq:i=aK.length:=by simp at g3;omega
    subst bq;rw[aS,aL,List.map_nil,aU]at S;rw[aS]at aD;rw[if_pos aD]at aN;subst aN;dsimp only at fR M1;conv=>whnf
    refine⟨_,rfl,rfl,rfl,.inl ⟨_,S.row 1 rfl,rfl,?_⟩⟩;conv=>whnf
    intro b5 iZ;replace S:=S.w1 iZ;conv=>whnf
    refine aI (S.row 1 rfl) ?_;conv=>whnf
    replace S:=S.q3;replace S:=S.q3;have cY:=d5 ⟨bc,aF,aK.map (j6 cA),now,cA⟩;dsimp only at cY
    have mY:=yE (aK:=aK.map (j6 cA)) (now:=now) (keep:=cA) (by rw[List.map_map,List.map_map];exact List.map_congr_left fun x _=>View.gS _) (fun d hd=>by
     obtain⟨v,hv,rfl⟩:=bj.1 hd;have:=ed (f:=View.d) (bj.2 ⟨v,hv,rfl⟩:j6 cA v∈aK.map (j6 cA));exact r5 (by omega)) S
    refine ek S fR rfl (bm mY (dc _)) fun v9 q9 F9 o9 S9=>?_;clear S mY fR o9;obtain⟨W9,T9,V9,_,_,_,rfl,c9,AF,nH,_⟩:=ah.gT S9;conv=>whnf
    refine⟨[W9,T9,V9,i64 now,i64 cA],(by kernel_rfl),rfl,(bC c9 (bC AF (bC nH rfl))),.inl ⟨_,S9.row 5 rfl,rfl,?_⟩⟩;conv=>whnf
    intro b9 i3;replace S9:=S9.w5 i3;conv=>whnf
    exact⟨_,aR rfl rfl (S9.row 5 rfl) rfl rfl,_,_,_,rfl,kV S9 0⟩
  ·have bq:i=aK.length:=by rw[hn]at hj⊢;simp at hj⊢;omega
   conv=>whnf
   subst bq;rw[aS,aL,List.map_nil,aU]at S;rw[aS]at aD;rw[if_pos aD]at aN;subst aN;dsimp only at fR M1;conv=>whnf
   refine⟨_,rfl,rfl,rfl,.inl ⟨_,S.row 1 rfl,rfl,?_⟩⟩;conv=>whnf
   intro b5 iZ;replace S:=S.w1 iZ;conv=>whnf
   refine aI (S.row 1 rfl) ?_;conv=>whnf
   replace S:=S.q3;replace S:=S.q3;have cY:=d5 ⟨bc,aF,aK.map (j6 cA),now,cA⟩;dsimp only at cY
   have mY:=yE (aK:=aK.map (j6 cA)) (now:=now) (keep:=cA) (by rw[List.map_map,List.map_map];exact List.map_congr_left fun x _=>View.gS _) (fun d hd=>by
    obtain⟨v,hv,rfl⟩:=bj.1 hd;have:=ed (f:=View.d) (bj.2 ⟨v,hv,rfl⟩:j6 cA v∈aK.map (j6 cA));exact r5 (by omega)) S
   refine ek S fR rfl (bm mY (dc _)) fun v9 q9 F9 o9 S9=>?_;clear S mY fR o9;obtain⟨W9,T9,V9,_,_,_,rfl,c9,AF,nH,_⟩:=ah.gT S9;conv=>whnf
   refine⟨[W9,T9,V9,i64 now,i64 cA],(by kernel_rfl),rfl,(bC c9 (bC AF (bC nH rfl))),.inl ⟨_,S9.row 5 rfl,rfl,?_⟩⟩;conv=>whnf
   intro b9 i3;replace S9:=S9.w5 i3;conv=>whnf
   exact⟨_,aR rfl rfl (S9.row 5 rfl) rfl rfl,_,_,_,rfl,kV S9 0⟩
end Go.Proofs.YtfepbikckfehlaaGreat

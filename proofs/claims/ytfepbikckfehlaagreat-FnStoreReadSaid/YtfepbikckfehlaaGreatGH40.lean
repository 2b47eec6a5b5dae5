/- Draws: rows, items, cells, tests. -/
import Derived.Test.YtfepbikckfehlaaGreatGSTq
import Derived.Test.YtfepbikckfehlaaGreatGH23
set_option linter.unusedVariables false
set_option linter.unusedSimpArgs false
set_option maxHeartbeats 4000000
namespace Go.Proofs.YtfepbikckfehlaaGreat
open Go Go.Am
variable{pr:bL}(hp:bV pr)
set_option maxRecDepth 100000
def mA(t:Int)(aH:List (List Item))(v:View):Option View:=match hH v.fM aH with
 |none=>none
 |some (f,out)=>if c7 (ct (jP t v.base v.aZ) out)then some ⟨f,v.bF,v.base,if out=[]then v.aZ else v.aZ++[⟨t,out⟩]⟩else none
def fe(t:Int)(aH:List (List Item)):List View->Option (List View)
 | []=>some []
 |v::vs=>match mA t aH v with
  |none=>none
  |some v'=>match fe t aH vs with
   |none=>none
   |some eo=>some (v'::eo)
theorem r8{t:Int}{aH:List (List Item)}: ∀{xs:List View}{v:View},fe t aH (xs++[v])=(match fe t aH xs with
 |none=>none
 |some a=>match mA t aH v with
  |none=>none
  |some v'=>some (a++[v']))
 | [],v=>by
  simp only[List.nil_append,fe]
  all_goals(cases mA t aH v<;>rfl)
 |x::xs,v=>by
  simp only[List.cons_append,fe,r8 (xs:=xs) (v:=v)]
  cases mA t aH x with
  |none=>rfl
  |some p=>
   cases fe t aH xs with
   |none=>rfl
   |some q=>cases mA t aH v<;>rfl
theorem x6{t:Int}{aH:List (List Item)}: ∀{xs ys:List View},fe t aH xs=none->fe t aH (xs++ys)=none
 | [],ys,h=>by simp[fe]at h
 |x::xs,ys,h=>by
  simp only[List.cons_append,fe]at h⊢
  cases h1:mA t aH x with
  |none=>rfl
  |some p=>
   rw[h1]at h;simp only at h⊢
   cases h2:fe t aH xs with
   |none=>rw[x6 h2]
   |some q=>rw[h2]at h;cases h
theorem tS{t:Int}{aH:List (List Item)}: ∀{xs ys:List View},fe t aH xs=some ys->ys.length=xs.length
 | [],ys,h=>by simp only[fe,Option.some.injEq]at h;subst h;rfl
 |x::xs,ys,h=>by
  simp only[fe]at h
  cases h1:mA t aH x with
  |none=>rw[h1]at h;cases h
  |some p=>
   rw[h1]at h
   cases h2:fe t aH xs with
   |none=>rw[h2]at h;cases h
   |some q=>rw[h2]at h;simp only[Option.some.injEq]at h;subst h;simp[tS h2]
theorem aav{α:Type}{f:α->ba}{h:aC}{sz:Nat}{xs:List α}{v:af}{F:List Nat}(ho:bP h (.s sz (xs.map f)) v F):((v= .nil∨v= .sl [])/\xs=[])∨ ∃id,v= .own id 0 xs.length:=by
 simp only[bP]at ho;rcases ho with⟨h1,_,h3⟩|⟨id,_,_,rfl,_⟩
 ·exact .inl ⟨h3,by simpa using h1⟩
 ·exact .inr ⟨id,by simp⟩
def td(s:bJ)(aH:List (List Item)):bJ×Int:=
 if cu s=false then(Tk,6)else if oW s.bc s.aF aH≠0 then(s,oW s.bc s.aF aH)else if iR s.aF aH≠0 then(s,iR s.aF aH)else
  if s.now>=40 then(s,5)else match fe (s.now+1) aH s.aK with
  |none=>(s,5)
  |some vs=>(⟨s.bc,jy s.aF aH,vs,s.now+1,s.keep⟩,0)
theorem x7: ∀{ws:List Int}{ts:List (List Item)},lG ws ts=true-> ∀(i:Nat) z v,ts[i]?=some z->ws[i]?=some v->c7 z=true/\dH v z
 |w::ws,t::ts,h,i,z,v,hz,hv=>by
  simp only[lG,aj]at h
  cases i with
  |zero=>
   simp at hz hv;subst hz hv;refine⟨AB h.1,fun x hx=>?_⟩;have:=h.1;simp only[iv,mw,aj,aG,decide_eq_true_iff]at this
   exact this.1 x hx
  |succ i=>exact x7 h.2 i z v (by simpa using hz) (by simpa using hv)
 | [],_,_,i,z,v,hz,hv=>by simp at hv
 |_::_,[],_,i,z,v,hz,hv=>by simp at hz
theorem Qg{ws:List Int}{aF aH:List (List Item)}(h:oW ws aF aH=0)(hl:aF.length<=ws.length):(∀(i:Nat) z v,aH[i]?=some z->ws[i]?=some v->c7 z=true/\dH v z)/\aH.length<=aF.length/\ ∀z∈aH,c7 z=true:=by
 unfold oW at h;split at h
 ·cases h
 ·split at h
  ·rename_i h1 h2;have h3:=x7 h2;refine⟨h3,by omega,fun z hz=>?_⟩;obtain⟨i,hi,rfl⟩:=List.mem_iff_getElem.1 hz;exact(h3 i _ ws[i] (au hi) (au (by omega))).1
  ·cases h
theorem Ht(hp:bV pr)(s:bJ)(aH:List (List Item))(ht:s.d.eX<=1048576)(hul:aH.length<=1000)(Yl: ∀z∈aH,gi z)(cY:cu s=true-> ∀v∈s.aK,∃w,lA s.bc 6 v.fM w)(QC:cu s=true-> ∀z∈s.aF,c7 z=true)
  (M1:(td s aH).1.d.eX<=1048576):lu pr 85 [s.enc,bM.enc aH] [(td s aH).1.da,.i (td s aH).2]:=by
   have dt:=jS hp s ht;have Ed:=lV hp s ht;have fR:=lV hp _ M1;have Nz:=fun h v hv=>pJ (qG (s:=s) h v hv)
   have hlw:cu s=true->s.bc.length<=3/\s.aF.length=s.bc.length/\s.aK.length<=3/\s.now<=40/\0<=s.now:=fun h=>by
    simp only[cu,aj,decide_eq_true_iff]at h;exact⟨h.1,h.2.1,h.2.2.1,h.2.2.2.2.2.1,by omega⟩
   have Rg:=fun h1 h2=>M3 hp s aH h1 h2 Yl hul;have aN:td s aH=td s aH:=rfl;conv at aN=>rhs;unfold td
   generalize td s aH=res at aN fR M1⊢;have xT: ∀v∈s.aK,v.d.eX<=1048576:=fun v hv=>by have:=d5 s;have:=ed (f:=View.d) hv;omega
   obtain⟨bc,aF,aK,now,keep⟩:=s;refine fN hp rfl ?_;have S:ah [] []:=ah.nil [];conv=>whnf
   intro k1 a1 dw dC;replace S:=S.alloc dw dC;conv=>whnf
   intro k2 a2 jf iB;replace S:=S.alloc jf iB;conv=>whnf
   refine aI (S.row 1 rfl) ?_;conv=>whnf
   refine⟨_,dt _,?_⟩;conv=>whnf
   cases jK:cu ⟨bc,aF,aK,now,keep⟩with
   |false=>
    rw[jK]at aN;rw[if_pos rfl]at aN;subst aN;conv=>whnf
    refine⟨_,rfl,rfl,rfl,.inl ⟨_,S.row 0 rfl,rfl,?_⟩⟩;conv=>whnf
    intro a3 lS;replace S:=S.w0 lS;conv=>whnf
    exact⟨_,aR rfl rfl (S.row 0 rfl) rfl rfl,_,_,_,rfl,eW (vq _) (nk 6),by simp⟩
   |true=>
    rw[jK,if_neg (by simp)]at aN;dsimp only at aN;have Nz:=Nz jK;obtain⟨Yi,htw,wh,aaw,Jq⟩:=hlw jK;have cY:=cY jK;have QC:=QC jK;dsimp only at Nz xT Yi htw wh aaw Jq cY QC Rg;have Rg:=Rg (by omega) (by omega);conv=>whnf
    refine aI (S.row 1 rfl) ?_;conv=>whnf
    refine⟨_,Rg _,?_⟩;conv=>whnf
    refine ae (fun g1=>?_) (fun g1=>?_)
    ·rw[if_pos (by simpa using g1)]at aN;conv=>whnf
     refine aI (S.row 1 rfl) ?_;conv=>whnf
     refine ek S Ed rfl rfl fun v9 q9 F9 o9 S9=>?_;clear S o9;obtain⟨W9,T9,V9,_,_,_,rfl,c9,AF,nH,_⟩:=ah.gT S9;subst aN;conv=>whnf
     refine⟨[W9,T9,V9,i64 now,i64 keep],(by kernel_rfl),rfl,(bC c9 (bC AF (bC nH rfl))),.inl ⟨_,S9.row 1 rfl,rfl,?_⟩⟩;conv=>whnf
     intro b9 i3;replace S9:=S9.w1 i3;conv=>whnf
     exact⟨_,aR rfl rfl (S9.row 1 rfl) rfl rfl,_,_,_,rfl,kV S9 _⟩
    have W4:oW bc aF aH=0:=by simpa using g1
    rw[if_neg (by simpa using g1)]at aN;obtain⟨Yf,QR,hu3⟩:=Qg W4 (by omega);clear Rg;conv=>whnf
    refine aI (S.row 1 rfl) ?_;conv=>whnf
    refine ek S Ed rfl rfl fun v q1 F1 o1 S1=>?_;clear S o1;obtain⟨W,T,V,G1,G2,G3,rfl,cW,cT,cV,S⟩:=ah.gT S1;clear S1;replace S:=S.q1;replace S:=(S.is (c':=.cU (.a 1 (aF.map aE.d)) T G2) (bP.UY (S.get 0 rfl)) rfl).swap;conv=>whnf
    intro k3 a4 kS jN;replace S:=S.alloc kS jN;conv=>whnf
    refine⟨[W,T,V,i64 now,i64 keep],(by kernel_rfl),rfl,(bC cW (bC cT (bC cV rfl))),.inl ⟨_,S.row 0 rfl,rfl,?_⟩⟩;conv=>whnf
    intro b1 eN;replace S:=S.w0 eN;conv=>whnf
    refine aI (S.row 0 rfl) ?_;conv=>whnf
    replace S:=S.q2;obtain⟨r9,hc,iJ⟩:=JM hp (bc:=bc) (W:=W) (V:=V) (now:=now) (keep:=keep) (aH:=aH) (by omega) QC hul hu3 S;refine⟨_,hc,?_⟩;clear hc S;rcases iJ with⟨g2,T2,GT,BF,rfl,S⟩|⟨g2,BF,rfl,S⟩
    ·rw[if_neg (by rw[g2];simp)]at aN;conv=>whnf
     refine aI (S.row 1 rfl) ?_;conv=>whnf
     refine ae (fun g3=>?_) (fun g3=>?_)
     ·rw[if_pos (by simpa using g3)]at aN;conv=>whnf
      refine aI (S.row 5 rfl) ?_;conv=>whnf
      refine ek S Ed rfl rfl fun v9 q9 F9 o9 S9=>?_;clear S o9;obtain⟨W9,T9,V9,_,_,_,rfl,c9,AF,nH,_⟩:=ah.gT S9;subst aN;conv=>whnf
      refine⟨[W9,T9,V9,i64 now,i64 keep],(by kernel_rfl),rfl,(bC c9 (bC AF (bC nH rfl))),.inl ⟨_,S9.row 5 rfl,rfl,?_⟩⟩;conv=>whnf
      intro b9 i3;replace S9:=S9.w5 i3;conv=>whnf
      exact⟨_,aR rfl rfl (S9.row 5 rfl) rfl rfl,_,_,_,rfl,kV S9 5⟩
     rw[if_neg (by simpa using g3)]at aN;have cT2:=(show qS 1 BF ((jy aF aH).map aE.d) T2 GT from S.get 0 rfl).1.cell;conv=>whnf
     refine⟨[T2],cT2.1,rfl,(FL cT2.2),.inl ⟨_,S.row 1 rfl,rfl,?_⟩⟩;conv=>whnf
     intro b5 iZ;replace S:=S.w1 iZ;conv=>whnf
     refine aI (S.row 1 rfl) ?_;conv=>whnf
     refine⟨_,rfl,rfl,rfl,.inl ⟨_,S.row 1 rfl,rfl,?_⟩⟩;conv=>whnf
     intro b6 rU;replace S:=S.w1 rU;conv=>whnf
     have Gn:IntKind.i64.wrap (now+1)=now+1:=by rw[aY];omega
     have hV:=Br (show bP b6 (.a 25 (aK.map View.da)) V G3 from S.get 3 rfl);rw[Gn]at S;replace S:=S.q1;replace S:=S.q3;refine dh (fun m tm hp=>∃(j:Nat)(F:List Nat)(yj:List ba)(done:List View),j+m=aK.length/\tm 10=i64 (j:Nat)/\fe (now+1) aH (aK.take j)=some done/\yj.map ba.enc=done.map View.enc/\(∀d∈yj,d.dep<=4000000)/\ah hp [.cU (.a 25 (yj++(aK.drop j).map View.da)) V F,.row k3 (.box (.agg [W,T2,V,i64 (now+1),i64 keep])),.iA 1 ((jy aF aH).map aE.d) T2 GT,.cU (.a 1 (bc.map ba.i)) W G1,.row k2 (.box qD),.row k1 (.box (bJ.enc ⟨bc,aF,aK,now,keep⟩))]) (fun mi Te hq bz hI=>?_) aK.length ⟨0,G3,[],[],by simp,rfl,rfl,rfl,by simp,S⟩;clear S;obtain⟨i,F,yj,done,hj,qX,aD,VI,LO,S⟩:=hI;have e1:=bz 1 (by kernel_rfl);conv at e1=>rhs;whnf
     have e2:=bz 2 (by kernel_rfl);conv at e2=>rhs;whnf
     have e4:=bz 4 (by kernel_rfl);conv at e4=>rhs;whnf
     have e7:=bz 7 (by kernel_rfl);conv at e7=>rhs;whnf
     refine⟨[(1,_),(2,_),(4,_),(7,_),(10,_)],⟨e1,e2,e4,e7,qX,trivial⟩,?_⟩;clear bz e1 e2 e4 e7 qX;have vQ:i<4611686018427387904:=by omega
     conv=>whnf
     refine aI (S.row 1 rfl) ?_;conv=>whnf
     rcases hV with⟨rfl,hn⟩|⟨id,rfl⟩
     ·have bq:i=aK.length:=by rw[hn]at hj⊢;simp at hj⊢;omega
      conv=>whnf
      subst bq;rw[aS]at aD;rw[aL,List.map_nil,aU]at S;rw[aD]at aN;subst aN;dsimp only at fR M1;conv=>whnf
      refine aI (S.row 1 rfl) ?_;conv=>whnf
      replace S:=S.q2;replace S:=ah.pH S;replace S:=S.q3;replace S:=S.swap;replace S:=S.q2;replace S:=S.swap;replace S:=S.q2;have mY:=Ho (aK:=done) (now:=now+1) (keep:=keep) VI LO S;refine ek S fR rfl (bm mY (dc _)) fun v9 q9 F9 o9 S9=>?_;clear S mY fR o9;obtain⟨W9,T9,V9,_,_,_,rfl,c9,AF,nH,_⟩:=ah.gT S9;conv=>whnf
      refine⟨[W9,T9,V9,i64 (now+1),i64 keep],(by kernel_rfl),rfl,(bC c9 (bC AF (bC nH rfl))),.inl ⟨_,S9.row 5 rfl,rfl,?_⟩⟩;conv=>whnf
      intro b9 i3;replace S9:=S9.w5 i3;conv=>whnf
      exact⟨_,aR rfl rfl (S9.row 5 rfl) rfl rfl,_,_,_,rfl,kV S9 0⟩
     ·conv=>whnf
      refine ae (fun g5=>?_) (fun g5=>?_)
      rotate_left 1
      ·have bq:i=aK.length:=by simp at g5;omega
       subst bq;rw[aS]at aD;rw[aL,List.map_nil,aU]at S;rw[aD]at aN;subst aN;dsimp only at fR M1;conv=>whnf
       refine aI (S.row 1 rfl) ?_;conv=>whnf
       replace S:=S.q2;replace S:=ah.pH S;replace S:=S.q3;replace S:=S.swap;replace S:=S.q2;replace S:=S.swap;replace S:=S.q2;have mY:=Ho (aK:=done) (now:=now+1) (keep:=keep) VI LO S;refine ek S fR rfl (bm mY (dc _)) fun v9 q9 F9 o9 S9=>?_;clear S mY fR o9;obtain⟨W9,T9,V9,_,_,_,rfl,c9,AF,nH,_⟩:=ah.gT S9;conv=>whnf
       refine⟨[W9,T9,V9,i64 (now+1),i64 keep],(by kernel_rfl),rfl,(bC c9 (bC AF (bC nH rfl))),.inl ⟨_,S9.row 5 rfl,rfl,?_⟩⟩;conv=>whnf
       intro b9 i3;replace S9:=S9.w5 i3;conv=>whnf
       exact⟨_,aR rfl rfl (S9.row 5 rfl) rfl rfl,_,_,_,rfl,kV S9 0⟩
      ·have mg:i<aK.length:=by simpa using g5
       have U0:=Nz _ (ay mg);have U1:=xT _ (ay mg);obtain⟨w,kP⟩:=cY _ (ay mg);have eC: ∀v',mA (now+1) aH aK[i]=some v'->fe (now+1) aH (aK.take (i+1))=some (done++[v']):=fun v' h=>by rw[dn mg,r8,aD];simp only[h]
       have Lh:mA (now+1) aH aK[i]=none->fe (now+1) aH aK=none:=fun h=>by
        have h2:=x6 (ys:=aK.drop (i+1)) (show fe (now+1) aH (aK.take (i+1))=none by rw[dn mg,r8,aD];simp only[h])
        rwa [List.take_append_drop]at h2
       have Kf: ∀d:ba,yj.length=i->aK.length=(yj++d::(aK.drop (i+1)).map View.da).length:=fun d h=>by simp[h];omega
       have Xv:yj.length=i:=by
        have h1:=congrArg List.length VI;have h2:done.length=i:=(tS aD).trans (by simp;omega);simpa[h2]using h1
       have r7:=fun d=>Kf d Xv;rw[ar mg,aM]at S;generalize Pq:(aK.drop (i+1)).map View.da=Yj at S r7;generalize aK[i]=vw at S kP U0 U1 eC Lh;obtain⟨⟨⟨aw,n,aA,cells,a,b,ao,agg,col,al⟩,l,r,ks⟩,bF,base,aZ⟩:=vw;dsimp only at U0 kP;obtain⟨z1,z2,z3⟩:=U0;rcases ah.AE S with⟨hx,_,_⟩|⟨yu,vs,Fs,cq,rfl,S1⟩
       ·simp at hx
       injection cq with rW _ DT;subst rW;obtain⟨XA,xv,XB,FA,G,FB,rfl,UX,S2⟩:=ah.Cq S1.swap;clear S S1;obtain⟨C,K,DD,L,R,KS,B,P,H1,H2,H3,rfl,rq,cB,cP,S⟩:=ah.Lf S2;clear S2;have vu:XA.length=i:=by rw[UX,Xv]
       conv=>whnf
       refine aI (S.row 6 rfl) ?_;conv=>whnf
       refine⟨_,S.row 5 rfl,⟨by omega,by omega⟩,?_⟩;conv=>whnf
       refine .inr ⟨_,_,_,S.row 5 rfl,fa vu,?_⟩;conv=>whnf
       obtain⟨Xq,hc,iJ⟩:=Au hp Yf ⟨by omega,hu3⟩ (bM.enc aH) 6 (by omega) aw n aA cells a b ao agg col al l r ks w kP _ _ _ _ _ (vg _) S fun h' S'=>rfl;refine⟨_,hc,?_⟩;clear hc S;unfold fQ at iJ
       cases A5:hH (.mk (.mk aw n aA cells a b ao agg col al) l r ks) aH with
       |none=>
        rw[A5]at iJ;rw[Lh (by simp only[mA,A5])]at aN;obtain⟨C2,K2,D2,L2,R2,qW,w2,BF,rfl,c8,Bo,S⟩:=iJ;conv=>whnf
        intro k5 a5 DI qf;replace S:=S.alloc DI qf;conv=>whnf
        refine⟨(bB aw n aA C2 a b K2 agg col D2 [L2,R2,qW]),(by kernel_rfl),rfl,c8,.inl ⟨_,S.row 0 rfl,rfl,?_⟩⟩;conv=>whnf
        intro b7 Hm;replace S:=S.w0 Hm;conv=>whnf
        conv=>whnf
        refine aI (S.row 10 rfl) ?_;conv=>whnf
        refine ek S Ed rfl rfl fun v9 q9 F9 o9 S9=>?_;clear S o9;obtain⟨W9,T9,V9,_,_,_,rfl,c9,AF,nH,_⟩:=ah.gT S9;subst aN;conv=>whnf
        refine⟨[W9,T9,V9,i64 now,i64 keep],(by kernel_rfl),rfl,(bC c9 (bC AF (bC nH rfl))),.inl ⟨_,S9.row 10 rfl,rfl,?_⟩⟩;conv=>whnf
        intro b9 i3;replace S9:=S9.w10 i3;conv=>whnf
        exact⟨_,aR rfl rfl (S9.row 10 rfl) rfl rfl,_,_,_,rfl,kV S9 5⟩
       |some p2=>
        obtain⟨f2,out⟩:=p2;rw[A5]at iJ;obtain⟨v2,w2,d2,G4,H4,BF,rfl,lB,S⟩:=iJ;obtain⟨eM,Xr,hwb,yt⟩:=sB Yf 6 _ f2 _ out kP A5;have xX:=rV 6 _ _ eM;have aeh:=rT _ _ lB;obtain⟨⟨kd,nn,tt,cc,ta,tb,kk,ag,cl,qq⟩,ll,rr,fk⟩:=f2;obtain⟨C2,K2,D2,L2,R2,qW,Xk,X1,X2,X3,P9,rfl,Av,y1,y2,y3,Sx⟩:=ah.s6 lB S;have c8:(bB kd nn tt C2 ta tb K2 ag cl D2 [L2,R2,qW]).all af.bE=true:=nU y1 y2 y3 (bC (show XR _ ll L2 X1 from Sx.get 1 rfl).cell.2 (bC (show XR _ rr R2 X2 from Sx.get 2 rfl).cell.2 (bC (show bP _ (.s 22 P9) qW X3 from Sx.get 3 rfl).cell.2 rfl)));clear Sx y1 y2 y3 Av;have cw:=(show bP _ (.s 2 (out.map Item.d)) w2 H4 from S.get 1 rfl).cell;have sw:bP _ (.s 2 (out.map Item.d)) w2 H4:=S.get 1 rfl;have hP:=Br (show bP _ (.a 2 (aZ.map cC.d)) P H3 from S.get 3 rfl);conv=>whnf
        intro k5 a5 DI qf;replace S:=S.alloc DI qf;conv=>whnf
        refine⟨(bB kd nn tt C2 ta tb K2 ag cl D2 [L2,R2,qW]),(by kernel_rfl),rfl,c8,.inl ⟨_,S.row 0 rfl,rfl,?_⟩⟩;conv=>whnf
        intro b7 Hm;replace S:=S.w0 Hm;conv=>whnf
        refine aI (S.row 8 rfl) ?_;conv=>whnf
        refine⟨_,S.row 7 rfl,⟨by omega,by omega⟩,?_⟩;conv=>whnf
        refine .inr ⟨_,_,_,S.row 7 rfl,fa vu,?_⟩;conv=>whnf
        refine aI (S.row 8 rfl) ?_;conv=>whnf
        replace S:=S.q4;replace S:=S.is (c':=.cU (.s 2 (aZ.map cC.d)) P H3) (bP.GZ (S.get 0 rfl)).1 rfl;have U2:=rY (now+1) aZ base z2 (cF z1).2;have hz7:=fp U2.2 (cF Xr).2;have sI:gi (ct (jP (now+1) base aZ) out):=⟨by have:=U2.1;have:=hz7.1;have:=(cE z1).1;have:=(cE Xr).1;simp[cM];omega,hz7.2⟩;clear U2 hz7;refine JG hp (more:=out) (.inr rfl) z1 z2 (by omega) Xr S (fun h' S'=>aE.fU (S'.get 4 rfl)) (fun h' S'=>aE.fU (S'.get 3 rfl)) fun D F5 q4 S4=>?_;clear S;have S:=S4;clear S4;obtain⟨z,hz⟩: ∃z,ct (jP (now+1) base aZ) out=z:=⟨_,rfl⟩;rw[hz]at S sI;have hkz:mA (now+1) aH ⟨.mk (.mk aw n aA cells a b ao agg col al) l r ks,bF,base,aZ⟩=if c7 z then some ⟨.mk (.mk kd nn tt cc ta tb kk ag cl qq) ll rr fk,bF,base,if out=[]then aZ else aZ++[⟨now+1,out⟩]⟩else none:=by rw[<-hz];simp only[mA,A5]
        rw[hkz]at eC Lh;have oD:qS 2 q4 (z.map Item.d) D F5:=S.get 0 rfl;conv=>whnf
        refine⟨_,(gu hp z sI).here (bm (aE.fU oD.1) (dc _)) rfl rfl,?_⟩;clear oD;conv=>whnf
        refine ae (fun g6=>?_) (fun g6=>?_)
        rotate_left 1
        ·rw[Lh (by rw[if_neg (by simpa using g6)])]at aN;conv=>whnf
         refine aI (S.row 13 rfl) ?_;conv=>whnf
         refine ek S Ed rfl rfl fun v9 q9 F9 o9 S9=>?_;clear S o9;obtain⟨W9,T9,V9,_,_,_,rfl,c9,AF,nH,_⟩:=ah.gT S9;subst aN;conv=>whnf
         refine⟨[W9,T9,V9,i64 now,i64 keep],(by kernel_rfl),rfl,(bC c9 (bC AF (bC nH rfl))),.inl ⟨_,S9.row 13 rfl,rfl,?_⟩⟩;conv=>whnf
         intro b9 i3;replace S9:=S9.w13 i3;conv=>whnf
         exact⟨_,aR rfl rfl (S9.row 13 rfl) rfl rfl,_,_,_,rfl,kV S9 5⟩
        ·have eC:=eC _ (if_pos g6);conv=>whnf
         replace S:=S.drop 0;dsimp only[List.eraseIdx]at S;replace S:=S.is (c':=.iA 2 (aZ.map cC.d) P H3) ⟨S.get 0 rfl,by rcases hP with⟨h,_⟩|⟨j,h⟩;exact .inl h;exact .inr ⟨j,by simpa using h⟩⟩ rfl;refine aI (S.row 8 rfl) ?_;conv=>whnf
         refine aI (S.row 1 rfl) ?_;conv=>whnf
         refine⟨_,S.row 7 rfl,⟨by omega,by omega⟩,?_⟩;conv=>whnf
         refine⟨bB kd nn tt C2 ta tb K2 ag cl D2 [L2,R2,qW],(by kernel_rfl),rfl,c8,.inr ⟨_,_,_,S.row 7 rfl,fa vu,?_⟩⟩;conv=>whnf
         intro c1 qO;replace S:=S.w7 qO;rw[bg,aq,kO vu]at S;conv=>whnf
         rcases aav sw with⟨hw,rfl⟩|⟨idw,rfl⟩
         ·rw[if_pos rfl]at eC;rcases hw with rfl|rfl
          all_goals
           conv=>whnf
           replace S:=(S.drop 1).drop 2;dsimp only[List.eraseIdx]at S;replace S:=ah.pH S;replace S:=S.q2;replace S:=S.q2;replace S:=ah.Bq (ah.Hp (bF:=bF) S);replace S:=ah.qH (n:=aK.length) S.swap (r7 _)
           exact⟨mi-1,by omega,i+1,_,yj++[s8 d2 bF base aZ],done++[⟨.mk (.mk kd nn tt cc ta tb kk ag cl qq) ll rr fk,bF,base,aZ⟩],by omega,aQ i vQ,eC,by rw[bd,bd,VI];congr 1;simp only[aM,List.map_nil,pK lB],fun d hd=>by
            rcases bu.1 hd with hd|hd
            ·exact LO d hd
            ·simp at hd;subst hd;exact pL _ _ _ (by omega),by rw[Pq,List.append_assoc];exact S⟩
         ·conv=>whnf
          refine ae (fun g7=>?_) (fun g7=>?_)
          rotate_left 1
          ·have ho:out=[]:=by simpa using g7
           subst ho;rw[if_pos rfl]at eC;conv=>whnf
           replace S:=(S.drop 1).drop 2;dsimp only[List.eraseIdx]at S;replace S:=ah.pH S;replace S:=S.q2;replace S:=S.q2;replace S:=ah.Bq (ah.Hp (bF:=bF) S);replace S:=ah.qH (n:=aK.length) S.swap (r7 _)
           exact⟨mi-1,by omega,i+1,_,yj++[s8 d2 bF base aZ],done++[⟨.mk (.mk kd nn tt cc ta tb kk ag cl qq) ll rr fk,bF,base,aZ⟩],by omega,aQ i vQ,eC,by rw[bd,bd,VI];congr 1;simp only[aM,List.map_nil,pK lB],fun d hd=>by
            rcases bu.1 hd with hd|hd
            ·exact LO d hd
            ·simp at hd;subst hd;exact pL _ _ _ (by omega),by rw[Pq,List.append_assoc];exact S⟩
          ·have ho:out≠[]:=fun h=>by subst h;simp at g7
           rw[if_neg ho]at eC;conv=>whnf
           refine aI (S.row 8 rfl) ?_;conv=>whnf
           refine aI (S.row 8 rfl) ?_;conv=>whnf
           refine⟨_,S.row 7 rfl,⟨by omega,by omega⟩,?_⟩;conv=>whnf
           refine .inr ⟨_,_,_,S.row 7 rfl,fa vu,?_⟩;refine eV (v:=P) (by rfl) ?_;conv=>whnf
           refine aI (S.row 8 rfl) ?_;conv=>whnf
           have aay:aZ.length+1<=br:=by simp[br];omega
           replace S:=S.q3;replace S:=K7 (cA:=now+1) S;replace S:=S.swap;intro nM nN de dg;replace S:=S.alloc de dg;conv=>whnf
           refine⟨trivial,?_⟩;conv=>whnf
           refine⟨[_],bG (S.row 0 rfl),ef rfl (bC rfl (bC cw.2 rfl)),?_⟩;replace S:=S.drop 0;dsimp only[List.eraseIdx]at S;refine jM (sz:=2) (d:=cC.d ⟨now+1,out⟩) S (by simpa using aay) fun k6 h6 F6 S2=>?_;clear S;have S:=S2;clear S2;conv=>whnf
           refine⟨?_,?_⟩
           ·repeat
             ((conv=>whnf);first|trivial|refine⟨by first|((conv=>whnf);exact⟨_,rfl,S.row 6 rfl⟩)|((conv=>whnf);exact bO rfl (S.row 7 rfl) rfl rfl),?_⟩)
           conv=>whnf
           refine⟨_,S.row 6 rfl,⟨by omega,by omega⟩,?_⟩;conv=>whnf
           refine⟨_,rfl,rfl,rfl,.inr ⟨_,_,_,S.row 6 rfl,fa vu,?_⟩⟩;conv=>whnf
           intro c2 AG;replace S:=S.w6 AG;rw[bg,aq,kO vu]at S;conv=>whnf
           replace S:=S.drop 1;dsimp only[List.eraseIdx]at S;rw[show aZ.map cC.d++[cC.d ⟨now+1,out⟩]=(aZ++[(⟨now+1,out⟩:cC)]).map cC.d by simp]at S;replace S:=ah.pH S;replace S:=S.q2;replace S:=S.q2;replace S:=ah.Bq (ah.Hp (bF:=bF) S);replace S:=ah.qH (n:=aK.length) S.swap (r7 _)
           exact⟨mi-1,by omega,i+1,_,yj++[s8 d2 bF base (aZ++[⟨now+1,out⟩])],done++[⟨.mk (.mk kd nn tt cc ta tb kk ag cl qq) ll rr fk,bF,base,aZ++[⟨now+1,out⟩]⟩],by omega,aQ i vQ,eC,by rw[bd,bd,VI];congr 1;simp only[aM,List.map_nil,pK lB],fun d hd=>by
            rcases bu.1 hd with hd|hd
            ·exact LO d hd
            ·simp at hd;subst hd;exact pL _ _ _ (by omega),by rw[Pq,List.append_assoc];exact S⟩
    ·rw[if_pos g2]at aN;generalize iR aF aH=cc at g2 aN⊢;conv=>whnf
     refine ae (fun g3=>?_) (fun g3=>?_)
     ·conv=>whnf
      refine aI (S.row 4 rfl) ?_;conv=>whnf
      refine ek S Ed rfl rfl fun v9 q9 F9 o9 S9=>?_;clear S o9;obtain⟨W9,T9,V9,_,_,_,rfl,c9,AF,nH,_⟩:=ah.gT S9;subst aN;conv=>whnf
      refine⟨[W9,T9,V9,i64 now,i64 keep],(by kernel_rfl),rfl,(bC c9 (bC AF (bC nH rfl))),.inl ⟨_,S9.row 4 rfl,rfl,?_⟩⟩;conv=>whnf
      intro b9 i3;replace S9:=S9.w4 i3;conv=>whnf
      exact⟨_,aR rfl rfl (S9.row 4 rfl) rfl rfl,_,_,_,rfl,kV S9 _⟩
     ·exact absurd (by simpa using g3) g2
def AJ:bJ:=⟨[2,2],[[],[]],[],0,0⟩
theorem M6(hp:bV pr):kC pr 49 [] AJ.da:=by
 have h1:=vt hp Tk 2 (by decide);have h2:=vt hp ⟨[2],[[]],[],0,0⟩ 2 (by decide);rw[show r0 Tk 2=(⟨[2],[[]],[],0,0⟩,0) by rfl]at h1;rw[show r0 ⟨[2],[[]],[],0,0⟩ 2=(AJ,0) by rfl]at h2;refine lQ hp rfl ?_;have S:ah [] []:=ah.nil [];conv=>whnf
 intro k1 a1 dw dC;replace S:=S.alloc dw dC;conv=>whnf
 refine gA S h1 rfl (by rfl) fun vs q1 F1 S1=>?_;clear S h1;obtain⟨v1,G1,rfl,S2⟩:=ah.xz S1;clear S1;have S:=S2
 have mY:Am.snap q1 v1=some (bJ.enc ⟨[2],[[]],[],0,0⟩):=by
  rw[<-bJ.gS];exact bP.snap (show bP q1 _ v1 G1 from S.get 0 rfl) (by decide)
 obtain⟨W,T,V,_,_,_,rfl,c1,c2,c3,_⟩:=ah.gT S2;clear S2;conv=>whnf
 intro k2 a2 jf iB;replace S:=S.alloc jf iB;conv=>whnf
 refine⟨[W,T,V,i64 0,i64 0],(by kernel_rfl),rfl,(bC c1 (bC c2 (bC c3 rfl))),.inl ⟨_,S.row 0 rfl,rfl,?_⟩⟩;conv=>whnf
 intro b1 eN;replace S:=S.w0 eN;conv=>whnf
 have mY:Am.snap b1 (.agg [W,T,V,i64 0,i64 0])=some (bJ.enc ⟨[2],[[]],[],0,0⟩):=by
  rw[<-bJ.gS];exact bP.snap (show bP b1 _ _ G1 from S.get 1 rfl) (by decide)
 refine aI (S.row 0 rfl) ?_;conv=>whnf
 refine gA S h2 rfl (bm mY rfl) fun vs q2 F2 S1=>?_;clear S h2 mY;obtain⟨v2,G2,rfl,S2⟩:=ah.xz S1;clear S1;have S:=S2;obtain⟨W2,T2,V2,_,_,_,rfl,c4,c5,c6,_⟩:=ah.gT S2;clear S2;conv=>whnf
 intro k3 a3 kS jN;replace S:=S.alloc kS jN;conv=>whnf
 refine⟨[W2,T2,V2,i64 0,i64 0],(by kernel_rfl),rfl,(bC c4 (bC c5 (bC c6 rfl))),.inl ⟨_,S.row 0 rfl,rfl,?_⟩⟩;conv=>whnf
 intro b2 dB;replace S:=S.w0 dB;conv=>whnf
 refine aI (S.row 0 rfl) ?_;conv=>whnf
 refine⟨[W2,T2,V2,i64 0,i64 0],(by kernel_rfl),rfl,(bC c4 (bC c5 (bC c6 rfl))),.inl ⟨_,S.row 4 rfl,rfl,?_⟩⟩;conv=>whnf
 intro b3 gg;replace S:=S.w4 gg;conv=>whnf
 have ho:=S.get' 1 _ rfl;exact⟨_,dI rfl rfl (S.row 4 rfl) rfl,_,_,_,rfl,ho.1,ho.2⟩
def u8(n:Int):af:=.int .u8 n
def rdP(k n:Nat)(h:aC):Prop:=∃(bs:List Int)(p:Int),h[k]?=some (.box (.agg [.sl (bs.map u8),i64 p]))/\bs.length<=2000/\(∀b∈bs,0<=b/\b<256)/\0<=p/\p<=n
def _root_.Go.Am.Chunk.rd(k n:Nat):Chunk:=⟨[k],rdP k n,fun h h' hp hf=>by
 obtain⟨bs,p,h1,h2⟩:=hp
 exact⟨bs,p,by rw[hf k (by simp)];exact h1,h2⟩,fun h hp id cq=>by
 obtain⟨bs,p,h1,h2⟩:=hp;simp at cq;subst cq;exact fX h1⟩
theorem ah.Qh{h:aC}{L:List Chunk}{k n:Nat}(S:ah h (.rd k n::L)): ∃(bs:List Int)(p:Int),ah h (.row k (.box (.agg [.sl (bs.map u8),i64 p]))::L)/\bs.length<=2000/\(∀b∈bs,0<=b/\b<256)/\0<=p/\p<=n:=by
 obtain⟨bs,p,h1,h2⟩:rdP k n h:=S.get 0 rfl;exact⟨bs,p,S.is (c':=.row k (.box (.agg [.sl (bs.map u8),i64 p]))) h1 rfl,h2⟩
theorem ah.qJ{h:aC}{L:List Chunk}{k n:Nat}{bs:List Int}{p:Int}(S:ah h (.row k (.box (.agg [.sl (bs.map u8),i64 p]))::L))(h1:bs.length<=2000)(h2: ∀b∈bs,0<=b/\b<256)(h3:0<=p)(h4:p<=n):ah h (.rd k n::L):=
 S.is (c':=.rd k n) ⟨bs,p,S.row 0 rfl,h1,h2,h3,h4⟩ rfl
theorem ah.eh{h:aC}{L:List Chunk}{k n m:Nat}(S:ah h (.rd k n::L))(hm:n<=m):ah h (.rd k m::L):=by
 obtain⟨bs,p,S1,h1,h2,h3,h4⟩:=ah.Qh S;exact ah.qJ S1 h1 h2 h3 (by omega)
def QJ(x a:Int):Prop:=0<=x/\(x<a∨(a<1/\x=0))
theorem g8{bs:List Int}(h2: ∀b∈bs,0<=b/\b<256){p:Int}(h0:0<=p)(h1:p<bs.length): ∃b:Int,(bs.map u8)[p.toNat]?=some (u8 b)/\0<=b/\b<256:=by
 have hl:p.toNat<bs.length:=by omega
 exact⟨bs[p.toNat],by simp[hl],h2 _ (ay hl)⟩
theorem Li{x a:Int}(hx:0<=x)(ha:1<=a):QJ (x.tmod a) a:=⟨Int.tmod_nonneg _ hx,.inl (Int.tmod_lt_of_pos _ (by omega))⟩
theorem sa{x:Int}(h1: -4611686018427387904<=x)(h2:x<=4611686018427387904):IntKind.i64.wrap x=x:=by rw[aY];omega
theorem Sg{x y:Int}(hx:0<=x)(xm:x<4611686018427387904)(hy:0<=y)(Ww:y<4611686018427387904):0<=IntKind.i64.wrap (((BitVec.ofInt IntKind.i64.bits x) ^^^(BitVec.ofInt IntKind.i64.bits y)).toNat:Int):=by
 change 0<=IntKind.i64.wrap (((BitVec.ofInt 64 x) ^^^(BitVec.ofInt 64 y)).toNat:Int)
 have e: ∀z:Int,0<=z->z<4611686018427387904->(BitVec.ofInt 64 z).toNat=z.toNat:=fun z h1 h2=>by
  rw[BitVec.toNat_ofInt];omega
 rw[BitVec.toNat_xor,e x hx xm,e y hy Ww];have h:=Nat.xor_lt_two_pow (n:=62) (x:=x.toNat) (y:=y.toNat) (by omega) (by omega);rw[aY];omega
theorem di(hp:bV pr)(a:Int){h:aC}{L:List Chunk}{k n:Nat}(S:ah h (.rd k n::L))(hn:n<=1000000000000){K:dz->Prop}(hK: ∀x h',QJ x a->ah h' (.rd k (n+1)::L)->K (.ret (i64 x) h')):
  ∃r,bN (du pr) (call (du pr)) 50 [.ptr k 0 0,i64 a] h=some r/\K r:=by
   obtain⟨bs,p,S1,h1,h2,h3,h4⟩:=ah.Qh S;replace S:=S1;clear S1;rw[mh rfl];refine cS (hp.out _ rfl) ?_;conv=>whnf
   refine aI (S.row 0 rfl) ?_;conv=>whnf
   refine⟨_,rfl,rfl,rfl,.inl ⟨_,S.row 0 rfl,rfl,?_⟩⟩;conv=>whnf
   intro h5 mB;replace S:=S.w0 mB;conv=>whnf
   have hw:IntKind.i64.wrap (p+1)=p+1:=by rw[aY];omega
   rw[hw]at S;clear mB;have UG:p+1<=((n+1:Nat):Int):=by omega
   refine ae (fun g1=>?_) (fun g1=>?_)
   ·conv=>whnf
    refine⟨_,rfl,hK 0 _ ⟨by omega,by simp at g1;omega⟩ (ah.qJ S h1 h2 (by omega) UG)⟩
   have g1: ¬a<1:=by simpa using g1
   conv=>whnf
   refine aI (S.row 0 rfl) ?_;conv=>whnf
   rw[aO];refine ae (fun g2=>?_) (fun g2=>?_)
   ·conv=>whnf
    refine⟨_,rfl,hK 0 _ ⟨by omega,by omega⟩ (ah.qJ S h1 h2 (by omega) UG)⟩
   have g2:0<bs.length:=by simp at g2;exact List.length_pos_iff.2 g2
   conv=>whnf
   refine aI (S.row 0 rfl) ?_;conv=>whnf
   have Bo:IntKind.i64.wrap (p+1-1)=p:=by rw[aY];omega
   rw[Bo];refine aI (S.row 0 rfl) ?_;conv=>whnf
   rw[aO];refine ae (fun g3=>?_) (fun g3=>?_)
   ·conv=>whnf
    refine aI (S.row 0 rfl) ?_;conv=>whnf
    have hg:=g8 h2 h3 (by simpa using g3);obtain⟨b,hb,Yv,Vl⟩:=hg;refine⟨_,hb,h3,rfl,?_⟩;conv=>whnf
    refine⟨rfl,by omega,?_⟩;conv=>whnf
    refine⟨_,rfl,hK _ _ (Li (by rw[aY];omega) (by omega)) (ah.qJ S h1 h2 (by omega) UG)⟩
   ·conv=>whnf
    refine aI (S.row 0 rfl) ?_;conv=>whnf
    refine aI (S.row 0 rfl) ?_;conv=>whnf
    rw[aO];refine⟨rfl,by omega,?_⟩;conv=>whnf
    obtain⟨b,hb,Yv,Vl⟩:=g8 h2 (p:=p.tmod bs.length) (Int.tmod_nonneg _ h3) (Int.tmod_lt_of_pos _ (by omega));refine⟨_,hb,Int.tmod_nonneg _ h3,rfl,?_⟩;conv=>whnf
    refine aI (S.row 0 rfl) ?_;conv=>whnf
    refine aI (S.row 0 rfl) ?_;conv=>whnf
    rw[aO];refine⟨rfl,by omega,?_⟩;conv=>whnf
    have hw3:IntKind.i64.wrap (IntKind.i64.wrap (p*7)+3)=p*7+3:=by rw[aY,aY];omega
    rw[hw3];obtain⟨c,hc,KP,Ea⟩:=g8 h2 (p:=(p*7+3).tmod bs.length) (Int.tmod_nonneg _ (by omega)) (Int.tmod_lt_of_pos _ (by omega));refine⟨_,hc,Int.tmod_nonneg _ (by omega),rfl,?_⟩;conv=>whnf
    refine aI (S.row 0 rfl) ?_;conv=>whnf
    rw[aO];refine⟨rfl,by omega,?_⟩;conv=>whnf
    refine⟨rfl,by omega,?_⟩;conv=>whnf
    have zn:0<=p.tdiv bs.length:=Int.tdiv_nonneg h3 (by omega);have pg:p.tdiv bs.length<=p:=Int.tdiv_le_self _ h3;generalize p.tdiv bs.length=q at zn pg⊢
    have hX:IntKind.i64.wrap (IntKind.i64.wrap (IntKind.i64.wrap (IntKind.i64.wrap (IntKind.i64.wrap b*131)+IntKind.i64.wrap (IntKind.i64.wrap c*1117))+IntKind.i64.wrap (p*29))+IntKind.i64.wrap (IntKind.i64.wrap q*53))=b*131+c*1117+p*29+q*53:=by
     rw[sa (x:=b) (by omega) (by omega),sa (x:=c) (by omega) (by omega),sa (x:=q) (by omega) (by omega),sa (x:=b*131) (by omega) (by omega),sa (x:=c*1117) (by omega) (by omega),sa (x:=p*29) (by omega) (by omega),sa (x:=q*53) (by omega) (by omega),
      sa (x:=b*131+c*1117) (by omega) (by omega),sa (x:=b*131+c*1117+p*29) (by omega) (by omega),sa (by omega) (by omega)]
    rw[hX];have Ym:0<=b*131+c*1117+p*29+q*53:=by omega
    have hX2:b*131+c*1117+p*29+q*53<4611686018427387904:=by omega
    generalize b*131+c*1117+p*29+q*53=X at Ym hX2⊢;have hY1:0<=X.tdiv 64:=Int.tdiv_nonneg Ym (by omega);have hY2:X.tdiv 64<=X:=Int.tdiv_le_self _ Ym;rw[sa (x:=X.tdiv 64) (by omega) (by omega)];refine⟨rfl,by omega,?_⟩;conv=>whnf
    refine⟨_,rfl,hK _ _ (Li (Sg Ym hX2 hY1 (by omega)) (by omega)) (ah.qJ S h1 h2 (by omega) UG)⟩
theorem kQ(hp:bV pr)(xs:List Int)(hx:0<xs.length)(Vi:xs.length<=100){h:aC}{L:List Chunk}{k n id:Nat}(S:ah h (.rd k n:: .row id (.arr 1 (xs.map i64))::L))(hn:n<=1000000000000){K:dz->Prop}(hK: ∀x h',x∈xs->ah h' (.rd k (n+1)::L)->K (.ret (i64 x) h')):
  ∃r,bN (du pr) (call (du pr)) 18 [.ptr k 0 0,.own id 0 xs.length] h=some r/\K r:=by
   rw[mh rfl];refine cS (hp.out _ rfl) ?_;conv=>whnf
   refine di hp _ S hn fun x h' hx S1=>?_;replace S:=S1;clear S1;have Bc:0<=x/\x<xs.length:=by unfold QJ at hx;omega
   have cx:(xs.map i64)[0+x.toNat]?=some (i64 xs[x.toNat]):=by simp[show x.toNat<xs.length by omega]
   have kx:xs[x.toNat]∈xs:=ay (by omega);generalize xs[x.toNat]=y at cx kx;conv=>whnf
   refine⟨_,S.row 1 rfl,⟨Bc.1,Bc.2⟩,?_⟩;conv=>whnf
   refine .inr ⟨_,_,_,S.row 1 rfl,cx,eV (v:=i64 y) rfl ?_⟩;conv=>whnf
   exact⟨_,rfl,hK _ _ kx (S.drop 1)⟩
theorem Qi(hp:bV pr)(bs:List Int)(hb: ∀b∈bs,0<=b/\b<256)(A1:bs.length<=1048576){h:aC}{L:List Chunk}(S:ah h L){K:dz->Prop}(hK: ∀k h',ah h' (.rd k 0::L)->K (.ret (.ptr k 0 0) h')):
  ∃r,bN (du pr) (call (du pr)) 16 [.sl (bs.map u8)] h=some r/\K r:=by
   rw[mh rfl];refine cS (hp.out _ rfl) ?_;conv=>whnf
   rw[aO];refine ae (fun g1=>?_) (fun g1=>?_)
   ·conv=>whnf
    refine⟨⟨by simp,by simp,by simp at g1⊢;omega,by rw[aG];intro y hy;obtain⟨z,_,rfl⟩:=bj.1 hy;rfl⟩,?_⟩;have hc:((bs.map u8).drop ((none:Option Int).getD 0).toNat).take (((some 2000).getD ((bs.map u8).length:Int)).toNat-((none:Option Int).getD 0).toNat)=(bs.take 2000).map u8:=by simp[List.map_take]
    conv=>whnf
    intro k1 a1 dw dC;replace S:=S.alloc dw dC;conv=>whnf
    refine⟨_,rfl,hK _ _ (ah.qJ (bs:=bs.take 2000) (p:=0) ?_ (by simp;omega) (fun b ZK=>hb b (List.mem_of_mem_take ZK)) (Int.le_refl _) (Int.le_refl _))⟩;rw[<-hc];exact S
   ·conv=>whnf
    intro k1 a1 dw dC;replace S:=S.alloc dw dC;conv=>whnf
    exact⟨_,rfl,hK _ _ (ah.qJ S (by simp at g1;omega) hb (Int.le_refl _) (Int.le_refl _))⟩
theorem sD(hp:bV pr)(wide:Int)(hw:wide<=10){h:aC}{L:List Chunk}{k n:Nat}(S:ah h (.rd k n::L))(hn:n<=900000000000){K:dz->Prop}
  (hK: ∀(xs:List Int) v h',(xs.length:Int)=max 0 wide->(∀x∈xs,-1<=x/\x<=5)->ah h' (.rd k (n+10):: .acc i64 1 xs v::L)->K (.ret v h')):
  ∃r,bN (du pr) (call (du pr)) 88 [.ptr k 0 0,i64 wide] h=some r/\K r:=by
   rw[mh rfl];refine cS (hp.out _ rfl) ?_;conv=>whnf
   replace S:=(ah.ma i64 1 S).swap;refine dh (fun m tm hp=>∃(j:Nat)(D:af)(xs:List Int),j+m=wide.toNat/\tm 5=D/\tm 6=i64 (j:Nat)/\ah hp (.rd k (n+j):: .acc i64 1 xs D::L)/\(xs.length=j)/\(∀x∈xs,-1<=x/\x<=5)) (fun m tm hq bz hI=>?_) (wide.toNat) ⟨0,.nil,[],by simp,rfl,rfl,S,(rfl),(by simp)⟩;obtain⟨j,D,xs,hj,e5,e6,S2,Vi,hxb⟩:=hI;have k0:=bz 0 (by kernel_rfl);conv at k0=>rhs;whnf
   have k1:=bz 1 (by kernel_rfl);conv at k1=>rhs;whnf
   refine⟨[(0,_),(1,_),(5,_),(6,_)],⟨k0,k1,e5,e6,trivial⟩,?_⟩;clear bz k0 k1 e5 e6;replace S:=S2;clear S2;conv=>whnf
   refine ae (fun h1=>?_) (fun h1=>?_)
   ·have fw:j<4611686018427387904:=by simp at h1;omega
    have aej:j<10:=by simp at h1;omega
    conv=>whnf
    intro k1 a1 dw dC;replace S:=S.alloc dw dC;conv=>whnf
    replace S:=S.swap;refine kQ hp [0,1,2,3,1,2,-1,5] (by simp) (by simp) S (by omega) fun x h' hx S1=>?_;clear S;have S:=S1.swap;clear S1;conv=>whnf
    intro nM nN de dg;replace S:=S.alloc de dg;conv=>whnf
    refine⟨trivial,?_⟩;conv=>whnf
    refine⟨[_],bG (S.row 0 rfl),cQ rfl rfl,?_⟩;replace S:=S.drop 0;dsimp only[List.eraseIdx]at S;refine oQ (f:=i64) (x:=x) S (by simp[br];omega) fun k2 BF S2 _=>?_;conv=>whnf
    refine⟨m-1,by simp at h1;omega,j+1,_,xs++[x],by simp at h1;omega,rfl,aQ j fw,S2.swap,by simp[Vi],fun y hy=>?_⟩;rcases bu.1 hy with hy|hy
    ·exact hxb y hy
    ·simp at hy hx;omega
   ·conv=>whnf
    refine⟨_,rfl,hK xs _ _ ?_ hxb (ah.eh S ?_)⟩
    ·simp at h1;omega
    ·simp at h1;omega
def AK(wide:Int)(wT:Nat)(z:List Item):Prop:=z.length<=wT/\ ∀x∈z,(x.row.length:Int)=max 0 wide/\ ∀c∈x.row,-1<=c/\c<=5
theorem JO{wide:Int}{wT:Nat}{z:List Item}{r:List Int}{w:Int}(hz:AK wide wT z)(hr:(r.length:Int)=max 0 wide)(hc: ∀c∈r,-1<=c/\c<=5):AK wide (wT+1) (fT z r w):=by
 refine⟨bw (uQ _ _ _) (by have:=hz.1;omega),fun x hx=>?_⟩;rcases pz x hx with e|⟨y,hy,e⟩
 ·rw[e];exact⟨hr,hc⟩
 ·rw[e];exact hz.2 y hy
theorem JP{wide:Int}{wT:Nat}{z:List Item}(hz:AK wide wT z)(hw:wide<=10): ∀x∈z,x.row.length<=cM:=fun x hx=>by
 have:=(hz.2 x hx).1;simp[cM];omega
theorem Sh(hp:bV pr)(wide:Int)(wT:Nat)(hw:wide<=10)(hm:wT<=20){h:aC}{L:List Chunk}{k n:Nat}(S:ah h (.rd k n::L))(hn:n<=800000000000){K:dz->Prop}
  (hK: ∀(z:List Item) v F h',AK wide wT z->ah h' (.rd k (n+400):: .iA 2 (z.map Item.d) v F::L)->K (.ret v h')):
  ∃r,bN (du pr) (call (du pr)) 52 [.ptr k 0 0,i64 wide,i64 wT] h=some r/\K r:=by
   rw[mh rfl];refine cS (hp.out _ rfl) ?_;conv=>whnf
   have hwm:IntKind.i64.wrap ((wT:Int)+1)=((wT+1:Nat):Int):=by rw[aY];omega
   rw[hwm];refine di hp _ S (by omega) fun c h1 hc S1=>?_;clear S;have S:=(ah.j7 2 S1).swap;clear S1;have KP:0<=c/\c<=wT:=by unfold QJ at hc;omega
   conv=>whnf
   refine dh (fun m tm hp=>∃(j:Nat)(D:af)(F:List Nat)(z:List Item)(e:Int),j+m=c.toNat/\tm 7=D/\tm 8=i64 e/\ah hp (.rd k (n+1+11*j):: .iA 2 (z.map Item.d) D F::L)/\(AK wide j z)/\(e=c-(j:Int))) (fun m tm hq bz hI=>?_) (c.toNat) ⟨0,.nil,[],[],c,by simp,rfl,rfl,S,(⟨by simp,by simp⟩),(by simp)⟩;obtain⟨j,D,F,z,e,hj,e7,e8,S2,hz,he⟩:=hI;have k0:=bz 0 (by kernel_rfl);conv at k0=>rhs;whnf
   have k1:=bz 1 (by kernel_rfl);conv at k1=>rhs;whnf
   refine⟨[(0,_),(1,_),(7,_),(8,_)],⟨k0,k1,e7,e8,trivial⟩,?_⟩;clear bz k0 k1 e7 e8;replace S:=S2;clear S2;conv=>whnf
   refine ae (fun g1=>?_) (fun g1=>?_)
   ·have hj:(j:Int)<c:=by simp at g1;omega
    conv=>whnf
    refine sD hp wide hw S (by omega) fun xs rv h2 Bc xm S1=>?_;clear S;conv=>whnf
    intro k1 a1 dw dC;replace S1:=S1.alloc dw dC;conv=>whnf
    replace S1:=S1.swap;refine kQ hp [1,1,1,2,-1,3,-2] (by simp) (by simp) S1 (by omega) fun w h3 A4 S2=>?_;clear S1;have S:=S2.front 2 rfl;dsimp only[List.eraseIdx]at S;clear S2;conv=>whnf
    refine kG hp z xs w _ (by have:=hz.1;simp[cM];omega) (JP hz hw) (by simp[cM];omega) S (fun h' S'=>gq.snap ((ah.jc (S'.front 1 rfl)).get 0 rfl)) fun v' h4 F' S1=>?_;clear S;have S:=(S1.drop 2).swap;dsimp only[List.eraseIdx]at S;clear S1;conv=>whnf
    exact⟨m-1,by omega,j+1,_,_,_,_,by omega,rfl,rfl,ah.eh S (by omega),JO hz Bc xm,by rw[aY];omega⟩
   ·conv=>whnf
    have hj:(j:Int)>=c:=by simp at g1;omega
    exact⟨_,rfl,hK z _ _ _ ⟨by have:=hz.1;omega,hz.2⟩ (ah.eh S (by omega))⟩
theorem tT(hp:bV pr)(wide:Int){h:aC}{L:List Chunk}{k n:Nat}(S:ah h (.rd k n::L))(hn:n<=800000000000){K:dz->Prop}
  (hK: ∀(c:Cell) h',ah h' (.rd k (n+3)::L)->K (.ret c.enc h')):
  ∃r,bN (du pr) (call (du pr)) 137 [.ptr k 0 0,i64 wide] h=some r/\K r:=by
   rw[mh rfl];refine cS (hp.out _ rfl) ?_;conv=>whnf
   intro k1 a1 dw dC;replace S:=(S.alloc dw dC).swap;conv=>whnf
   refine di hp _ S (by omega) fun x h2 hx S1=>?_;clear S;conv=>whnf
   refine ae (fun g1=>?_) (fun g1=>?_)
   ·conv=>whnf
    intro k2 a2 jf iB;have S:=(S1.alloc jf iB).swap;clear S1;conv=>whnf
    refine kQ hp [0,1,2,-1,5] (by simp) (by simp) S (by omega) fun y h3 hy S1=>?_;replace S:=S1;clear S1;conv=>whnf
    refine⟨_,rfl,rfl,rfl,.inl ⟨_,S.row 1 rfl,rfl,?_⟩⟩;conv=>whnf
    intro h4 vA;replace S:=S.w1 vA;conv=>whnf
    exact⟨_,dI rfl rfl (S.row 1 rfl) rfl,hK ⟨2,0,0,y⟩ _ (ah.eh (S.drop 1) (by omega))⟩
   conv=>whnf
   refine ae (fun g2=>?_) (fun g2=>?_)
   ·conv=>whnf
    refine di hp _ S1 (by omega) fun y h3 hy S=>?_;clear S1;conv=>whnf
    refine di hp _ S (by omega) fun z h4 hz S1=>?_;replace S:=S1;clear S1;conv=>whnf
    refine⟨_,rfl,rfl,rfl,.inl ⟨_,S.row 1 rfl,rfl,?_⟩⟩;conv=>whnf
    intro h5 mB;replace S:=S.w1 mB;conv=>whnf
    exact⟨_,dI rfl rfl (S.row 1 rfl) rfl,hK ⟨3,y,z,0⟩ _ (ah.eh (S.drop 1) (by omega))⟩
   conv=>whnf
   refine di hp _ S1 (by omega) fun y h3 hy S=>?_;clear S1;conv=>whnf
   refine⟨_,rfl,rfl,rfl,.inl ⟨_,S.row 1 rfl,rfl,?_⟩⟩;conv=>whnf
   intro h5 mB;replace S:=S.w1 mB;conv=>whnf
   exact⟨_,dI rfl rfl (S.row 1 rfl) rfl,hK ⟨1,y,0,0⟩ _ (ah.eh (S.drop 1) (by omega))⟩
theorem AL(hp:bV pr)(wide:Int){h:aC}{L:List Chunk}{k n:Nat}(S:ah h (.rd k n::L))(hn:n<=700000000000){K:dz->Prop}
  (hK: ∀(t:Test) h',ah h' (.rd k (n+8)::L)->K (.ret t.enc h')):
  ∃r,bN (du pr) (call (du pr)) 136 [.ptr k 0 0,i64 wide] h=some r/\K r:=by
   rw[mh rfl];refine cS (hp.out _ rfl) ?_;conv=>whnf
   intro k1 a1 dw dC;replace S:=(S.alloc dw dC).swap;conv=>whnf
   refine di hp _ S (by omega) fun x h2 hx S1=>?_;clear S;conv=>whnf
   refine di hp _ S1 (by omega) fun y h3 hy S=>?_;clear S1;conv=>whnf
   refine ae (fun g1=>?_) (fun g1=>?_)
   all_goals
    conv=>whnf
    refine tT hp wide S (by omega) fun c h4 S1=>?_;clear S;conv=>whnf
    refine tT hp wide S1 (by omega) fun d h5 S=>?_;clear S1;obtain⟨c1,c2,c3,c4⟩:=c;obtain⟨d1,d2,d3,d4⟩:=d;conv=>whnf
    refine⟨_,rfl,rfl,rfl,.inl ⟨_,S.row 1 rfl,rfl,?_⟩⟩;conv=>whnf
    intro h6 fO;replace S:=S.w1 fO;conv=>whnf
    exact⟨_,dI rfl rfl (S.row 1 rfl) rfl,hK ⟨_,_,⟨c1,c2,c3,c4⟩,⟨d1,d2,d3,d4⟩⟩ _ (ah.eh (S.drop 1) (by omega))⟩
end Go.Proofs.YtfepbikckfehlaaGreat

/- The reference's form of plans; SlimOnce. -/
import Derived.Test.YtfepbikckfehlaaGreatGSTc
import Derived.Test.YtfepbikckfehlaaGreatGH25
import Derived.Test.YtfepbikckfehlaaGreatGH16
import Derived.Test.YtfepbikckfehlaaGreatGH15
import Derived.Test.YtfepbikckfehlaaGreatGH14
set_option linter.unusedVariables false
set_option linter.unusedSimpArgs false
set_option maxHeartbeats 4000000
namespace Go.Proofs.YtfepbikckfehlaaGreat
open Go Go.Am
variable{pr:bL}(hp:bV pr)
set_option maxRecDepth 100000
def xH(xs:List (List Item)):Int:=IntKind.i64.wrap ((((xs[xs.length-2]?).getD []).length:Int)+((xs[xs.length-1]?).getD []).length)
def iQ:Nat->List (List Item)->Int->List (List Item)×Int
 |0,xs,f=>(xs,f)
 |n+1,xs,f=>if 1<xs.length then(if xH xs>f∨en (fP xs)=false then(xs,f)else iQ n (fP xs) (IntKind.i64.wrap (f-xH xs)))else(xs,f)
def dZ(bx:List (List Item))(fuel:Int):List (List Item)×Int:=if en bx&& !decide (fuel<0)then iQ bx.length bx fuel else([],0)
theorem bP.ZX{h:aC}{d:ba}{xs:List af}{D:af}{F:List Nat}(ho:bP h d D F)(he:d.enc= .sl xs):(D= .nil/\xs=[])∨D= .sl xs∨ ∃id,D= .own id 0 xs.length:=by
 cases d with
 |s sz ds=>
  simp only[ba.enc,af.sl.injEq]at he;have hl:ds.length=xs.length:=by have:=congrArg List.length he;simpa[ba.dM]using this
  simp only[bP]at ho;rcases ho with⟨h1,_,rfl|rfl⟩|⟨id,vs,Fs,rfl,_⟩
  ·subst h1;exact .inl ⟨rfl,bk.1 (by simpa using hl.symm)⟩
  ·subst h1;exact .inr (.inl (by rw[bk.1 (show xs.length=0 by simpa using hl.symm)]))
  ·exact .inr (.inr ⟨id,by rw[hl]⟩)
 |a sz ds=>
  simp only[ba.enc,af.sl.injEq]at he;have hl:ds.length=xs.length:=by have:=congrArg List.length he;simpa[ba.dM]using this
  simp only[bP]at ho;rcases ho with⟨h1,_,rfl⟩|⟨id,vs,Fs,rfl,_⟩
  ·subst h1;exact .inl ⟨rfl,bk.1 (by simpa using hl.symm)⟩
  ·exact .inr (.inr ⟨id,by rw[hl]⟩)
 |v x=>simp only[bP]at ho;rw[ho.1];exact .inr (.inl he)
 |i x=>simp[ba.enc,i64]at he
 |b x=>simp[ba.enc]at he
 |p q=>obtain⟨cs,hc⟩:=sh q;simp only[ba.enc,hc]at he;cases he
 |g ds=>simp[ba.enc]at he
theorem bZ.get{h:aC}: ∀{ds:List ba}{vs:List af}{F:List Nat},bZ h ds vs F-> ∀(i:Nat) d,ds[i]?=some d-> ∃v G,vs[i]?=some v/\bP h d v G
 | [],vs,F,hp,i,d,hd=>by simp at hd
 |p::ps,vs,F,hp,i,d,hd=>by
  simp only[bZ]at hp;obtain⟨v,eo,F1,F2,rfl,rfl,h1,h2⟩:=hp
  cases i with
  |zero=>simp at hd;subst hd;exact⟨v,F1,rfl,h1⟩
  |succ i=>simp at hd;exact bZ.get h2 i d hd
theorem XR.Xb{h:aC}{cur:List (List Item)}{E:af}{F:List Nat}(ho:bP h (bM.d cur) E F)(kY: ∀r∈cur,r≠[]):
  (cur=[]/\(E= .nil∨E= .sl []))∨ ∃id vs,E= .own id 0 cur.length/\h[id]?=some (.arr 1 vs)/\vs.length=cur.length/\ ∀(i:Nat) r,cur[i]?=some r-> ∃u,vs[i]?=some u/\ ∃id,u= .own id 0 r.length:=by
   unfold bM.d at ho;simp only[bP]at ho;rcases ho with⟨h1,_,h2⟩|⟨yu,vs,Fs,h,h5,h6,_⟩
   ·exact .inl ⟨by simpa using h1,h2⟩
   ·refine .inr ⟨yu,vs,by rw[h];simp,h5,by rw[gb h6];simp,fun i r hi=>?_⟩;obtain⟨v,G,h7,h8⟩:=bZ.get h6 i (aE.d r) (by simp[hi]);refine⟨v,h7,?_⟩;unfold aE.d at h8;simp only[bP]at h8;rcases h8 with⟨h1,_,_⟩|⟨id,_,_,h,_⟩
    ·exact absurd (by simpa using h1) (kY r (aV hi))
    ·exact⟨id,by rw[h];simp⟩
theorem Gy{bx:List (List Item)}(h:en bx=true): ∀z∈bx,z≠[]:=by
 have key: ∀(rest done:List (List Item)),oo done rest=true-> ∀z∈rest,z≠[]:=by
  intro rest
  induction rest with
  |nil=>intro done _ z hz;simp at hz
  |cons y ys ih=>
   intro done h z hz;simp only[oo,aj]at h;rcases aW.1 hz with rfl|hz
   ·have:=h.1.2;intro e;subst e;simp at this
   ·exact ih _ h.2.2 z hz
 simp only[en,aj]at h;exact key _ _ h.2
theorem gM(xs:List (List Item)):(bM.d xs).dep<=20:=by
 have: ∀ys:List (List Item),ba.cZ (ys.map aE.d)<=15:=by
  intro ys
  induction ys with
  |nil=>simp[ba.cZ]
  |cons y ys ih=>have:=j0 y;simp only[aM,ba.cZ];omega
 have:=this xs;simp only[bM.d,ba.dep];omega
theorem Aa(xs:List (List Item)):(bM.d xs).Bn=true:=by
 have: ∀ys:List (List Item),ba.nW (ys.map aE.d)=true:=by
  intro ys
  induction ys with
  |nil=>rfl
  |cons y ys ih=>simp only[aM,ba.nW,wD,ih,Bool.and_self]
 simp only[bM.d,ba.Bn,this]
theorem XR.box{h:aC}{bx:List (List Item)}{v:af}{F:List Nat}(ho:bP h (.g [bM.d bx]) v F): ∃D,v= .agg [D]/\bP h (bM.d bx) D F:=by
 obtain⟨vs,rfl,hu⟩:=gx.1 ho;obtain⟨D,u1,H1,G1,rfl,rfl,g1,h2⟩:=kD.1 hu;obtain⟨rfl,rfl⟩:=eL.1 h2;exact⟨D,rfl,by rw[aU];exact g1⟩
theorem XR.xI{h:aC}{cur:List (List Item)}{D:af}{F:List Nat}(hx:XR h cur D F)(n:Int):Am.snap h (.dX [.agg [D],i64 n])=some (.dX [.agg [bM.enc cur],i64 n]):=by
 obtain⟨d,ho,_,h2,he,_⟩:=hx.cU;have:=bZ.rO (eW ho (nk n)) (by simp only[ba.cZ,ba.dep];omega);rw[this];simp only[ba.cz,he];rfl
theorem Ji(hp:bV pr)(bx:List (List Item))(fuel:Int)(hr:xD bx):
  DG pr 139 [.agg [bM.enc bx],i64 fuel] (.dX [.agg [bM.enc (dZ bx fuel).1],i64 (dZ bx fuel).2]):=by
   have aN:dZ bx fuel=dZ bx fuel:=rfl;conv at aN=>rhs;unfold dZ
   generalize dZ bx fuel=res at aN⊢;have h1:=pA hp bx hr;have h2:=z5 hp bx hr;refine KT hp rfl ?_;have S:ah [] []:=ah.nil [];conv=>whnf
   intro k1 a1 dw dC;replace S:=S.alloc dw dC;conv=>whnf
   intro k2 a2 jf iB;replace S:=S.alloc jf iB;conv=>whnf
   refine aI (S.row 1 rfl) ?_;conv=>whnf
   refine⟨_,h1 _,?_⟩;conv=>whnf
   refine ae (fun g1=>?_) (fun g1=>?_)
   ·conv=>whnf
    refine ae (fun g2=>?_) (fun g2=>?_)
    ·have e:res=([],0):=by rw[aN,g2];simp[g1]
     clear aN;subst e;conv=>whnf
     refine⟨_,rfl,rfl,rfl,.inl ⟨_,S.row 0 rfl,rfl,?_⟩⟩;conv=>whnf
     intro a3 lS;replace S:=S.w0 lS;conv=>whnf
     exact⟨_,aR rfl rfl (S.row 0 rfl) rfl rfl,_,_,rfl,rfl⟩
    ·have RU:res=iQ bx.length bx fuel:=by rw[aN,g1,g2];rfl
     clear aN;obtain⟨hl5,hz5⟩:=dD g1;conv=>whnf
     refine aI (S.row 1 rfl) ?_;conv=>whnf
     refine ek S h2 rfl rfl fun v q1 F1 ow S1=>?_;clear S;have S:=S1;clear S1 h1 h2;obtain⟨D,rfl,NU⟩:=XR.box ow;replace S:=S.is (c':=.cU (bM.d bx) D F1) NU rfl;conv=>whnf
     intro k3 a4 kS jN;replace S:=S.alloc kS jN;conv=>whnf
     have hcD:[D].all af.bE=true:=by simp[(show bP q1 (.s 1 (bx.map aE.d)) D F1 from NU).cell.2]
     refine⟨_,rfl,rfl,hcD,.inl ⟨_,S.row 0 rfl,rfl,?_⟩⟩;conv=>whnf
     intro a5 Gw;replace S:=S.w0 Gw;conv=>whnf
     have kY: ∀r∈bx,r≠[]:=Gy g1;have PN:=PM (xs:=bx) (by omega) hz5;replace S:=S.swap;have ow2:bP a5 (bM.d bx) D F1:=S.get 0 rfl;replace S:=S.is (c':=.xr bx D F1) ⟨bM.d bx,ow2,Aa bx,gM bx,bM.eD bx⟩ rfl;refine dh (fun m tm hp=>∃(cur:List (List Item))(f:Int)(D:af)(F:List Nat),cur.length<=m/\iQ m cur f=res/\UB 1000 cur/\cur.length<=10/\(D= .sl (cur.map aE.enc)∨((∀r∈cur,r≠[])/\bP hp (bM.d cur) D F))/\tm 1=i64 f/\ah hp [.xr cur D F,.row k3 (.box (.agg [D])),.row k2 (.box (.agg [.nil])),.row k1 (.box (.agg [bM.enc bx]))]) (fun m tm hq bz hI=>?_) bx.length ⟨bx,fuel,D,F1,aB _,RU.symm,PN,by omega,.inr ⟨kY,ow2⟩,rfl,S⟩;clear S PN;obtain⟨cur,f,E,F0,hm,hT,vE,Jh,hE,e1,S⟩:=hI;have e2:=bz 2 (by kernel_rfl);conv at e2=>rhs;whnf
     have e4:=bz 4 (by kernel_rfl);conv at e4=>rhs;whnf
     have e6:=bz 6 (by kernel_rfl);conv at e6=>rhs;whnf
     refine⟨[(1,_),(2,_),(4,_),(6,_)],⟨e1,e2,e4,e6,trivial⟩,?_⟩;clear bz e1 e2 e4 e6;conv=>whnf
     refine aI (S.row 1 rfl) ?_;conv=>whnf
     have hx:XR hq cur E F0:=S.get 0 rfl;have fm:=z7 (aB _) (by omega) vE
     have z8: ∀c∈[Chunk.row k2 (.box (.agg [.nil])),Chunk.row k1 (.box (.agg [bM.enc bx]))],Calm c:=by
      intro c hc;simp only[aW,List.not_mem_nil,or_false]at hc;rcases hc with rfl|rfl<;>exact Gx fun _ _=>rfl
     have u9: ¬1<cur.length->res=(cur,f):=fun hc=>by
      rw[<-hT]
      cases m with
      |zero=>rfl
      |succ m=>unfold iQ;rw[if_neg hc]
     have Jj:1<cur.length->res=if xH cur>f∨en (fP cur)=false then(cur,f)else iQ (m-1) (fP cur) (IntKind.i64.wrap (f-xH cur)):=fun hc=>by
      rw[<-hT];obtain⟨m',rfl⟩: ∃k,m=k+1:=⟨m-1,by omega⟩;conv=>lhs;unfold iQ
      rw[if_pos hc];rfl
     rcases hE with rfl|⟨kY,ho⟩
     ·conv=>whnf
      refine ae (fun g3=>?_) (fun g3=>?_)
      ·have vF:2<=cur.length:=by simp at g3;omega
       obtain⟨y,hy⟩: ∃y,cur[cur.length-2]?=some y:=⟨_,au (by omega)⟩;obtain⟨z,hz⟩: ∃z,cur[cur.length-1]?=some z:=⟨_,au (by omega)⟩;have PO:xH cur=IntKind.i64.wrap ((y.length:Int)+z.length):=by simp[xH,hy,hz]
       have wG:=Jj (by omega);clear Jj u9;rw[PO]at wG;have Bo:IntKind.i64.wrap (((cur.map aE.enc).length:Int)-2)=((cur.length-2:Nat):Int):=by rw[aY,aO];omega
       have A4:IntKind.i64.wrap (((cur.map aE.enc).length:Int)-1)=((cur.length-1:Nat):Int):=by rw[aY,aO];omega
       have i4:(cur.map aE.enc)[cur.length-2]?=some (aE.enc y):=by simp[hy]
       have Nj:(cur.map aE.enc)[cur.length-1]?=some (aE.enc z):=by simp[hz]
       conv=>whnf
       refine aI (S.row 1 rfl) ?_;conv=>whnf
       conv=>whnf
       refine aI (S.row 1 rfl) ?_;conv=>whnf
       refine⟨aE.enc y,by rw[Bo];exact i4,by rw[Bo];omega,rfl,?_⟩;conv=>whnf
       refine aI (S.row 1 rfl) ?_;conv=>whnf
       refine⟨aE.enc z,by rw[A4];exact Nj,by rw[A4];omega,rfl,?_⟩;conv=>whnf
       obtain⟨q3,D3,qy,S3,_⟩:=wE rfl S z8 (pE hp cur vF Jh vE);have eH:=nu vF;have wF:=mM vF vE;have dt:=pA hp (fP cur) (z7 (aB _) (by omega) wF);refine aI (S.row 1 rfl) ?_;conv=>whnf
       refine⟨_,qy,?_⟩;clear S qy hx;have S:=S3;clear S3;have PQ:[D3].all af.bE=true:=by simp[(show XR q3 cur D3 []from S.get 0 rfl).cell.2]
       conv=>whnf
       intro k4 a9 tN pM;replace S:=S.alloc tN pM;conv=>whnf
       refine⟨_,rfl,rfl,rfl,.inl ⟨_,S.row 0 rfl,rfl,?_⟩⟩;conv=>whnf
       intro b1 eN;replace S:=S.w0 eN;conv=>whnf
       refine ae (fun g4=>?_) (fun g4=>?_)
       ·have e:res=(cur,f):=by rw[wG,if_pos (.inl (by simpa using g4))]
        clear wG;subst e;conv=>whnf
        refine aI (S.row 2 rfl) ?_;conv=>whnf
        conv=>whnf
        refine⟨_,rfl,rfl,PQ,.inl ⟨_,S.row 3 rfl,rfl,?_⟩⟩;conv=>whnf
        intro a8 eE;replace S:=S.w3 eE;conv=>whnf
        exact⟨_,aR rfl rfl (S.row 3 rfl) rfl rfl,_,_,rfl,XR.xI (S.get 1 rfl) _⟩
       ·conv=>whnf
        refine aI (S.row 0 rfl) ?_;conv=>whnf
        refine⟨_,dt _,?_⟩;conv=>whnf
        refine ae (fun g5=>?_) (fun g5=>?_)
        ·have cY:res=iQ (m-1) (fP cur) (IntKind.i64.wrap (f-IntKind.i64.wrap ((y.length:Int)+z.length))):=by rw[wG,if_neg (by intro h;rcases h with h|h;simp at g4;omega;rw[g5]at h;cases h)]
         conv=>whnf
         refine aI (S.row 0 rfl) ?_;conv=>whnf
         conv=>whnf
         refine⟨_,rfl,rfl,rfl,.inl ⟨_,S.row 2 rfl,rfl,?_⟩⟩;conv=>whnf
         intro b2 dB;replace S:=S.w2 dB;conv=>whnf
         exact⟨m-1,by omega,fP cur,IntKind.i64.wrap (f-IntKind.i64.wrap (((y.map Item.enc).length:Int)+(z.map Item.enc).length)),_,_,by omega,by rw[aO,aO];exact cY.symm,wF,by omega,.inl rfl,rfl,ah.My (fP cur) ((S.drop 0).drop 0)⟩
        ·have e:res=(cur,f):=by rw[wG,if_pos (.inr g5)]
         clear wG;subst e;conv=>whnf
         refine aI (S.row 2 rfl) ?_;conv=>whnf
         conv=>whnf
         refine⟨_,rfl,rfl,PQ,.inl ⟨_,S.row 3 rfl,rfl,?_⟩⟩;conv=>whnf
         intro a8 eE;replace S:=S.w3 eE;conv=>whnf
         exact⟨_,aR rfl rfl (S.row 3 rfl) rfl rfl,_,_,rfl,XR.xI (S.get 1 rfl) _⟩
      ·have e:=u9 (by simp at g3;omega);clear u9 Jj;subst e;conv=>whnf
       refine aI (S.row 1 rfl) ?_;conv=>whnf
       conv=>whnf
       refine⟨_,rfl,rfl,rfl,.inl ⟨_,S.row 2 rfl,rfl,?_⟩⟩;conv=>whnf
       intro a8 eE;replace S:=S.w2 eE;conv=>whnf
       exact⟨_,aR rfl rfl (S.row 2 rfl) rfl rfl,_,_,rfl,XR.xI (S.get 0 rfl) _⟩
     rcases XR.Xb ho kY with⟨rfl,hv⟩|⟨id,vs,rfl,dT,wh,ji⟩
     ·have e:=u9 (by simp);clear u9 Jj;subst e;rcases hv with rfl|rfl
      ·conv=>whnf
       refine aI (S.row 1 rfl) ?_;conv=>whnf
       conv=>whnf
       refine⟨_,rfl,rfl,rfl,.inl ⟨_,S.row 2 rfl,rfl,?_⟩⟩;conv=>whnf
       intro a8 eE;replace S:=S.w2 eE;conv=>whnf
       exact⟨_,aR rfl rfl (S.row 2 rfl) rfl rfl,_,_,rfl,XR.xI (S.get 0 rfl) _⟩
      ·conv=>whnf
       refine aI (S.row 1 rfl) ?_;conv=>whnf
       conv=>whnf
       refine⟨_,rfl,rfl,rfl,.inl ⟨_,S.row 2 rfl,rfl,?_⟩⟩;conv=>whnf
       intro a8 eE;replace S:=S.w2 eE;conv=>whnf
       exact⟨_,aR rfl rfl (S.row 2 rfl) rfl rfl,_,_,rfl,XR.xI (S.get 0 rfl) _⟩
     ·conv=>whnf
      refine ae (fun g3=>?_) (fun g3=>?_)
      ·have vF:2<=cur.length:=by simp at g3;omega
       obtain⟨y,hy⟩: ∃y,cur[cur.length-2]?=some y:=⟨_,au (by omega)⟩;obtain⟨z,hz⟩: ∃z,cur[cur.length-1]?=some z:=⟨_,au (by omega)⟩;have PO:xH cur=IntKind.i64.wrap ((y.length:Int)+z.length):=by simp[xH,hy,hz]
       have wG:=Jj (by omega);clear Jj u9;rw[PO]at wG;have Bo:IntKind.i64.wrap ((cur.length:Int)-2)=((cur.length-2:Nat):Int):=by rw[aY];omega
       have A4:IntKind.i64.wrap ((cur.length:Int)-1)=((cur.length-1:Nat):Int):=by rw[aY];omega
       obtain⟨u2,QR,yu,rfl⟩:=ji _ y hy;obtain⟨u1,Yf,id1,rfl⟩:=ji _ z hz;have hv2:vs[0+(IntKind.i64.wrap ((cur.length:Int)-2)).toNat]?=some (.own yu 0 y.length):=by rw[Bo,bg];exact QR
       have QG:vs[0+(IntKind.i64.wrap ((cur.length:Int)-1)).toNat]?=some (.own id1 0 z.length):=by rw[A4,bg];exact Yf
       conv=>whnf
       refine aI (S.row 1 rfl) ?_;conv=>whnf
       conv=>whnf
       refine aI (S.row 1 rfl) ?_;conv=>whnf
       refine⟨vs,dT,⟨by rw[Bo];omega,by rw[Bo];omega⟩,?_⟩;conv=>whnf
       refine .inr ⟨_,_,_,dT,hv2,?_⟩;conv=>whnf
       refine aI (S.row 1 rfl) ?_;conv=>whnf
       refine⟨vs,dT,⟨by rw[A4];omega,by rw[A4];omega⟩,?_⟩;conv=>whnf
       refine .inr ⟨_,_,_,dT,QG,?_⟩;conv=>whnf
       obtain⟨q3,D3,qy,S3,_⟩:=wE rfl S z8 (pE hp cur vF Jh vE);have eH:=nu vF;have wF:=mM vF vE;have dt:=pA hp (fP cur) (z7 (aB _) (by omega) wF);refine aI (S.row 1 rfl) ?_;conv=>whnf
       refine⟨_,qy,?_⟩;clear S qy hx;have S:=S3;clear S3;have PQ:[D3].all af.bE=true:=by simp[(show XR q3 cur D3 []from S.get 0 rfl).cell.2]
       conv=>whnf
       intro k4 a9 tN pM;replace S:=S.alloc tN pM;conv=>whnf
       refine⟨_,rfl,rfl,rfl,.inl ⟨_,S.row 0 rfl,rfl,?_⟩⟩;conv=>whnf
       intro b1 eN;replace S:=S.w0 eN;conv=>whnf
       refine ae (fun g4=>?_) (fun g4=>?_)
       ·have e:res=(cur,f):=by rw[wG,if_pos (.inl (by simpa using g4))]
        clear wG;subst e;conv=>whnf
        refine aI (S.row 2 rfl) ?_;conv=>whnf
        conv=>whnf
        refine⟨_,rfl,rfl,PQ,.inl ⟨_,S.row 3 rfl,rfl,?_⟩⟩;conv=>whnf
        intro a8 eE;replace S:=S.w3 eE;conv=>whnf
        exact⟨_,aR rfl rfl (S.row 3 rfl) rfl rfl,_,_,rfl,XR.xI (S.get 1 rfl) _⟩
       ·conv=>whnf
        refine aI (S.row 0 rfl) ?_;conv=>whnf
        refine⟨_,dt _,?_⟩;conv=>whnf
        refine ae (fun g5=>?_) (fun g5=>?_)
        ·have cY:res=iQ (m-1) (fP cur) (IntKind.i64.wrap (f-IntKind.i64.wrap ((y.length:Int)+z.length))):=by rw[wG,if_neg (by intro h;rcases h with h|h;simp at g4;omega;rw[g5]at h;cases h)]
         conv=>whnf
         refine aI (S.row 0 rfl) ?_;conv=>whnf
         conv=>whnf
         refine⟨_,rfl,rfl,rfl,.inl ⟨_,S.row 2 rfl,rfl,?_⟩⟩;conv=>whnf
         intro b2 dB;replace S:=S.w2 dB;conv=>whnf
         exact⟨m-1,by omega,fP cur,IntKind.i64.wrap (f-IntKind.i64.wrap ((y.length:Int)+z.length)),_,_,by omega,cY.symm,wF,by omega,.inl rfl,rfl,ah.My (fP cur) ((S.drop 0).drop 0)⟩
        ·have e:res=(cur,f):=by rw[wG,if_pos (.inr g5)]
         clear wG;subst e;conv=>whnf
         refine aI (S.row 2 rfl) ?_;conv=>whnf
         conv=>whnf
         refine⟨_,rfl,rfl,PQ,.inl ⟨_,S.row 3 rfl,rfl,?_⟩⟩;conv=>whnf
         intro a8 eE;replace S:=S.w3 eE;conv=>whnf
         exact⟨_,aR rfl rfl (S.row 3 rfl) rfl rfl,_,_,rfl,XR.xI (S.get 1 rfl) _⟩
      ·have e:=u9 (by simp at g3;omega);clear u9 Jj;subst e;conv=>whnf
       refine aI (S.row 1 rfl) ?_;conv=>whnf
       conv=>whnf
       refine⟨_,rfl,rfl,rfl,.inl ⟨_,S.row 2 rfl,rfl,?_⟩⟩;conv=>whnf
       intro a8 eE;replace S:=S.w2 eE;conv=>whnf
       exact⟨_,aR rfl rfl (S.row 2 rfl) rfl rfl,_,_,rfl,XR.xI (S.get 0 rfl) _⟩
   ·have e:res=([],0):=by rw[aN,g1];rfl
    clear aN;subst e;conv=>whnf
    refine⟨_,rfl,rfl,rfl,.inl ⟨_,S.row 0 rfl,rfl,?_⟩⟩;conv=>whnf
    intro a3 lS;replace S:=S.w0 lS;conv=>whnf
    exact⟨_,aR rfl rfl (S.row 0 rfl) rfl rfl,_,_,rfl,rfl⟩
theorem Mz{aw n:Int}{aA:Test}{C:af}{a b:Int}{K:af}{agg col:Int}{D:af}(h1:C.bE=true)(h2:K.bE=true)(h3:D.bE=true):[lL aw n aA C a b K agg col D].all (hU 19)=true:=by
 simp only[List.all_cons,List.all_nil,hU,FQ h1 h2 h3];rfl
theorem KV{D:af}{n:Nat}(h:D= .nil∨ ∃id,D= .own id 0 n):D.bE=true:=by rcases h with rfl|⟨_,rfl⟩<;>rfl
theorem m8.list{α:Type}{f:α->af}{sz:Nat}{h:aC}{xs:List α}{v:af}(h0:m8 f sz h xs v):i7 f sz h xs v (nT v):=by
 rcases h0 with⟨rfl,rfl⟩|⟨id,rfl,h1⟩
 ·exact .inl ⟨rfl,rfl,.inl rfl⟩
 ·exact .inr ⟨id,rfl,h1,rfl⟩
theorem RV{h:aC}{al:List ax}{D:af}{F:List Nat}(hA:qS 19 h (al.map ba.p) D F):nR h al D F:=by
 have key: ∀(ps:List ax)(vs:List af)(F:List Nat),bZ h (ps.map ba.p) vs F->fG h ps vs F:=by
  intro ps
  induction ps with
  |nil=>intro vs F ho;simp only[List.map_nil,bZ]at ho;simp only[fG];exact ho
  |cons p ps ih=>
   intro vs F ho;simp only[aM,bZ]at ho;obtain⟨v,eo,F1,F2,rfl,rfl,h1,h2⟩:=ho;simp only[bP]at h1;simp only[fG];exact⟨v,eo,F1,F2,rfl,rfl,h1,ih _ _ h2⟩
 obtain⟨ho,hv⟩:=hA;simp only[bP]at ho;rcases ho with⟨h1,rfl,h2⟩|⟨id,vs,Fs,rfl,h5,h6,rfl⟩
 ·rcases hv with rfl|⟨id,rfl⟩
  ·exact .inl ⟨by simpa using h1,rfl,rfl⟩
  ·rcases h2 with h2|h2<;>cases h2
 ·exact .inr ⟨id,vs,Fs,by simp,h5,key _ _ _ h6,rfl⟩
theorem MA(hp:bV pr): ∀(N:Nat)(p:ax),SizeOf.sizeOf p<=N->p.small->kC pr 135 [p.enc] (.p p):=by
 intro N
 induction N with
 |zero=>intro p h;exfalso;cases p;simp at h
 |succ N ih=>
  intro p hs fm;obtain⟨aw,n,aA,cells,a,b,ao,agg,c,al⟩:=p;obtain⟨qM,jK,fL,fB⟩:=dK fm;have Zr: ∀q∈al,kC pr 135 [q.enc] (.p q):=fun q hq=>ih q (by have:=List.sizeOf_lt_of_mem hq;simp at hs;omega) (fB q hq);clear ih;refine lQ hp rfl ?_;have S:ah [] []:=ah.nil [];conv=>whnf
  intro k1 a1 dw dC;replace S:=S.alloc dw dC;conv=>whnf
  intro k2 a2 jf iB;replace S:=S.alloc jf iB;conv=>whnf
  refine aI (S.row 1 rfl) ?_;conv=>whnf
  intro k3 a3 kS jN;replace S:=S.alloc kS jN;conv=>whnf
  refine⟨_,rfl,rfl,rfl,.inl ⟨_,S.row 0 rfl,rfl,?_⟩⟩;conv=>whnf
  intro a4 Gv;replace S:=S.w0 Gv;conv=>whnf
  conv=>whnf
  refine aI (S.row 2 rfl) ?_;conv=>whnf
  refine⟨trivial,?_⟩;conv=>whnf
  refine⟨cells.map Cell.enc,rfl,by rw[List.all_map,aG];intro _ _;rfl,?_⟩;refine jA (ah.ma Cell.enc 4 S) (by simp[br];omega) fun D1 w1 Ec S1=>?_;have KP:D1.cells=[D1]/\[D1].all af.bE=true:=by rcases Ec with rfl|⟨_,rfl⟩<;>exact⟨rfl,rfl⟩
  replace S:=S1;clear S1;rw[List.nil_append]at S;conv=>whnf
  refine⟨[D1],KP.1,rfl,KP.2,.inl ⟨_,S.row 1 rfl,rfl,?_⟩⟩;conv=>whnf
  intro b1 eN;replace S:=S.w1 eN;conv=>whnf
  refine aI (S.row 3 rfl) ?_;conv=>whnf
  refine⟨trivial,?_⟩;conv=>whnf
  refine⟨ao.map i64,rfl,by rw[List.all_map,aG];intro _ _;rfl,?_⟩;refine jA (ah.ma i64 1 S) (by simp[br];omega) fun D2 w2 X9 S1=>?_;have Ea:D2.cells=[D2]/\[D2].all af.bE=true:=by rcases X9 with rfl|⟨_,rfl⟩<;>exact⟨rfl,rfl⟩
  replace S:=S1;clear S1;rw[List.nil_append]at S;conv=>whnf
  refine⟨[D2],Ea.1,rfl,Ea.2,.inl ⟨_,S.row 2 rfl,rfl,?_⟩⟩;conv=>whnf
  intro b2 dB;replace S:=S.w2 dB;conv=>whnf
  refine⟨_,rfl,rfl,rfl,.inl ⟨_,S.row 2 rfl,rfl,?_⟩⟩;conv=>whnf
  intro b3 gg;replace S:=S.w2 gg;conv=>whnf
  replace S:=ah.j7 19 S;have ji:=dM al;refine dh (fun m tm hp=>∃(j:Nat)(D:af)(F:List Nat),j+m=al.length/\tm 4=i64 (j:Nat)/\ah hp [.iA 19 ((al.take j).map ba.p) D F,.acc i64 1 ao D2,.acc Cell.enc 4 cells D1,.row k3 (.box (lL aw n aA D1 a b D2 agg c D)),.row k2 (.box WH),.row k1 (.box (ax.mk aw n aA cells a b ao agg c al).enc)]) (fun m tm hq bz hI=>?_) (al.length) ⟨0,.nil,[],by simp,rfl,S⟩;obtain⟨j,D,F,hj,e4,S2⟩:=hI;have k1:=bz 1 (by kernel_rfl);conv at k1=>rhs;whnf
  have k2:=bz 2 (by kernel_rfl);conv at k2=>rhs;whnf
  have k3:=bz 3 (by kernel_rfl);conv at k3=>rhs;whnf
  refine⟨[(1,_),(2,_),(3,_),(4,_)],⟨k1,k2,k3,e4,trivial⟩,?_⟩;clear bz k1 k2 k3 e4;replace S:=S2;clear S2;conv=>whnf
  have fw:j<4611686018427387904:=by omega
  refine aI (S.row 5 rfl) ?_;conv=>whnf
  refine ae (fun h1=>?_) (fun h1=>?_)
  ·have bq:j<al.length:=by simpa[dM]using h1
   have cx:(ax.cz al)[((j:Nat):Int).toNat]?=some (ax.enc al[j]):=by rw[aq,eK];simp[bq]
   have hz:=Zr al[j] (ay bq);have cY:=js ba.p bq;generalize al[j]=q at cx cY hz;obtain⟨cd,n',cr,bK,a',b',cm,cX,c',bU⟩:=q;conv=>whnf
   refine aI (S.row 3 rfl) ?_;conv=>whnf
   refine aI (S.row 5 rfl) ?_;conv=>whnf
   refine⟨_,cx,by omega,rfl,?_⟩;conv=>whnf
   refine ek S hz rfl rfl fun A q1 F1 o1 S1=>?_;replace S:=S1.swap;clear S1;have o2:=o1;simp only[bP]at o2;rw[kA]at o2;obtain⟨C,K,D3,Fc,Fk,Fd,rfl,g1,g2,g3,rfl⟩:=o2;conv=>whnf
   intro nM nN de dg;replace S:=S.alloc de dg;conv=>whnf
   refine⟨trivial,?_⟩;conv=>whnf
   refine⟨[_],bG (S.row 0 rfl),Mz g1.cell.2 g2.cell.2 g3.cell.2,?_⟩;replace S:=S.drop 0;dsimp only[List.eraseIdx]at S;refine jM (sz:=19) (d:=.p (.mk cd n' cr bK a' b' cm cX c' bU)) S (by simp[br];omega) fun k5 h5 F5 S2=>?_;clear S;have S:=S2;clear S2;conv=>whnf
   refine⟨_,rfl,rfl,rfl,.inl ⟨_,S.row 3 rfl,rfl,?_⟩⟩;conv=>whnf
   intro h6 fO;replace S:=S.w3 fO;conv=>whnf
   exact⟨m-1,by omega,j+1,_,_,by omega,aQ j fw,by rw[cY];exact S⟩
  ·have bq:j=al.length:=by
    have: ¬j<al.length:=by simpa[dM]using h1
    omega
   subst bq;rw[aS]at S;conv=>whnf
   refine aI (S.row 3 rfl) ?_;conv=>whnf
   have oD:=(ah.dv S).get 0 rfl;have oD2:bP hq (.s 19 (al.map ba.p)) D F:=oD;refine⟨_,rfl,rfl,(FQ (KV Ec) (KV X9) oD2.cell.2),.inl ⟨_,S.row 4 rfl,rfl,?_⟩⟩;conv=>whnf
   intro b4 iH;replace S:=S.w4 iH;conv=>whnf
   clear oD oD2;have hA:qS 19 b4 (al.map ba.p) D F:=S.get 0 rfl;have hk:nR b4 al D F:=RV hA;replace S:=S.is (c':=.al al D F) hk rfl;have g1:m8 Cell.enc 4 b4 cells D1:=S.get 2 rfl;have g2:m8 i64 1 b4 ao D2:=S.get 1 rfl;refine⟨_,dI rfl rfl (S.row 4 rfl) rfl,_,_,nT D1++(nT D2++F),rfl,?_,?_⟩
   ·unfold bP;exact jH.of (m8.list g1) (m8.list g2) hk
   ·refine tC (S.get' 2 _ rfl).2 (tC (S.get' 1 _ rfl).2 (S.get' 0 _ rfl).2 fun id cq=>S.apart 1 0 _ _ (by omega) rfl rfl id cq) fun id cq hm=>?_;rcases bu.1 hm with h|h
    ·exact S.apart 2 1 _ _ (by omega) rfl rfl id cq h
    ·exact S.apart 2 0 _ _ (by omega) rfl rfl id cq h
theorem Ab(hp:bV pr)(p:ax)(fm:p.small):kC pr 135 [p.enc] (.p p):=MA hp _ p (aB _) fm
def Ac(k:Nat):af:=.iface k (.agg [])
def UC:af:=.mQ [i64 1,i64 2,i64 3,i64 4,i64 5,i64 6,i64 7]
 [Ac 132,Ac 133,Ac 134,Ac 135,Ac 136,Ac 137,Ac 138]
theorem DJ(hp:bV pr):dm pr 65 [] UC:=by
 refine bY hp rfl rfl ?_;conv=>whnf
 exact⟨_,_,rfl,rfl⟩
theorem Gz(hp:bV pr):dm pr 186 [.agg []] (i64 0):=by
 refine bY hp rfl rfl ?_;conv=>whnf
 exact bR rfl
theorem GA(hp:bV pr):dm pr 191 [.agg []] (i64 1):=by
 refine bY hp rfl rfl ?_;conv=>whnf
 exact bR rfl
theorem MB(hp:bV pr):dm pr 199 [.agg []] (i64 1):=by
 refine bY hp rfl rfl ?_;conv=>whnf
 exact bR rfl
theorem Jk(hp:bV pr):dm pr 207 [.agg []] (i64 2):=by
 refine bY hp rfl rfl ?_;conv=>whnf
 exact bR rfl
theorem Jl(hp:bV pr):dm pr 213 [.agg []] (i64 2):=by
 refine bY hp rfl rfl ?_;conv=>whnf
 exact bR rfl
theorem Jm(hp:bV pr):dm pr 218 [.agg []] (i64 1):=by
 refine bY hp rfl rfl ?_;conv=>whnf
 exact bR rfl
theorem GB(hp:bV pr):dm pr 223 [.agg []] (i64 1):=by
 refine bY hp rfl rfl ?_;conv=>whnf
 exact bR rfl
def zT:Test:=⟨0,false,⟨0,0,0,0⟩,⟨0,0,0,0⟩⟩
def only:ax->ax
 | .mk aw n aA cells a b ao agg c _=>
  .mk aw (if aw=1 then n else 0) (if aw=2 then aA else zT) (if aw=3 then cells else []) (if aw=4 then a else 0) (if aw=4 then b else 0) (if aw=7 then ao else []) (if aw=7 then agg else 0) (if aw=7 then c else 0) []
theorem GC(hp:bV pr)(n:Int)(aA:Test)(cells:List Cell)(a b:Int)(ao:List Int)(agg c:Int)(al:List ax):dm pr 187 [.agg [],(ax.mk 1 n aA cells a b ao agg c al).enc] (only (ax.mk 1 n aA cells a b ao agg c al)).enc:=by
 refine bY hp rfl rfl ?_;conv=>whnf
 exact⟨_,_,rfl,rfl⟩
theorem GD(hp:bV pr)(n:Int)(aA:Test)(cells:List Cell)(a b:Int)(ao:List Int)(agg c:Int)(al:List ax):dm pr 192 [.agg [],(ax.mk 2 n aA cells a b ao agg c al).enc] (only (ax.mk 2 n aA cells a b ao agg c al)).enc:=by
 refine bY hp rfl rfl ?_;conv=>whnf
 exact⟨_,_,rfl,rfl⟩
theorem MC(hp:bV pr)(n:Int)(aA:Test)(cells:List Cell)(a b:Int)(ao:List Int)(agg c:Int)(al:List ax):dm pr 200 [.agg [],(ax.mk 3 n aA cells a b ao agg c al).enc] (only (ax.mk 3 n aA cells a b ao agg c al)).enc:=by
 refine bY hp rfl rfl ?_;conv=>whnf
 exact⟨_,_,rfl,rfl⟩
theorem Jn(hp:bV pr)(n:Int)(aA:Test)(cells:List Cell)(a b:Int)(ao:List Int)(agg c:Int)(al:List ax):dm pr 208 [.agg [],(ax.mk 4 n aA cells a b ao agg c al).enc] (only (ax.mk 4 n aA cells a b ao agg c al)).enc:=by
 refine bY hp rfl rfl ?_;conv=>whnf
 exact⟨_,_,rfl,rfl⟩
theorem Jo(hp:bV pr)(n:Int)(aA:Test)(cells:List Cell)(a b:Int)(ao:List Int)(agg c:Int)(al:List ax):dm pr 214 [.agg [],(ax.mk 5 n aA cells a b ao agg c al).enc] (only (ax.mk 5 n aA cells a b ao agg c al)).enc:=by
 refine bY hp rfl rfl ?_;conv=>whnf
 exact⟨_,_,rfl,rfl⟩
theorem Jp(hp:bV pr)(n:Int)(aA:Test)(cells:List Cell)(a b:Int)(ao:List Int)(agg c:Int)(al:List ax):dm pr 219 [.agg [],(ax.mk 6 n aA cells a b ao agg c al).enc] (only (ax.mk 6 n aA cells a b ao agg c al)).enc:=by
 refine bY hp rfl rfl ?_;conv=>whnf
 exact⟨_,_,rfl,rfl⟩
theorem GG(hp:bV pr)(n:Int)(aA:Test)(cells:List Cell)(a b:Int)(ao:List Int)(agg c:Int)(al:List ax):dm pr 224 [.agg [],(ax.mk 7 n aA cells a b ao agg c al).enc] (only (ax.mk 7 n aA cells a b ao agg c al)).enc:=by
 refine bY hp rfl rfl ?_;conv=>whnf
 exact⟨_,_,rfl,rfl⟩
def nth(ws:List Int)(i:Nat):Int:=(ws[i]?).getD 0
def bI:ax->List Int->Int
 | .mk aw n aA cells a b ao agg c _,ws=>
  if aw=1 then(if decide (0<=n)&&decide (n<ws.length)then nth ws n.toNat else-1)
  else if aw=2 then(if jG aA (nth ws 0)then nth ws 0 else-1)
  else if aw=3 then(if decide (1<=cells.length)&&(decide (cells.length<=6)&&cells.all (fun c=>d9 c (nth ws 0)))then(cells.length:Int)else-1)
  else if aw=4 then(if col a (nth ws 0)&&col b (nth ws 1)then IntKind.i64.wrap (nth ws 0+nth ws 1)else-1)
  else if aw=5 then(if nth ws 0==nth ws 1 then nth ws 0 else-1)
  else if aw=6 then nth ws 0
  else(if decide (0<=agg)&&(decide (agg<=3)&&(dY ao (nth ws 0)&&col c (nth ws 0)))then(ao.length:Int)+1 else-1)
theorem xJ(hp:bV pr)(n:Int)(aA:Test)(cells:List Cell)(a b:Int)(ao:List Int)(agg c:Int)(al:List ax)(ws:List Int)(h0:ws≠[])(hl:ws.length<=1048576):
  dm pr 189 [.agg [],(ax.mk 1 n aA cells a b ao agg c al).enc,.sl (ws.map i64)] (i64 (bI (ax.mk 1 n aA cells a b ao agg c al) ws)):=by
   have ug:0<ws.length:=List.length_pos_iff.2 h0;have A4:IntKind.i64.wrap (((ws.map i64).length:Int)-1)=(ws.length:Int)-1:=by rw[aY];simp;omega
   have Ci:=lN hp
   have key: ∀(ok:Bool),ok=(decide (0<=n)&&decide (n<ws.length))-> ∃y,(ws.map i64)[(if(if IntKind.i64.wrap (((ws.map i64).length:Int)-1)<n then IntKind.i64.wrap (((ws.map i64).length:Int)-1)else n)>0 then(if IntKind.i64.wrap (((ws.map i64).length:Int)-1)<n then IntKind.i64.wrap (((ws.map i64).length:Int)-1)else n)else 0).toNat]?=some (i64 y)/\
     0<=(if(if IntKind.i64.wrap (((ws.map i64).length:Int)-1)<n then IntKind.i64.wrap (((ws.map i64).length:Int)-1)else n)>0 then(if IntKind.i64.wrap (((ws.map i64).length:Int)-1)<n then IntKind.i64.wrap (((ws.map i64).length:Int)-1)else n)else 0)/\(if ok then y else-1)=bI (ax.mk 1 n aA cells a b ao agg c al) ws:=by
      intro ok dt;rw[A4];generalize hi:(if(if(ws.length:Int)-1<n then(ws.length:Int)-1 else n)>0 then(if(ws.length:Int)-1<n then(ws.length:Int)-1 else n)else 0)=i
      have y9:0<=i/\i<ws.length/\(0<=n->n<ws.length->i=n):=by
       subst hi;refine⟨by split<;>omega,by split<;>(try split)<;>omega,fun _ _=>by split<;>(try split at*)<;>omega⟩
      obtain⟨a1,a2,a3⟩:=y9;have eH:i.toNat<ws.length:=by omega
      refine⟨ws[i.toNat],by simp[eH],a1,?_⟩;have wH:bI (ax.mk 1 n aA cells a b ao agg c al) ws=if decide (0<=n)&&decide (n<ws.length)then nth ws n.toNat else-1:=rfl
      rw[wH,dt]
      by_cases h:(decide (0<=n)&&decide (n<(ws.length:Int)))=true
      ·rw[if_pos h,if_pos h];simp only[aj,decide_eq_true_eq]at h;obtain rfl:=a3 h.1 h.2;simp[nth,eH]
      ·rw[if_neg h,if_neg h]
   refine bY hp rfl rfl ?_;conv=>whnf
   refine ae (fun g1=>?_) (fun g1=>?_)
   ·conv=>whnf
    refine ae (fun g2=>?_) (fun g2=>?_)
    ·conv=>whnf
     obtain⟨y,k1,k2,k3⟩:=key true (by simp at g1 g2;simp;omega);refine⟨_,k1,k2,rfl,?_⟩;conv=>whnf
     refine⟨_,Ci true y _,?_⟩;conv=>whnf
     exact bR k3
    ·conv=>whnf
     obtain⟨y,k1,k2,k3⟩:=key false (by simp at g1 g2;simp;omega);refine⟨_,k1,k2,rfl,?_⟩;conv=>whnf
     refine⟨_,Ci false y _,?_⟩;conv=>whnf
     exact bR k3
   ·conv=>whnf
    obtain⟨y,k1,k2,k3⟩:=key false (by simp at g1;simp;omega);refine⟨_,k1,k2,rfl,?_⟩;conv=>whnf
    refine⟨_,Ci false y _,?_⟩;conv=>whnf
    exact bR k3
theorem xK(hp:bV pr)(n:Int)(aA:Test)(cells:List Cell)(a b:Int)(ao:List Int)(agg c:Int)(al:List ax)(w:Int)(ws:List Int):
  dm pr 194 [.agg [],(ax.mk 2 n aA cells a b ao agg c al).enc,.sl ((w::ws).map i64)] (i64 (bI (ax.mk 2 n aA cells a b ao agg c al) (w::ws))):=by
   have ht:=L6 hp aA w;have Ci:=lN hp;refine bY hp rfl rfl ?_;conv=>whnf
   refine⟨i64 w,rfl,by omega,rfl,?_⟩;conv=>whnf
   refine⟨_,ht _,?_⟩;conv=>whnf
   refine ae (fun g1=>?_) (fun g1=>?_)
   ·conv=>whnf
    refine⟨i64 w,rfl,by omega,rfl,?_⟩;conv=>whnf
    refine⟨_,Ci _ w _,?_⟩;conv=>whnf
    exact bR (by simp[bI,nth,g1])
   ·conv=>whnf
    refine⟨i64 w,rfl,by omega,rfl,?_⟩;conv=>whnf
    refine⟨_,Ci _ w _,?_⟩;conv=>whnf
    exact bR (by simp[bI,nth,g1])
theorem Cj(hp:bV pr)(n:Int)(aA:Test)(cells:List Cell)(a b:Int)(ao:List Int)(agg c:Int)(al:List ax)(w:Int)(ws:List Int)(hl:cells.length<=1048576):
  dm pr 202 [.agg [],(ax.mk 3 n aA cells a b ao agg c al).enc,.sl ((w::ws).map i64)] (i64 (bI (ax.mk 3 n aA cells a b ao agg c al) (w::ws))):=by
   have hc:=zE hp cells w ws hl;have Ci:=fun ok=>lN hp ok (cells.map Cell.enc).length;have wH:bI (ax.mk 3 n aA cells a b ao agg c al) (w::ws)=if decide (1<=cells.length)&&(decide (cells.length<=6)&&cells.all (fun c=>d9 c w))then(cells.length:Int)else-1:=rfl
   rw[wH];refine bY hp rfl rfl ?_;conv=>whnf
   refine⟨_,hc.frozen rfl rfl rfl rfl,?_⟩
   iterate 6
    all_goals(try(conv=>whnf))
    all_goals(first|(refine ae (fun hb=>?_) (fun hb=>?_))|(refine⟨_,Ci _ _,?_⟩)|skip)
   all_goals exact bR (by clear hc Ci wH;simp_all;try omega)
def bX(aw:Int):Int:=if aw=1 then 0 else if aw=2∨aw=3∨aw=6∨aw=7 then 1 else if aw=4∨aw=5 then 2 else-1
theorem eR(k:Int):k=1∨k=2∨k=3∨k=4∨k=5∨k=6∨k=7∨((k==1)=false/\(k==2)=false/\(k==3)=false/\(k==4)=false/\(k==5)=false/\(k==6)=false/\(k==7)=false):=by
 simp only[beq_eq_false_iff_ne,ne_eq];omega
theorem kK(hp:bV pr)(aw:Int):dm pr 120 [i64 aw] (i64 (bX aw)):=by
 refine bY hp rfl rfl ?_;rcases eR aw with rfl|rfl|rfl|rfl|rfl|rfl|rfl|⟨h1,h2,h3,h4,h5,h6,h7⟩
 iterate 7
  ·conv=>whnf
   exact bR rfl
 ·conv=>whnf
  refine bf h1 ?_;conv=>whnf
  refine bf h2 ?_;conv=>whnf
  refine bf h3 ?_;conv=>whnf
  refine bf h6 ?_;conv=>whnf
  refine bf h7 ?_;conv=>whnf
  refine bf h4 ?_;conv=>whnf
  refine bf h5 ?_;conv=>whnf
  exact bR (by simp_all[bX])
def KW(t:Test):Bool:=t.aw==0&&(t.no==false&&(t.l.aw==0&&(t.l.a==0&&(t.l.b==0&&(t.l.n==0&&(t.r.aw==0&&(t.r.a==0&&(t.r.b==0&&(t.r.n==0&&true)))))))))
def clean:ax->Bool
 | .mk aw n aA cells a b ao agg col _=>(aw==1||n==0)&&((aw==2||KW aA)&&((aw==3||cells.isEmpty)&&((aw==4||(a==0&&b==0))&&(aw==7||(ao.isEmpty&&(agg==0&&col==0))))))
theorem jd(hp:bV pr)(p:ax):dm pr 121 [p.enc] (.bool (clean p)):=by
 obtain⟨aw,n,⟨tk,tn,⟨a1,a2,a3,a4⟩,⟨b1,b2,b3,b4⟩⟩,cells,a,b,ao,agg,col,al⟩:=p;refine bY hp rfl rfl ?_;rcases eR aw with rfl|rfl|rfl|rfl|rfl|rfl|rfl|⟨h1,h2,h3,h4,h5,h6,h7⟩
 iterate 7
  ·iterate 12
    all_goals(try(conv=>whnf))
    all_goals(first|(refine ae (fun hb=>?_) (fun hb=>?_))|(refine⟨_,_,uE,rfl,?_⟩)|skip)
   all_goals(try(conv=>whnf))
   all_goals exact bo (by simp_all[clean,KW])
 ·iterate 19
   all_goals(try(conv=>whnf))
   all_goals(first|(refine bf h1 ?_)|(refine bf h2 ?_)|(refine bf h3 ?_)|(refine bf h4 ?_)|(refine bf h7 ?_)|(refine ae (fun hb=>?_) (fun hb=>?_))|(refine⟨_,_,uE,rfl,?_⟩)|skip)
  all_goals(try(conv=>whnf))
  all_goals exact bo (by simp_all[clean,KW])
end Go.Proofs.YtfepbikckfehlaaGreat
